/- What the laws' helpers that mark and look for marks do with []uint32,Big; no condition. -/
import Derived.Test.YthidbmjdphfddaaHm
import Derived.Test.YthidbmjdphfddaaProg
namespace Go.Proofs.Ythidbmjdphfddaa
open Go.RowKit
set_option linter.unusedVariables false
set_option linter.unusedSimpArgs false

theorem cnts_Uint32S (xs : List D) (ih : ∀ x ∈ xs, ∃ n, x = D.int .u32 n) : D.cnts xs = xs.length := by
  induction xs with
  | nil => rfl
  | cons x xs h =>
    obtain ⟨n, rfl⟩ := ih x (by simp)
    simp only [D.cnts, D.cnt, List.length_cons]
    rw [h (fun y hy => ih y (by simp [hy]))]
    omega
theorem marks_Uint32S (xs : List D) (ih : ∀ x ∈ xs, ∃ n, x = D.int .u32 n) (k : Nat) : ∀ i, i < xs.length → (D.marks xs k)[i]? = some (.int .u32 (IntKind.u32.wrap ((k + i : Nat) : Int))) := by
  induction xs generalizing k with
  | nil => intro i hi; simp at hi
  | cons x xs h =>
    intro i hi
    obtain ⟨n, rfl⟩ := ih x (by simp)
    simp only [D.marks, D.mark, D.cnt]
    cases i with
    | zero => simp
    | succ i =>
      rw [List.getElem?_cons_succ, h (fun y hy => ih y (by simp [hy])) (k + 1) i (by simpa using hi)]
      congr 3
      omega
set_option maxRecDepth 100000 in
theorem markUint32S_of (xs : List D) (hn : xs.length ≤ 140737488351232) (ih : ∀ x ∈ xs, ∃ n, x = D.int .u32 n) : MkO Try.prog 127 (.slice 1 xs) := by
  intro w v fp k h hnd hl hk
  simp only [D.K] at h
  obtain ⟨A, c, he, h2, h3, h4⟩ := h
  obtain rfl : v = .slice A xs.length c := by simpa using he
  simp only [D.tcnt, cnts_Uint32S xs ih] at hk ⊢
  rcases h4 with ⟨rfl, rfl⟩ | ⟨b, off, f, rfl, h6, rfl, h8⟩
  · go_enter Try.func127, Try.ntmps127
    go_wp2_with fail
    go_loop [1, 5] (fun q i => i = .int .i64 0 ∧ q = .int .i64 k) (fun _ _ => 0)
    case atStart => exact ⟨rfl, rfl⟩
    case round =>
      obtain ⟨rfl, rfl⟩ := hrel
      go_wp2_with fail
      go_ret
      exact ⟨by first | rfl | exact ret_int (by simp), by simp only [D.top, D.marks, D.K]; exact ⟨A, c, rfl, h2, h3, .inl ⟨True.intro, True.intro⟩⟩, TouchF.refl _ _⟩
  · have IH := Lib.hid ih
    have HL := Lib.hid hl
    have HN := Lib.hid hnd
    have H8 := Lib.hid h8
    have H2 := Lib.hid h2
    have H3 := Lib.hid h3
    have HB := Lib.hid (List.nodup_cons.1 hnd).1
    clear he ih hl hnd h8 h2 h3
    go_enter Try.func127, Try.ntmps127
    go_wp2_with fail
    go_loopw [1, 5] (fun q i wr => ∃ j : Nat, j ≤ xs.length ∧ i = .int .i64 j ∧ q = .int .i64 ((k : Int) + j) ∧ Hid (D.Row wr b off 1 (D.marks (xs.take j) k ++ xs.drop j) f ∧ TouchF (b :: f) w wr)) (fun _ i _ => xs.length - (intOf i).toNat)
    case atStart => exact ⟨0, Nat.zero_le _, rfl, by simp, Lib.hid ⟨by simpa [D.marks] using H8.out, TouchF.refl _ _⟩⟩
    case round =>
      obtain ⟨j, hj, rfl, rfl, hrel⟩ := hrel
      obtain ⟨hrow, ht⟩ := hrel.out
      clear hrel
      have hct : D.cnts (xs.take j) = j := by rw [cnts_Uint32S _ (fun x hx => IH.out x (List.mem_of_mem_take hx)), List.length_take]; omega
      have hlen : (D.marks (xs.take j) k).length = j := by rw [D.marks_length, List.length_take]; omega
      by_cases hlt : j < xs.length
      · rw [List.drop_eq_getElem_cons hlt] at hrow
        obtain ⟨z, hz⟩ := IH.out _ (List.getElem_mem hlt)
        rw [hz] at hrow
        have hlive := ht.live b (by simp) (HL.out b (by simp))
        obtain ⟨f1, f2, f3, u, hfp, _, hu, hcell, _⟩ := D.Row_at hrow
        have hput := D.Row_put (a' := .int .u32 (IntKind.u32.wrap ((k + j : Nat) : Int))) (u := u) (u' := .int .u32 (IntKind.u32.wrap ((k + j : Nat) : Int))) hrow HB.out hlive (fun v f h => by simp only [D.K] at h; exact h.2) (fun w => by simp [D.K])
        have ROW : Hid (D.Row (wr.setCell ⟨b, off + j, none⟩ (.int .u32 (IntKind.u32.wrap ((k + j : Nat) : Int)))) b off 1 (D.marks (xs.take (j + 1)) k ++ xs.drop (j + 1)) f) := by
          show D.Row _ _ _ _ _ _
          rw [hlen] at hput
          rw [List.take_succ_eq_append_getElem hlt, D.marks_append, hct, hz]
          simpa [D.marks, D.mark] using hput
        rw [hlen] at hcell
        simp only [D.K, List.cons.injEq, and_true] at hu
        obtain ⟨rfl, -⟩ := hu
        obtain ⟨cur, e, hcur⟩ := hlive
        have zf := blk_frozen hcur (off + j)
        have HT := Lib.hid (ht.trans (TouchF.set (o := off + j) (by simp : b ∈ b :: f) (.int .u32 (IntKind.u32.wrap ((k + j : Nat) : Int)))))
        rw [IntKind.wrap_u32] at ROW HT
        simp only [Int.natCast_add] at ROW HT
        clear hput hrow ht hfp hcur hct hlen
        go_wp2_with fail
        go_roundw
        case rel => exact ⟨j + 1, by omega, by go_num, by go_num, Lib.hid ⟨ROW.out, HT.out⟩⟩
        case measure => simp [intOf]; omega
      · obtain rfl : j = xs.length := by omega
        rw [List.drop_length, List.append_nil, List.take_length] at hrow
        have ROW := Lib.hid hrow
        have HT := Lib.hid ht
        clear hrow ht hct hlen
        go_wp2_with fail
        go_ret
        exact ⟨ret_int (by omega), by simp only [D.top, D.K]; exact ⟨_, c, by rw [D.marks_length], by rw [D.marks_length]; exact H2.out, H3.out, .inr ⟨b, off, f, rfl, Nat.lt_of_lt_of_le h6 HT.out.size, rfl, ROW.out⟩⟩, HT.out⟩
set_option maxRecDepth 100000 in
theorem markBig_of (bMinus : Bool) (xLimbs : List D) (mkLimbs : MkO Try.prog 127 (D.slice 1 xLimbs)) : MkA Try.prog 69 (.struct [.bool bMinus, .slice 1 xLimbs]) := by
  intro w cs fp k h hnd hl hk
  obtain ⟨u0, u1, rfl⟩ := cells2 (D.K_len _ h)
  have h0 := D.K_struct.1 h
  have hlt := D.Fields_lt _ h0
  have hb := (Below.refl w.heap.size w).alloc (Nat.le_refl _) (.cells #[u0, u1] 32)
  have hF := D.Fields_below h0 hb
  have BK := Lib.hid (blk_new w (.cells #[u0, u1] 32))
  have T0 := Lib.hid (TouchF.of_below (fp := fp) hb)
  have GN : Hid (w.heap.size ∉ fp) := fun hm => by have := hlt _ hm; omega
  have HL := Lib.hid hl
  have HND := Lib.hid hnd
  have HF := Lib.hid hF
  have TC : Hid (D.tcnt (.struct [.bool bMinus, .slice 1 xLimbs]) = (D.slice 1 xLimbs).tcnt) := by show _ = _; simp only [D.tcnt, D.tcnts]; omega
  rw [TC.out] at hk
  clear h h0 hlt hb hF hl hnd
  have MKLimbs := Lib.hid mkLimbs
  clear mkLimbs
  go_enter Try.func69, Try.ntmps69
  go_wp2_with fail
  obtain ⟨g0, nd0, sub0, kk0, put0⟩ := D.Fields_at (ms := [(D.bool bMinus)]) (a := (D.slice 1 xLimbs)) (rs := []) (n1 := 1) (n2 := 1) HF.out HND.out (by rfl) (by rfl)
  have CAL := MKLimbs.out _ _ g0 (k) kk0 nd0 (fun j hj => T0.out.live j (sub0 j hj) (HL.out j (sub0 j hj))) (by omega)
  refine CAL.mono ?_
  clear CAL
  rintro e w1 ⟨rfl, kn, tn⟩
  have HF := Lib.hid (put0 _ _ tn kn)
  have T0 := Lib.hid (T0.out.trans (tn.mono sub0))
  have BK := Lib.hid (cells_touch BK.out tn (fun hm => GN.out (sub0 _ hm)))
  clear kn tn put0 kk0 nd0 sub0
  go_wp2
  go_ret
  exact ⟨ret_int (by rw [TC.out]; omega), D.K_struct.2 (by simpa only [D.tops, D.top, D.tcnt, D.tcnts, Nat.add_zero, Nat.zero_add, Nat.add_assoc, List.cons_append, List.nil_append] using HF.out), T0.out⟩

end Go.Proofs.Ythidbmjdphfddaa
