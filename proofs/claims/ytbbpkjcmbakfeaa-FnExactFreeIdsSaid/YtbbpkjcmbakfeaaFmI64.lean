/- What the laws' helpers that mark and look for marks do with []int64; no condition. -/
import Derived.Test.YtbbpkjcmbakfeaaHf
import Derived.Test.YtbbpkjcmbakfeaaProg
import Derived.Deep.RegionHeld3
namespace Go.Proofs.Ytbbpkjcmbakfeaa
open Go.RowKit
set_option linter.unusedVariables false
set_option linter.unusedSimpArgs false

theorem cnts_Int64S (xs : List D) (ih : ∀ x ∈ xs, ∃ n, x = D.int .i64 n) : D.cnts xs = xs.length := by
  induction xs with
  | nil => rfl
  | cons x xs h =>
    obtain ⟨n, rfl⟩ := ih x (by simp)
    simp only [D.cnts, D.cnt, List.length_cons]
    rw [h (fun y hy => ih y (by simp [hy]))]
    omega
theorem marks_Int64S (xs : List D) (ih : ∀ x ∈ xs, ∃ n, x = D.int .i64 n) (k : Nat) : ∀ i, i < xs.length → (D.marks xs k)[i]? = some (.int .i64 (IntKind.i64.wrap ((k + i : Nat) : Int))) := by
  induction xs generalizing k with
  | nil => intro i hi; simp at hi
  | cons x xs h =>
    intro i hi
    obtain ⟨n, rfl⟩ := ih x (by simp)
    simp only [D.marks, D.mark, D.cnt]
    cases i with
    | zero => simp
    | succ i =>
      rw [List.getElem?_cons_succ, h (fun y hy => ih y (by simp [hy])) (k + 1) i (by simpa using hi)]
      congr 3
      omega
set_option maxRecDepth 100000 in
theorem markInt64S_of (xs : List D) (hn : xs.length ≤ 140737488351232) (ih : ∀ x ∈ xs, ∃ n, x = D.int .i64 n) : MkO Try.prog 19 (.slice 1 xs) := by
  intro w v fp k h hnd hl hk
  simp only [D.K] at h
  obtain ⟨A, c, he, h2, h3, h4⟩ := h
  obtain rfl : v = .slice A xs.length c := by simpa using he
  simp only [D.tcnt, cnts_Int64S xs ih] at hk ⊢
  rcases h4 with ⟨rfl, rfl⟩ | ⟨b, off, f, rfl, h6, rfl, h8⟩
  · go_enter Try.func19, Try.ntmps19
    go_wp2_with fail
    go_loop [1, 5] (fun q i => i = .int .i64 0 ∧ q = .int .i64 k) (fun _ _ => 0)
    case atStart => exact ⟨rfl, rfl⟩
    case round =>
      obtain ⟨rfl, rfl⟩ := hrel
      go_wp2_with fail
      go_ret
      exact ⟨by first | rfl | exact ret_int (by simp), by simp only [D.top, D.marks, D.K]; exact ⟨A, c, rfl, h2, h3, .inl ⟨True.intro, True.intro⟩⟩, TouchF.refl _ _⟩
  · have IH := Lib.hid ih
    have HL := Lib.hid hl
    have HN := Lib.hid hnd
    have H8 := Lib.hid h8
    have H2 := Lib.hid h2
    have H3 := Lib.hid h3
    have HB := Lib.hid (List.nodup_cons.1 hnd).1
    clear he ih hl hnd h8 h2 h3
    go_enter Try.func19, Try.ntmps19
    go_wp2_with fail
    go_loopw [1, 5] (fun q i wr => ∃ j : Nat, j ≤ xs.length ∧ i = .int .i64 j ∧ q = .int .i64 ((k : Int) + j) ∧ Hid (D.Row wr b off 1 (D.marks (xs.take j) k ++ xs.drop j) f ∧ TouchF (b :: f) w wr)) (fun _ i _ => xs.length - (intOf i).toNat)
    case atStart => exact ⟨0, Nat.zero_le _, rfl, by simp, Lib.hid ⟨by simpa [D.marks] using H8.out, TouchF.refl _ _⟩⟩
    case round =>
      obtain ⟨j, hj, rfl, rfl, hrel⟩ := hrel
      obtain ⟨hrow, ht⟩ := hrel.out
      clear hrel
      have hct : D.cnts (xs.take j) = j := by rw [cnts_Int64S _ (fun x hx => IH.out x (List.mem_of_mem_take hx)), List.length_take]; omega
      have hlen : (D.marks (xs.take j) k).length = j := by rw [D.marks_length, List.length_take]; omega
      by_cases hlt : j < xs.length
      · rw [List.drop_eq_getElem_cons hlt] at hrow
        obtain ⟨z, hz⟩ := IH.out _ (List.getElem_mem hlt)
        rw [hz] at hrow
        have hlive := ht.live b (by simp) (HL.out b (by simp))
        obtain ⟨f1, f2, f3, u, hfp, _, hu, hcell, _⟩ := D.Row_at hrow
        have hput := D.Row_put (a' := .int .i64 (IntKind.i64.wrap ((k + j : Nat) : Int))) (u := u) (u' := .int .i64 (IntKind.i64.wrap ((k + j : Nat) : Int))) hrow HB.out hlive (fun v f h => by simp only [D.K] at h; exact h.2) (fun w => by simp [D.K])
        have ROW : Hid (D.Row (wr.setCell ⟨b, off + j, none⟩ (.int .i64 (IntKind.i64.wrap ((k + j : Nat) : Int)))) b off 1 (D.marks (xs.take (j + 1)) k ++ xs.drop (j + 1)) f) := by
          show D.Row _ _ _ _ _ _
          rw [hlen] at hput
          rw [List.take_succ_eq_append_getElem hlt, D.marks_append, hct, hz]
          simpa [D.marks, D.mark] using hput
        rw [hlen] at hcell
        simp only [D.K, List.cons.injEq, and_true] at hu
        obtain ⟨rfl, -⟩ := hu
        obtain ⟨cur, e, hcur⟩ := hlive
        have zf := blk_frozen hcur (off + j)
        have HT := Lib.hid (ht.trans (TouchF.set (o := off + j) (by simp : b ∈ b :: f) (.int .i64 (IntKind.i64.wrap ((k + j : Nat) : Int)))))
        rw [i64_small _ (by omega)] at ROW HT
        simp only [Int.natCast_add] at ROW HT
        clear hput hrow ht hfp hcur hct hlen
        go_wp2_with fail
        go_roundw
        case rel => exact ⟨j + 1, by omega, by go_num, by go_num, Lib.hid ⟨ROW.out, HT.out⟩⟩
        case measure => simp [intOf]; omega
      · obtain rfl : j = xs.length := by omega
        rw [List.drop_length, List.append_nil, List.take_length] at hrow
        have ROW := Lib.hid hrow
        have HT := Lib.hid ht
        clear hrow ht hct hlen
        go_wp2_with fail
        go_ret
        exact ⟨ret_int (by omega), by simp only [D.top, D.K]; exact ⟨_, c, by rw [D.marks_length], by rw [D.marks_length]; exact H2.out, H3.out, .inr ⟨b, off, f, rfl, Nat.lt_of_lt_of_le h6 HT.out.size, rfl, ROW.out⟩⟩, HT.out⟩
set_option maxRecDepth 100000 in
theorem heldInt64S_of (xs : List D) (hn : xs.length ≤ 140737488351232) (ih : ∀ x ∈ xs, ∃ n, x = D.int .i64 n) : HdO Try.prog 20 (.slice 1 xs) := by
  intro w v k h hk
  simp only [D.top] at h
  obtain ⟨A, c, rfl, _, _, hrow⟩ := rd_slice1 h
  simp only [D.tcnt, cnts_Int64S xs ih] at hk ⊢
  rw [D.marks_length]
  have IH := Lib.hid ih
  have H := Lib.hid hrow
  clear ih h hrow
  go_enter Try.func20, Try.ntmps20
  go_wp2_with fail
  go_loop [1, 5] (fun q i => ∃ j : Nat, j ≤ xs.length ∧ i = .int .i64 j ∧ q = .int .i64 ((k : Int) + j)) (fun _ i => xs.length - (intOf i).toNat)
  case atStart => exact ⟨0, Nat.zero_le _, rfl, by simp⟩
  case round =>
    obtain ⟨j, hj, rfl, rfl⟩ := hrel
    by_cases hlt : j < xs.length
    · obtain ⟨b, off, cs, rfl, hcl, hrd, hc⟩ := H.out.get (marks_Int64S xs IH.out k j hlt)
      obtain rfl := rd_int.1 hrd
      have c0 := hc 0 _ rfl
      rw [Nat.mul_one, Nat.add_zero] at c0
      rw [i64_small _ (by omega)] at c0
      simp only [Int.natCast_add] at c0
      clear hrd hcl hc
      go_wp2_with fail
      go_round
      case rel => exact ⟨j + 1, by omega, by go_num, by go_num⟩
      case measure => simp [intOf]; omega
    · obtain rfl : j = xs.length := by omega
      go_wp2_with fail
      go_ret
      exact ⟨ret_int (by omega), Below.refl _ _⟩

end Go.Proofs.Ytbbpkjcmbakfeaa
