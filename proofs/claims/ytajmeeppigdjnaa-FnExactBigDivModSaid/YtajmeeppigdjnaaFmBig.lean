/- What the laws' helpers that mark and look for marks do with []uint32,Big,BigResult,BigPair; no condition. -/
import Derived.Test.YtajmeeppigdjnaaHm
import Derived.Test.YtajmeeppigdjnaaProg
namespace Go.Proofs.Ytajmeeppigdjnaa
open Go.RowKit
set_option linter.unusedVariables false
set_option linter.unusedSimpArgs false

theorem cnts_Uint32S (xs : List D) (ih : ∀ x ∈ xs, ∃ n, x = D.int .u32 n) : D.cnts xs = xs.length := by
  induction xs with
  | nil => rfl
  | cons x xs h =>
    obtain ⟨n, rfl⟩ := ih x (by simp)
    simp only [D.cnts, D.cnt, List.length_cons]
    rw [h (fun y hy => ih y (by simp [hy]))]
    omega
theorem marks_Uint32S (xs : List D) (ih : ∀ x ∈ xs, ∃ n, x = D.int .u32 n) (k : Nat) : ∀ i, i < xs.length → (D.marks xs k)[i]? = some (.int .u32 (IntKind.u32.wrap ((k + i : Nat) : Int))) := by
  induction xs generalizing k with
  | nil => intro i hi; simp at hi
  | cons x xs h =>
    intro i hi
    obtain ⟨n, rfl⟩ := ih x (by simp)
    simp only [D.marks, D.mark, D.cnt]
    cases i with
    | zero => simp
    | succ i =>
      rw [List.getElem?_cons_succ, h (fun y hy => ih y (by simp [hy])) (k + 1) i (by simpa using hi)]
      congr 3
      omega
set_option maxRecDepth 100000 in
theorem markUint32S_of (xs : List D) (hn : xs.length ≤ 140737488351232) (ih : ∀ x ∈ xs, ∃ n, x = D.int .u32 n) : MkO Try.prog 55 (.slice 1 xs) := by
  intro w v fp k h hnd hl hk
  simp only [D.K] at h
  obtain ⟨A, c, he, h2, h3, h4⟩ := h
  obtain rfl : v = .slice A xs.length c := by simpa using he
  simp only [D.tcnt, cnts_Uint32S xs ih] at hk ⊢
  rcases h4 with ⟨rfl, rfl⟩ | ⟨b, off, f, rfl, h6, rfl, h8⟩
  · go_enter Try.func55, Try.ntmps55
    go_wp2_with fail
    go_loop [1, 5] (fun q i => i = .int .i64 0 ∧ q = .int .i64 k) (fun _ _ => 0)
    case atStart => exact ⟨rfl, rfl⟩
    case round =>
      obtain ⟨rfl, rfl⟩ := hrel
      go_wp2_with fail
      go_ret
      exact ⟨by first | rfl | exact ret_int (by simp), by simp only [D.top, D.marks, D.K]; exact ⟨A, c, rfl, h2, h3, .inl ⟨True.intro, True.intro⟩⟩, TouchF.refl _ _⟩
  · have IH := Lib.hid ih
    have HL := Lib.hid hl
    have HN := Lib.hid hnd
    have H8 := Lib.hid h8
    have H2 := Lib.hid h2
    have H3 := Lib.hid h3
    have HB := Lib.hid (List.nodup_cons.1 hnd).1
    clear he ih hl hnd h8 h2 h3
    go_enter Try.func55, Try.ntmps55
    go_wp2_with fail
    go_loopw [1, 5] (fun q i wr => ∃ j : Nat, j ≤ xs.length ∧ i = .int .i64 j ∧ q = .int .i64 ((k : Int) + j) ∧ Hid (D.Row wr b off 1 (D.marks (xs.take j) k ++ xs.drop j) f ∧ TouchF (b :: f) w wr)) (fun _ i _ => xs.length - (intOf i).toNat)
    case atStart => exact ⟨0, Nat.zero_le _, rfl, by simp, Lib.hid ⟨by simpa [D.marks] using H8.out, TouchF.refl _ _⟩⟩
    case round =>
      obtain ⟨j, hj, rfl, rfl, hrel⟩ := hrel
      obtain ⟨hrow, ht⟩ := hrel.out
      clear hrel
      have hct : D.cnts (xs.take j) = j := by rw [cnts_Uint32S _ (fun x hx => IH.out x (List.mem_of_mem_take hx)), List.length_take]; omega
      have hlen : (D.marks (xs.take j) k).length = j := by rw [D.marks_length, List.length_take]; omega
      by_cases hlt : j < xs.length
      · rw [List.drop_eq_getElem_cons hlt] at hrow
        obtain ⟨z, hz⟩ := IH.out _ (List.getElem_mem hlt)
        rw [hz] at hrow
        have hlive := ht.live b (by simp) (HL.out b (by simp))
        obtain ⟨f1, f2, f3, u, hfp, _, hu, hcell, _⟩ := D.Row_at hrow
        have hput := D.Row_put (a' := .int .u32 (IntKind.u32.wrap ((k + j : Nat) : Int))) (u := u) (u' := .int .u32 (IntKind.u32.wrap ((k + j : Nat) : Int))) hrow HB.out hlive (fun v f h => by simp only [D.K] at h; exact h.2) (fun w => by simp [D.K])
        have ROW : Hid (D.Row (wr.setCell ⟨b, off + j, none⟩ (.int .u32 (IntKind.u32.wrap ((k + j : Nat) : Int)))) b off 1 (D.marks (xs.take (j + 1)) k ++ xs.drop (j + 1)) f) := by
          show D.Row _ _ _ _ _ _
          rw [hlen] at hput
          rw [List.take_succ_eq_append_getElem hlt, D.marks_append, hct, hz]
          simpa [D.marks, D.mark] using hput
        rw [hlen] at hcell
        simp only [D.K, List.cons.injEq, and_true] at hu
        obtain ⟨rfl, -⟩ := hu
        obtain ⟨cur, e, hcur⟩ := hlive
        have zf := blk_frozen hcur (off + j)
        have HT := Lib.hid (ht.trans (TouchF.set (o := off + j) (by simp : b ∈ b :: f) (.int .u32 (IntKind.u32.wrap ((k + j : Nat) : Int)))))
        rw [IntKind.wrap_u32] at ROW HT
        simp only [Int.natCast_add] at ROW HT
        clear hput hrow ht hfp hcur hct hlen
        go_wp2_with fail
        go_roundw
        case rel => exact ⟨j + 1, by omega, by go_num, by go_num, Lib.hid ⟨ROW.out, HT.out⟩⟩
        case measure => simp [intOf]; omega
      · obtain rfl : j = xs.length := by omega
        rw [List.drop_length, List.append_nil, List.take_length] at hrow
        have ROW := Lib.hid hrow
        have HT := Lib.hid ht
        clear hrow ht hct hlen
        go_wp2_with fail
        go_ret
        exact ⟨ret_int (by omega), by simp only [D.top, D.K]; exact ⟨_, c, by rw [D.marks_length], by rw [D.marks_length]; exact H2.out, H3.out, .inr ⟨b, off, f, rfl, Nat.lt_of_lt_of_le h6 HT.out.size, rfl, ROW.out⟩⟩, HT.out⟩
set_option maxRecDepth 100000 in
theorem heldUint32S_of (xs : List D) (hn : xs.length ≤ 140737488351232) (ih : ∀ x ∈ xs, ∃ n, x = D.int .u32 n) : HdO Try.prog 56 (.slice 1 xs) := by
  intro w v k h hk
  simp only [D.top] at h
  obtain ⟨A, c, rfl, _, _, hrow⟩ := rd_slice1 h
  simp only [D.tcnt, cnts_Uint32S xs ih] at hk ⊢
  rw [D.marks_length]
  have IH := Lib.hid ih
  have H := Lib.hid hrow
  clear ih h hrow
  go_enter Try.func56, Try.ntmps56
  go_wp2_with fail
  go_loop [1, 5] (fun q i => ∃ j : Nat, j ≤ xs.length ∧ i = .int .i64 j ∧ q = .int .i64 ((k : Int) + j)) (fun _ i => xs.length - (intOf i).toNat)
  case atStart => exact ⟨0, Nat.zero_le _, rfl, by simp⟩
  case round =>
    obtain ⟨j, hj, rfl, rfl⟩ := hrel
    by_cases hlt : j < xs.length
    · obtain ⟨b, off, cs, rfl, hcl, hrd, hc⟩ := H.out.get (marks_Uint32S xs IH.out k j hlt)
      obtain rfl := rd_int.1 hrd
      have c0 := hc 0 _ rfl
      rw [Nat.mul_one, Nat.add_zero] at c0
      rw [IntKind.wrap_u32] at c0
      simp only [Int.natCast_add] at c0
      clear hrd hcl hc
      go_wp2_with fail
      go_round
      case rel => exact ⟨j + 1, by omega, by go_num, by go_num⟩
      case measure => simp [intOf]; omega
    · obtain rfl : j = xs.length := by omega
      go_wp2_with fail
      go_ret
      exact ⟨ret_int (by omega), Below.refl _ _⟩

set_option maxRecDepth 100000 in
theorem markBig_of (bMinus : Bool) (xLimbs : List D) (mkLimbs : MkO Try.prog 55 (D.slice 1 xLimbs)) : MkA Try.prog 18 (.struct [.bool bMinus, .slice 1 xLimbs]) := by
  intro w cs fp k h hnd hl hk
  obtain ⟨u0, u1, rfl⟩ := cells2 (D.K_len _ h)
  have h0 := D.K_struct.1 h
  have hlt := D.Fields_lt _ h0
  have hb := (Below.refl w.heap.size w).alloc (Nat.le_refl _) (.cells #[u0, u1] 24)
  have hF := D.Fields_below h0 hb
  have BK := Lib.hid (blk_new w (.cells #[u0, u1] 24))
  have T0 := Lib.hid (TouchF.of_below (fp := fp) hb)
  have GN : Hid (w.heap.size ∉ fp) := fun hm => by have := hlt _ hm; omega
  have HL := Lib.hid hl
  have HND := Lib.hid hnd
  have HF := Lib.hid hF
  have TC : Hid (D.tcnt (.struct [.bool bMinus, .slice 1 xLimbs]) = (D.slice 1 xLimbs).tcnt) := by show _ = _; simp only [D.tcnt, D.tcnts]; omega
  rw [TC.out] at hk
  clear h h0 hlt hb hF hl hnd
  have MKLimbs := Lib.hid mkLimbs
  clear mkLimbs
  go_enter Try.func18, Try.ntmps18
  go_wp2_with fail
  obtain ⟨g0, nd0, sub0, kk0, put0⟩ := D.Fields_at (ms := [(D.bool bMinus)]) (a := (D.slice 1 xLimbs)) (rs := []) (n1 := 1) (n2 := 1) HF.out HND.out (by rfl) (by rfl)
  have CAL := MKLimbs.out _ _ g0 (k) kk0 nd0 (fun j hj => T0.out.live j (sub0 j hj) (HL.out j (sub0 j hj))) (by omega)
  refine CAL.mono ?_
  clear CAL
  rintro e w1 ⟨rfl, kn, tn⟩
  have HF := Lib.hid (put0 _ _ tn kn)
  have T0 := Lib.hid (T0.out.trans (tn.mono sub0))
  have BK := Lib.hid (cells_touch BK.out tn (fun hm => GN.out (sub0 _ hm)))
  clear kn tn put0 kk0 nd0 sub0
  go_wp2
  go_ret
  exact ⟨ret_int (by rw [TC.out]; omega), D.K_struct.2 (by simpa only [D.tops, D.top, D.tcnt, D.tcnts, Nat.add_zero, Nat.zero_add, Nat.add_assoc, List.cons_append, List.nil_append] using HF.out), T0.out⟩

set_option maxRecDepth 100000 in
theorem heldBig_of (bMinus : Bool) (xLimbs : List D) (hdLimbs : HdO Try.prog 56 (D.slice 1 xLimbs)) : HdA Try.prog 19 (.struct [.bool bMinus, .slice 1 xLimbs]) := by
  intro w cs k h hk
  obtain ⟨u0, u1, rfl⟩ := cells2 (show cs.length = 2 from h.len.trans (by simp only [D.top, D.tops, D.n, D.nAll]))
  have h0 := rd_struct.1 h
  have HB := Lib.hid ((Below.refl w.heap.size w).alloc (Nat.le_refl _) (.cells #[u0, u1] 24))
  have BK := Lib.hid (blk_new w (.cells #[u0, u1] 24))
  have TC : Hid (D.tcnt (.struct [.bool bMinus, .slice 1 xLimbs]) = (D.slice 1 xLimbs).tcnt) := by show _ = _; simp only [D.tcnt, D.tcnts]; omega
  rw [TC.out] at hk
  have rLimbs := RdF_at (ms := [(D.bool bMinus)]) (a := ((D.slice 1 xLimbs).top (k))) (rs := []) (n1 := 1) (n2 := 1) (by simpa only [D.tops, D.top, D.tcnt, D.tcnts, Nat.add_zero, Nat.zero_add, Nat.add_assoc, List.cons_append, List.nil_append] using h0) (by rfl) (by rfl)
  have RLimbs := Lib.hid rLimbs
  have HDLimbs := Lib.hid hdLimbs
  clear hdLimbs rLimbs
  clear h h0
  go_enter Try.func19, Try.ntmps19
  go_wp2_with fail
  have CAL := HDLimbs.out _ _ (k) (RLimbs.out.below HB.out) (by omega)
  refine CAL.mono ?_
  clear CAL
  rintro e w1 ⟨rfl, hb⟩
  have HB := Lib.hid (HB.out.trans (hb.mono HB.out.size))
  have BK := Lib.hid (blk_below BK.out hb)
  clear hb
  have hng : decide ((((k + (D.slice 1 xLimbs).tcnt : Nat)) : Int) < 0) = false := decide_eq_false (by omega)
  go_wp2
  go_ret
  exact ⟨ret_int (by rw [TC.out]; omega), HB.out⟩

set_option maxRecDepth 100000 in
theorem markBigResult_of (iCode : Int) (bBigMinus : Bool) (xBigLimbs : List D) (mkBig : MkA Try.prog 18 (D.struct [.bool bBigMinus, .slice 1 xBigLimbs])) : MkA Try.prog 32 (.struct [.int .i64 iCode, .struct [.bool bBigMinus, .slice 1 xBigLimbs]]) := by
  intro w cs fp k h hnd hl hk
  obtain ⟨u0, u1, u2, rfl⟩ := cells3 (D.K_len _ h)
  have h0 := D.K_struct.1 h
  have hlt := D.Fields_lt _ h0
  have hb := (Below.refl w.heap.size w).alloc (Nat.le_refl _) (.cells #[u0, u1, u2] 41)
  have hF := D.Fields_below h0 hb
  have BK := Lib.hid (blk_new w (.cells #[u0, u1, u2] 41))
  have T0 := Lib.hid (TouchF.of_below (fp := fp) hb)
  have GN : Hid (w.heap.size ∉ fp) := fun hm => by have := hlt _ hm; omega
  have HL := Lib.hid hl
  have HND := Lib.hid hnd
  have HF := Lib.hid hF
  have TC : Hid (D.tcnt (.struct [.int .i64 iCode, .struct [.bool bBigMinus, .slice 1 xBigLimbs]]) = (D.struct [.bool bBigMinus, .slice 1 xBigLimbs]).tcnt) := by show _ = _; simp only [D.tcnt, D.tcnts]; omega
  rw [TC.out] at hk
  clear h h0 hlt hb hF hl hnd
  have MKBig := Lib.hid mkBig
  clear mkBig
  go_enter Try.func32, Try.ntmps32
  go_wp2_with fail
  obtain ⟨g0, nd0, sub0, kk0, put0⟩ := D.Fields_at (ms := [(D.int .i64 iCode)]) (a := (D.struct [.bool bBigMinus, .slice 1 xBigLimbs])) (rs := []) (n1 := 1) (n2 := 2) HF.out HND.out (by rfl) (by rfl)
  have CAL := MKBig.out _ [u1, u2] g0 (k) kk0 nd0 (fun j hj => T0.out.live j (sub0 j hj) (HL.out j (sub0 j hj))) (by omega)
  refine CAL.mono ?_
  clear CAL
  rintro e w1 ⟨rfl, kn, tn⟩
  have HF := Lib.hid (put0 _ _ tn kn)
  have T0 := Lib.hid (T0.out.trans (tn.mono sub0))
  have BK := Lib.hid (cells_touch BK.out tn (fun hm => GN.out (sub0 _ hm)))
  clear kn tn put0 kk0 nd0 sub0
  go_wp2
  go_ret
  exact ⟨ret_int (by rw [TC.out]; omega), D.K_struct.2 (by simpa only [D.tops, D.top, D.tcnt, D.tcnts, Nat.add_zero, Nat.zero_add, Nat.add_assoc, List.cons_append, List.nil_append] using HF.out), T0.out⟩

set_option maxRecDepth 100000 in
theorem heldBigResult_of (iCode : Int) (bBigMinus : Bool) (xBigLimbs : List D) (hdBig : HdA Try.prog 19 (D.struct [.bool bBigMinus, .slice 1 xBigLimbs])) : HdA Try.prog 33 (.struct [.int .i64 iCode, .struct [.bool bBigMinus, .slice 1 xBigLimbs]]) := by
  intro w cs k h hk
  obtain ⟨u0, u1, u2, rfl⟩ := cells3 (show cs.length = 3 from h.len.trans (by simp only [D.top, D.tops, D.n, D.nAll]))
  have h0 := rd_struct.1 h
  have HB := Lib.hid ((Below.refl w.heap.size w).alloc (Nat.le_refl _) (.cells #[u0, u1, u2] 41))
  have BK := Lib.hid (blk_new w (.cells #[u0, u1, u2] 41))
  have TC : Hid (D.tcnt (.struct [.int .i64 iCode, .struct [.bool bBigMinus, .slice 1 xBigLimbs]]) = (D.struct [.bool bBigMinus, .slice 1 xBigLimbs]).tcnt) := by show _ = _; simp only [D.tcnt, D.tcnts]; omega
  rw [TC.out] at hk
  have rBig := RdF_at (ms := [(D.int .i64 iCode)]) (a := ((D.struct [.bool bBigMinus, .slice 1 xBigLimbs]).top (k))) (rs := []) (n1 := 1) (n2 := 2) (by simpa only [D.tops, D.top, D.tcnt, D.tcnts, Nat.add_zero, Nat.zero_add, Nat.add_assoc, List.cons_append, List.nil_append] using h0) (by rfl) (by rfl)
  have RBig := Lib.hid rBig
  have HDBig := Lib.hid hdBig
  clear hdBig rBig
  clear h h0
  go_enter Try.func33, Try.ntmps33
  go_wp2_with fail
  have CAL := HDBig.out _ [u1, u2] (k) (RBig.out.below HB.out) (by omega)
  refine CAL.mono ?_
  clear CAL
  rintro e w1 ⟨rfl, hb⟩
  have HB := Lib.hid (HB.out.trans (hb.mono HB.out.size))
  have BK := Lib.hid (blk_below BK.out hb)
  clear hb
  have hng : decide ((((k + (D.struct [.bool bBigMinus, .slice 1 xBigLimbs]).tcnt : Nat)) : Int) < 0) = false := decide_eq_false (by omega)
  go_wp2
  go_ret
  exact ⟨ret_int (by rw [TC.out]; omega), HB.out⟩

set_option maxRecDepth 100000 in
theorem markBigPair_of (iCode : Int) (bQuotMinus : Bool) (xQuotLimbs : List D) (bRemMinus : Bool) (xRemLimbs : List D) (mkQuot : MkA Try.prog 18 (D.struct [.bool bQuotMinus, .slice 1 xQuotLimbs])) (mkRem : MkA Try.prog 18 (D.struct [.bool bRemMinus, .slice 1 xRemLimbs])) : MkA Try.prog 43 (.struct [.int .i64 iCode, .struct [.bool bQuotMinus, .slice 1 xQuotLimbs], .struct [.bool bRemMinus, .slice 1 xRemLimbs]]) := by
  intro w cs fp k h hnd hl hk
  obtain ⟨u0, u1, u2, u3, u4, rfl⟩ := cells5 (D.K_len _ h)
  have h0 := D.K_struct.1 h
  have hlt := D.Fields_lt _ h0
  have hb := (Below.refl w.heap.size w).alloc (Nat.le_refl _) (.cells #[u0, u1, u2, u3, u4] 48)
  have hF := D.Fields_below h0 hb
  have BK := Lib.hid (blk_new w (.cells #[u0, u1, u2, u3, u4] 48))
  have T0 := Lib.hid (TouchF.of_below (fp := fp) hb)
  have GN : Hid (w.heap.size ∉ fp) := fun hm => by have := hlt _ hm; omega
  have HL := Lib.hid hl
  have HND := Lib.hid hnd
  have HF := Lib.hid hF
  have TC : Hid (D.tcnt (.struct [.int .i64 iCode, .struct [.bool bQuotMinus, .slice 1 xQuotLimbs], .struct [.bool bRemMinus, .slice 1 xRemLimbs]]) = (D.struct [.bool bQuotMinus, .slice 1 xQuotLimbs]).tcnt + (D.struct [.bool bRemMinus, .slice 1 xRemLimbs]).tcnt) := by show _ = _; simp only [D.tcnt, D.tcnts]; omega
  rw [TC.out] at hk
  clear h h0 hlt hb hF hl hnd
  have MKQuot := Lib.hid mkQuot
  clear mkQuot
  have MKRem := Lib.hid mkRem
  clear mkRem
  go_enter Try.func43, Try.ntmps43
  go_wp2_with fail
  obtain ⟨g0, nd0, sub0, kk0, put0⟩ := D.Fields_at (ms := [(D.int .i64 iCode)]) (a := (D.struct [.bool bQuotMinus, .slice 1 xQuotLimbs])) (rs := [(D.struct [.bool bRemMinus, .slice 1 xRemLimbs])]) (n1 := 1) (n2 := 2) HF.out HND.out (by rfl) (by rfl)
  have CAL := MKQuot.out _ [u1, u2] g0 (k) kk0 nd0 (fun j hj => T0.out.live j (sub0 j hj) (HL.out j (sub0 j hj))) (by omega)
  refine CAL.mono ?_
  clear CAL
  rintro e w1 ⟨rfl, kn, tn⟩
  have HF := Lib.hid (put0 _ _ tn kn)
  have T0 := Lib.hid (T0.out.trans (tn.mono sub0))
  have BK := Lib.hid (cells_touch BK.out tn (fun hm => GN.out (sub0 _ hm)))
  clear kn tn put0 kk0 nd0 sub0
  have z_0 := blk_cell BK.out 0
  have z_1 := blk_cell BK.out 1
  have z_2 := blk_cell BK.out 2
  have z_3 := blk_cell BK.out 3
  have z_4 := blk_cell BK.out 4
  simp at z_0 z_1 z_2 z_3 z_4
  go_wp2_with fail
  obtain ⟨g1, nd1, sub1, kk1, put1⟩ := D.Fields_at (ms := [(D.int .i64 iCode), ((D.struct [.bool bQuotMinus, .slice 1 xQuotLimbs]).top (k))]) (a := (D.struct [.bool bRemMinus, .slice 1 xRemLimbs])) (rs := []) (n1 := 3) (n2 := 2) HF.out HND.out (by rfl) (by rfl)
  have CAL := MKRem.out _ [u3, u4] g1 (k + (D.struct [.bool bQuotMinus, .slice 1 xQuotLimbs]).tcnt) kk1 nd1 (fun j hj => T0.out.live j (sub1 j hj) (HL.out j (sub1 j hj))) (by omega)
  refine CAL.mono ?_
  clear CAL
  rintro e w2 ⟨rfl, kn, tn⟩
  have HF := Lib.hid (put1 _ _ tn kn)
  have T0 := Lib.hid (T0.out.trans (tn.mono sub1))
  have BK := Lib.hid (cells_touch BK.out tn (fun hm => GN.out (sub1 _ hm)))
  clear kn tn put1 kk1 nd1 sub1
  go_wp2
  go_ret
  exact ⟨ret_int (by rw [TC.out]; omega), D.K_struct.2 (by simpa only [D.tops, D.top, D.tcnt, D.tcnts, Nat.add_zero, Nat.zero_add, Nat.add_assoc, List.cons_append, List.nil_append] using HF.out), T0.out⟩

set_option maxRecDepth 100000 in
theorem heldBigPair_of (iCode : Int) (bQuotMinus : Bool) (xQuotLimbs : List D) (bRemMinus : Bool) (xRemLimbs : List D) (hdQuot : HdA Try.prog 19 (D.struct [.bool bQuotMinus, .slice 1 xQuotLimbs])) (hdRem : HdA Try.prog 19 (D.struct [.bool bRemMinus, .slice 1 xRemLimbs])) : HdA Try.prog 44 (.struct [.int .i64 iCode, .struct [.bool bQuotMinus, .slice 1 xQuotLimbs], .struct [.bool bRemMinus, .slice 1 xRemLimbs]]) := by
  intro w cs k h hk
  obtain ⟨u0, u1, u2, u3, u4, rfl⟩ := cells5 (show cs.length = 5 from h.len.trans (by simp only [D.top, D.tops, D.n, D.nAll]))
  have h0 := rd_struct.1 h
  have HB := Lib.hid ((Below.refl w.heap.size w).alloc (Nat.le_refl _) (.cells #[u0, u1, u2, u3, u4] 48))
  have BK := Lib.hid (blk_new w (.cells #[u0, u1, u2, u3, u4] 48))
  have TC : Hid (D.tcnt (.struct [.int .i64 iCode, .struct [.bool bQuotMinus, .slice 1 xQuotLimbs], .struct [.bool bRemMinus, .slice 1 xRemLimbs]]) = (D.struct [.bool bQuotMinus, .slice 1 xQuotLimbs]).tcnt + (D.struct [.bool bRemMinus, .slice 1 xRemLimbs]).tcnt) := by show _ = _; simp only [D.tcnt, D.tcnts]; omega
  rw [TC.out] at hk
  have rQuot := RdF_at (ms := [(D.int .i64 iCode)]) (a := ((D.struct [.bool bQuotMinus, .slice 1 xQuotLimbs]).top (k))) (rs := [((D.struct [.bool bRemMinus, .slice 1 xRemLimbs]).top (k + (D.struct [.bool bQuotMinus, .slice 1 xQuotLimbs]).tcnt))]) (n1 := 1) (n2 := 2) (by simpa only [D.tops, D.top, D.tcnt, D.tcnts, Nat.add_zero, Nat.zero_add, Nat.add_assoc, List.cons_append, List.nil_append] using h0) (by rfl) (by rfl)
  have RQuot := Lib.hid rQuot
  have HDQuot := Lib.hid hdQuot
  clear hdQuot rQuot
  have rRem := RdF_at (ms := [(D.int .i64 iCode), ((D.struct [.bool bQuotMinus, .slice 1 xQuotLimbs]).top (k))]) (a := ((D.struct [.bool bRemMinus, .slice 1 xRemLimbs]).top (k + (D.struct [.bool bQuotMinus, .slice 1 xQuotLimbs]).tcnt))) (rs := []) (n1 := 3) (n2 := 2) (by simpa only [D.tops, D.top, D.tcnt, D.tcnts, Nat.add_zero, Nat.zero_add, Nat.add_assoc, List.cons_append, List.nil_append] using h0) (by rfl) (by rfl)
  have RRem := Lib.hid rRem
  have HDRem := Lib.hid hdRem
  clear hdRem rRem
  clear h h0
  go_enter Try.func44, Try.ntmps44
  go_wp2_with fail
  have CAL := HDQuot.out _ [u1, u2] (k) (RQuot.out.below HB.out) (by omega)
  refine CAL.mono ?_
  clear CAL
  rintro e w1 ⟨rfl, hb⟩
  have HB := Lib.hid (HB.out.trans (hb.mono HB.out.size))
  have BK := Lib.hid (blk_below BK.out hb)
  clear hb
  have hng : decide ((((k + (D.struct [.bool bQuotMinus, .slice 1 xQuotLimbs]).tcnt : Nat)) : Int) < 0) = false := decide_eq_false (by omega)
  have z_0 := blk_cell BK.out 0
  have z_1 := blk_cell BK.out 1
  have z_2 := blk_cell BK.out 2
  have z_3 := blk_cell BK.out 3
  have z_4 := blk_cell BK.out 4
  simp at z_0 z_1 z_2 z_3 z_4
  go_wp2_with fail
  have CAL := HDRem.out _ [u3, u4] (k + (D.struct [.bool bQuotMinus, .slice 1 xQuotLimbs]).tcnt) (RRem.out.below HB.out) (by omega)
  refine CAL.mono ?_
  clear CAL
  rintro e w2 ⟨rfl, hb⟩
  have HB := Lib.hid (HB.out.trans (hb.mono HB.out.size))
  have BK := Lib.hid (blk_below BK.out hb)
  clear hb
  have hng : decide ((((k + (D.struct [.bool bQuotMinus, .slice 1 xQuotLimbs]).tcnt + (D.struct [.bool bRemMinus, .slice 1 xRemLimbs]).tcnt : Nat)) : Int) < 0) = false := decide_eq_false (by omega)
  go_wp2
  go_ret
  exact ⟨ret_int (by rw [TC.out]; omega), HB.out⟩

end Go.Proofs.Ytajmeeppigdjnaa
