/- The law 'FnExactLex' walked: over whatever both functions answer alike; no condition. -/
import Derived.Test.YtifmnijdaboenaaDoorFmTok
import Derived.Test.YtifmnijdaboenaaDoorFamTok
import Derived.Test.YtifmnijdaboenaaDoorFamLexR
import Derived.Deep.RegionHeld3
import Derived.Deep.RegionWith
import Derived.Deep.DeepCutAuto
import Derived.Deep.CutBlock
namespace Go.Proofs.YtifmnijdaboenaaDoor
open Go.RowKit
set_option linter.unusedVariables false
set_option linter.unusedSimpArgs false

theorem infoSzLexResult : (Tryd.prog.info? 24).map (·.size) = some 4 := by kernel_rfl
theorem bs1_FnExactLex {w : World} {g i : Nat} {q : Addr} {v u : Value} (h : w.cell? q = some v) (hne : q.block ≠ g) : (w.setCell ⟨g, i, none⟩ u).cell? q = some v := (World.cell?_of_block (a := q) (Below.heap_setCell w ⟨g, i, none⟩ u q.block hne)).trans h
theorem net_FnExactLex {w : World} {a b : Nat} {c1 c2 : Array Value} {T1 T2 : TypeId} {f1 f2 : Nat × Nat} (h1 : w.heap[a]? = some (.cells c1 T1 f1)) (h2 : w.heap[b]? = some (.cells c2 T2 f2)) (hT : T2 ≠ T1) : a ≠ b := fun e => by
  subst e
  rw [h1] at h2
  injection h2 with h2
  injection h2 with _ h2 _
  exact hT h2.symm
set_option maxRecDepth 100000 in
set_option maxHeartbeats 40000000 in
theorem lawFnExactLex (s_aText : ByteArray) (r : D) (hn_r : r.n = 4)
    (EQ_r : EqA Tryd.prog 9 r)
    (MK_r : s_aText.size ≤ 1048576 → r.tcnt ≤ 1099511627776 ∧ MkA Tryd.prog 10 r ∧ HdA Tryd.prog 11 r)
    (w : World) (SP : s_aText.size ≤ 1048576 → ∀ (w : World), Calls Tryd.prog 7 #[.string s_aText] w fun e w' => ∃ cs', e = .returned (.agg cs'.toArray) ∧ Fr w.heap.size w' r cs' ∧ Below w.heap.size w w')
    (IM : s_aText.size ≤ 1048576 → ∀ (w1 : World), Below w.heap.size w w1 → Calls Tryd.prog 8 #[.string s_aText] w1 fun e w' => ∃ cs', e = .returned (.agg cs'.toArray) ∧ Fr w1.heap.size w' r cs' ∧ Below w1.heap.size w1 w') (hs_aText : s_aText.size ≤ 140737488351232) :
    Calls Tryd.prog 3 #[.string s_aText] w fun e w' => e = .returned (.bool true) ∧ Below w.heap.size w w' := by
  have HEQ_r := Lib.hid EQ_r
  have HMK_r := Lib.hid MK_r
  have HSP := Lib.hid SP
  have HIM := Lib.hid IM
  clear EQ_r MK_r SP IM
  have HB := Lib.hid (Below.refl w.heap.size w)
  have HS := Lib.hid (Has.nil w)
  have SZ0 := Lib.hid (show w.heap.size = w.heap.size from rfl)
  by_cases hq_aText : s_aText.size ≤ 1048576
  rotate_left
  · have hq' : 1048576 < s_aText.size := by omega
    go_enter Tryd.func3, Tryd.ntmps3
    go_wp2_with fail
    go_ret
    exact ⟨rfl, HB.out⟩
  go_enter Tryd.func3, Tryd.ntmps3
  go_wp2_with fail
  have HSP := Lib.hid (HSP.out (by omega))
  have HIM := Lib.hid (HIM.out (by omega))
  have HMK_r := Lib.hid (HMK_r.out (by omega))
  refine ((HSP.out _)).mono ?_
  rintro e w1 ⟨cs, rfl, hfr, hb⟩
  obtain ⟨q1_0, q1_1, q1_2, q1_3, rfl⟩ := cells4 (hfr.len.trans hn_r)
  have HS := Lib.hid (HS.out.below hb)
  have SZ1 := Lib.hid (show w.heap.size ≤ w1.heap.size from hb.size)
  have HB := Lib.hid (HB.out.trans (hb.mono HB.out.size))
  have HS := Lib.hid (HS.out.add (a := (.dat w.heap.size w1.heap.size r [q1_0, q1_1, q1_2, q1_3])) hfr.range)
  have ONEq1 := Lib.hid hfr.all
  clear hb hfr
  go_wp2_with (refine wpl_store_new' rfl 24 (.tmp 3) (.tmp 12) rfl _ #[q1_0, q1_1, q1_2, q1_3] rfl rfl (infoSzLexResult) rfl ONEq1.out ?_; intro w2 hbk hbl hsz; have HS := Lib.hid ((HS.out.below hbl)); have HS := Lib.hid (HS.out.add (a := (.blk (w1.heap.size) (.cells #[q1_0, q1_1, q1_2, q1_3] 24 (0, 0)))) hbk); have SZ2 := Lib.hid hsz; have HB := Lib.hid (HB.out.trans (hbl.mono HB.out.size)); clear hbk hbl hsz)
  refine ((HIM.out _ HB.out)).mono ?_
  rintro e w3 ⟨cs, rfl, hfr, hb⟩
  obtain ⟨q2_0, q2_1, q2_2, q2_3, rfl⟩ := cells4 (hfr.len.trans hn_r)
  have HS := Lib.hid (HS.out.below hb)
  have SZ3 := Lib.hid (show w2.heap.size ≤ w3.heap.size from hb.size)
  have HB := Lib.hid (HB.out.trans (hb.mono HB.out.size))
  have HS := Lib.hid (HS.out.add (a := (.dat w2.heap.size w3.heap.size r [q2_0, q2_1, q2_2, q2_3])) hfr.range)
  have ONEq2 := Lib.hid hfr.all
  clear hb hfr
  go_wp2_with (refine wpl_store_new' rfl 24 (.tmp 4) (.tmp 14) rfl _ #[q2_0, q2_1, q2_2, q2_3] rfl rfl (infoSzLexResult) rfl ONEq2.out ?_; intro w4 hbk hbl hsz; have HS := Lib.hid ((HS.out.below hbl)); have HS := Lib.hid (HS.out.add (a := (.blk (w3.heap.size) (.cells #[q2_0, q2_1, q2_2, q2_3] 24 (0, 0)))) hbk); have SZ4 := Lib.hid hsz; have HB := Lib.hid (HB.out.trans (hbl.mono HB.out.size)); clear hbk hbl hsz; have hblk := HS.out.blk (g := w3.heap.size) (o := .cells #[q2_0, q2_1, q2_2, q2_3] 24 (0, 0)) List.mem_cons_self; have zbq2_0 := (blk_cell hblk 0).trans (rfl : _ = some q2_0); have zbq2_1 := (blk_cell hblk 1).trans (rfl : _ = some q2_1); have zbq2_2 := (blk_cell hblk 2).trans (rfl : _ = some q2_2); have zbq2_3 := (blk_cell hblk 3).trans (rfl : _ = some q2_3); clear hblk; have hblk := HS.out.blk (g := w1.heap.size) (o := .cells #[q1_0, q1_1, q1_2, q1_3] 24 (0, 0)) (List.mem_cons_of_mem _ (List.mem_cons_of_mem _ List.mem_cons_self)); have zbq1_0 := (blk_cell hblk 0).trans (rfl : _ = some q1_0); have zbq1_1 := (blk_cell hblk 1).trans (rfl : _ = some q1_1); have zbq1_2 := (blk_cell hblk 2).trans (rfl : _ = some q1_2); have zbq1_3 := (blk_cell hblk 3).trans (rfl : _ = some q1_3); clear hblk)
  refine ((HEQ_r.out _ _ _ (HS.out.dat (x := r) (B := w2.heap.size) (C := w3.heap.size) (cs := [q2_0, q2_1, q2_2, q2_3]) (List.mem_cons_of_mem _ List.mem_cons_self)).rd (HS.out.dat (x := r) (B := w.heap.size) (C := w1.heap.size) (cs := [q1_0, q1_1, q1_2, q1_3]) (List.mem_cons_of_mem _ (List.mem_cons_of_mem _ (List.mem_cons_of_mem _ List.mem_cons_self)))).rd)).mono ?_
  rintro e w5 ⟨rfl, hb⟩
  have HS := Lib.hid (HS.out.below hb)
  have SZ5 := Lib.hid (show w4.heap.size ≤ w5.heap.size from hb.size)
  have HB := Lib.hid (HB.out.trans (hb.mono HB.out.size))
  clear hb
  clear zbq2_0 zbq2_1 zbq2_2 zbq2_3 zbq1_0 zbq1_1 zbq1_2 zbq1_3
  have hblk := HS.out.blk (g := w3.heap.size) (o := .cells #[q2_0, q2_1, q2_2, q2_3] 24 (0, 0)) List.mem_cons_self
  have zbq2_0 := (blk_cell hblk 0).trans (rfl : _ = some q2_0)
  have zbq2_1 := (blk_cell hblk 1).trans (rfl : _ = some q2_1)
  have zbq2_2 := (blk_cell hblk 2).trans (rfl : _ = some q2_2)
  have zbq2_3 := (blk_cell hblk 3).trans (rfl : _ = some q2_3)
  clear hblk
  go_wp2_with fail
  have sSZ0 := SZ0.out
  have sSZ1 := SZ1.out
  have sSZ2 := SZ2.out
  have sSZ3 := SZ3.out
  have sSZ4 := SZ4.out
  have sSZ5 := SZ5.out
  have hcn := HMK_r.out.1
  refine (HMK_r.out.2.1.one (HS.out.dat (x := r) (B := w2.heap.size) (C := w3.heap.size) (cs := [q2_0, q2_1, q2_2, q2_3]) (List.mem_cons_of_mem _ List.mem_cons_self)) (by omega)).mono ?_
  rintro e w6 ⟨n1, hn1, rfl, hf, ht⟩
  have HS := Lib.hid (Has.touch (Has.mid (l1 := [(.blk (w3.heap.size) (.cells #[q2_0, q2_1, q2_2, q2_3] 24 (0, 0)))]) (l2 := [(.blk (w1.heap.size) (.cells #[q1_0, q1_1, q1_2, q1_3] 24 (0, 0))), (.dat w.heap.size w1.heap.size r [q1_0, q1_1, q1_2, q1_3])]) HS.out) ht (ap_cons (show _ ∨ _ by omega) (ap_cons (show _ ∨ _ by omega) (ap_cons (show _ ∨ _ by omega) (ap_nil)))))
  have SZ6 := Lib.hid (show w5.heap.size ≤ w6.heap.size from ht.size)
  have HS := Lib.hid (HS.out.add (a := (.dat w2.heap.size w3.heap.size (r.top 1) [q2_0, q2_1, q2_2, q2_3])) hf)
  have HB := Lib.hid (ht.below HB.out (by omega) HB.out.size)
  have NNn1 : Hid (n1 = 1 + r.tcnt ∧ n1 ≤ 1099511627777) := ⟨hn1, by omega⟩
  clear hf ht hn1 hcn sSZ0 sSZ1 sSZ2 sSZ3 sSZ4 sSZ5
  have hng : decide ((n1 : Int) < 0) = false := decide_eq_false (by omega)
  clear zbq2_0 zbq2_1 zbq2_2 zbq2_3
  have hblk := HS.out.blk (g := w3.heap.size) (o := .cells #[q2_0, q2_1, q2_2, q2_3] 24 (0, 0)) (List.mem_cons_of_mem _ List.mem_cons_self)
  have zbq2_0 := (blk_cell hblk 0).trans (rfl : _ = some q2_0)
  have zbq2_1 := (blk_cell hblk 1).trans (rfl : _ = some q2_1)
  have zbq2_2 := (blk_cell hblk 2).trans (rfl : _ = some q2_2)
  have zbq2_3 := (blk_cell hblk 3).trans (rfl : _ = some q2_3)
  clear hblk
  go_wp2_with fail
  have sSZ0 := SZ0.out
  have sSZ1 := SZ1.out
  have sSZ2 := SZ2.out
  have sSZ3 := SZ3.out
  have sSZ4 := SZ4.out
  have sSZ5 := SZ5.out
  have sSZ6 := SZ6.out
  have hcn := HMK_r.out.1
  refine (HMK_r.out.2.2.one (HS.out.dat (x := (r.top 1)) (B := w2.heap.size) (C := w3.heap.size) (cs := [q2_0, q2_1, q2_2, q2_3]) List.mem_cons_self).rd (by omega)).mono ?_
  rintro e w7 ⟨n2, hn2, rfl, hb⟩
  have HS := Lib.hid (HS.out.below hb)
  have SZ7 := Lib.hid (show w6.heap.size ≤ w7.heap.size from hb.size)
  have HB := Lib.hid (HB.out.trans (hb.mono HB.out.size))
  have NNn2 : Hid (n2 = 1 + r.tcnt ∧ n2 ≤ 1099511627777) := ⟨hn2, by omega⟩
  clear hb hn2 hcn sSZ0 sSZ1 sSZ2 sSZ3 sSZ4 sSZ5 sSZ6
  obtain rfl : n1 = n2 := by have h1 := NNn2.out; have h2 := NNn1.out; omega
  have hng : decide ((n1 : Int) < 0) = false := decide_eq_false (by omega)
  clear zbq2_0 zbq2_1 zbq2_2 zbq2_3
  go_wp2_with fail
  refine ((HIM.out _ HB.out)).mono ?_
  rintro e w8 ⟨cs, rfl, hfr, hb⟩
  obtain ⟨q3_0, q3_1, q3_2, q3_3, rfl⟩ := cells4 (hfr.len.trans hn_r)
  have HS := Lib.hid (HS.out.below hb)
  have SZ8 := Lib.hid (show w7.heap.size ≤ w8.heap.size from hb.size)
  have HB := Lib.hid (HB.out.trans (hb.mono HB.out.size))
  have HS := Lib.hid (HS.out.add (a := (.dat w7.heap.size w8.heap.size r [q3_0, q3_1, q3_2, q3_3])) hfr.range)
  have ONEq3 := Lib.hid hfr.all
  clear hb hfr
  go_wp2_with (refine wpl_store_new' rfl 24 (.tmp 7) (.tmp 31) rfl _ #[q3_0, q3_1, q3_2, q3_3] rfl rfl (infoSzLexResult) rfl ONEq3.out ?_; intro w9 hbk hbl hsz; have HS := Lib.hid ((HS.out.below hbl)); have HS := Lib.hid (HS.out.add (a := (.blk (w8.heap.size) (.cells #[q3_0, q3_1, q3_2, q3_3] 24 (0, 0)))) hbk); have SZ9 := Lib.hid hsz; have HB := Lib.hid (HB.out.trans (hbl.mono HB.out.size)); clear hbk hbl hsz; have hblk := HS.out.blk (g := w8.heap.size) (o := .cells #[q3_0, q3_1, q3_2, q3_3] 24 (0, 0)) List.mem_cons_self; have zbq3_0 := (blk_cell hblk 0).trans (rfl : _ = some q3_0); have zbq3_1 := (blk_cell hblk 1).trans (rfl : _ = some q3_1); have zbq3_2 := (blk_cell hblk 2).trans (rfl : _ = some q3_2); have zbq3_3 := (blk_cell hblk 3).trans (rfl : _ = some q3_3); clear hblk; have hblk := HS.out.blk (g := w1.heap.size) (o := .cells #[q1_0, q1_1, q1_2, q1_3] 24 (0, 0)) (List.mem_cons_of_mem _ (List.mem_cons_of_mem _ (List.mem_cons_of_mem _ (List.mem_cons_of_mem _ List.mem_cons_self)))); have zbq1_0 := (blk_cell hblk 0).trans (rfl : _ = some q1_0); have zbq1_1 := (blk_cell hblk 1).trans (rfl : _ = some q1_1); have zbq1_2 := (blk_cell hblk 2).trans (rfl : _ = some q1_2); have zbq1_3 := (blk_cell hblk 3).trans (rfl : _ = some q1_3); clear hblk)
  refine ((HEQ_r.out _ _ _ (HS.out.dat (x := r) (B := w7.heap.size) (C := w8.heap.size) (cs := [q3_0, q3_1, q3_2, q3_3]) (List.mem_cons_of_mem _ List.mem_cons_self)).rd (HS.out.dat (x := r) (B := w.heap.size) (C := w1.heap.size) (cs := [q1_0, q1_1, q1_2, q1_3]) (List.mem_cons_of_mem _ (List.mem_cons_of_mem _ (List.mem_cons_of_mem _ (List.mem_cons_of_mem _ (List.mem_cons_of_mem _ List.mem_cons_self)))))).rd)).mono ?_
  rintro e w10 ⟨rfl, hb⟩
  have HS := Lib.hid (HS.out.below hb)
  have SZ10 := Lib.hid (show w9.heap.size ≤ w10.heap.size from hb.size)
  have HB := Lib.hid (HB.out.trans (hb.mono HB.out.size))
  clear hb
  clear zbq3_0 zbq3_1 zbq3_2 zbq3_3 zbq1_0 zbq1_1 zbq1_2 zbq1_3
  have hblk := HS.out.blk (g := w3.heap.size) (o := .cells #[q2_0, q2_1, q2_2, q2_3] 24 (0, 0)) (List.mem_cons_of_mem _ (List.mem_cons_of_mem _ (List.mem_cons_of_mem _ List.mem_cons_self)))
  have zbq2_0 := (blk_cell hblk 0).trans (rfl : _ = some q2_0)
  have zbq2_1 := (blk_cell hblk 1).trans (rfl : _ = some q2_1)
  have zbq2_2 := (blk_cell hblk 2).trans (rfl : _ = some q2_2)
  have zbq2_3 := (blk_cell hblk 3).trans (rfl : _ = some q2_3)
  clear hblk
  go_wp2_with fail
  have sSZ0 := SZ0.out
  have sSZ1 := SZ1.out
  have sSZ2 := SZ2.out
  have sSZ3 := SZ3.out
  have sSZ4 := SZ4.out
  have sSZ5 := SZ5.out
  have sSZ6 := SZ6.out
  have sSZ7 := SZ7.out
  have sSZ8 := SZ8.out
  have sSZ9 := SZ9.out
  have sSZ10 := SZ10.out
  have hcn := HMK_r.out.1
  refine (HMK_r.out.2.2.one (HS.out.dat (x := (r.top 1)) (B := w2.heap.size) (C := w3.heap.size) (cs := [q2_0, q2_1, q2_2, q2_3]) (List.mem_cons_of_mem _ (List.mem_cons_of_mem _ List.mem_cons_self))).rd (by omega)).mono ?_
  rintro e w11 ⟨n3, hn3, rfl, hb⟩
  have HS := Lib.hid (HS.out.below hb)
  have SZ11 := Lib.hid (show w10.heap.size ≤ w11.heap.size from hb.size)
  have HB := Lib.hid (HB.out.trans (hb.mono HB.out.size))
  have NNn3 : Hid (n3 = 1 + r.tcnt ∧ n3 ≤ 1099511627777) := ⟨hn3, by omega⟩
  clear hb hn3 hcn sSZ0 sSZ1 sSZ2 sSZ3 sSZ4 sSZ5 sSZ6 sSZ7 sSZ8 sSZ9 sSZ10
  obtain rfl : n1 = n3 := by have h1 := NNn3.out; have h2 := NNn1.out; omega
  have hng : decide ((n1 : Int) < 0) = false := decide_eq_false (by omega)
  go_wp2
  go_ret
  exact ⟨rfl, HB.out⟩

end Go.Proofs.YtifmnijdaboenaaDoor
