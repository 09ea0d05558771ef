/- The law 'FnExactTokenFault' walked: over whatever both functions answer alike; no condition. -/
import Derived.Test.YtifmnijdaboenaaDoorFmTok
import Derived.Test.YtifmnijdaboenaaDoorFamTok
import Derived.Deep.RegionHeld3
import Derived.Deep.RegionWith
import Derived.Deep.DeepCutAuto
import Derived.Deep.CutBlock
namespace Go.Proofs.YtifmnijdaboenaaDoor
open Go.RowKit
set_option linter.unusedVariables false
set_option linter.unusedSimpArgs false

theorem infoSzToken : (Tryd.prog.info? 33).map (·.size) = some 4 := by kernel_rfl
theorem bs1_FnExactTokenFault {w : World} {g i : Nat} {q : Addr} {v u : Value} (h : w.cell? q = some v) (hne : q.block ≠ g) : (w.setCell ⟨g, i, none⟩ u).cell? q = some v := (World.cell?_of_block (a := q) (Below.heap_setCell w ⟨g, i, none⟩ u q.block hne)).trans h
theorem net_FnExactTokenFault {w : World} {a b : Nat} {c1 c2 : Array Value} {T1 T2 : TypeId} {f1 f2 : Nat × Nat} (h1 : w.heap[a]? = some (.cells c1 T1 f1)) (h2 : w.heap[b]? = some (.cells c2 T2 f2)) (hT : T2 ≠ T1) : a ≠ b := fun e => by
  subst e
  rw [h1] at h2
  injection h2 with h2
  injection h2 with _ h2 _
  exact hT h2.symm
set_option maxRecDepth 100000 in
set_option maxHeartbeats 40000000 in
theorem lawFnExactTokenFault (x_aT : D) (r : Bool) (hn_aT : x_aT.n = 4)
    (SZ_aT : SzA Tryd.prog 12 x_aT)
    (TO_aT : x_aT.bulk ≤ 1048576 → ToA Tryd.prog 14 x_aT)
    (EQ_aT : EqA Tryd.prog 33 x_aT)
    (SP : x_aT.bulk ≤ 1048576 → ∀ (w : World) (c_aT : List Value), Rd w x_aT c_aT → Calls Tryd.prog 13 #[.agg c_aT.toArray] w fun e w' => e = .returned (.bool r) ∧ Below w.heap.size w w')
    (w : World) (IM : x_aT.bulk ≤ 1048576 → ∀ (w1 : World) (c_aT : List Value), Below w.heap.size w w1 → Rd w1 x_aT c_aT → Calls Tryd.prog 15 #[.agg c_aT.toArray] w1 fun e w' => e = .returned (.bool r) ∧ Below w1.heap.size w1 w') (c_aT : List Value) (rd_aT : Rd w x_aT c_aT) :
    Calls Tryd.prog 4 #[.agg c_aT.toArray] w fun e w' => e = .returned (.bool true) ∧ Below w.heap.size w w' := by
  obtain ⟨u_aT0, u_aT1, u_aT2, u_aT3, rfl⟩ := cells4 (rd_aT.len.trans hn_aT)
  have HSZ_aT := Lib.hid SZ_aT
  have HTO_aT := Lib.hid TO_aT
  have HEQ_aT := Lib.hid EQ_aT
  have HSP := Lib.hid SP
  have HIM := Lib.hid IM
  have RI_aT := Lib.hid rd_aT
  clear SZ_aT TO_aT EQ_aT SP IM rd_aT
  have HB := Lib.hid (show Below w.heap.size w (w.alloc (.cells #[u_aT0, u_aT1, u_aT2, u_aT3] 30)) from ((Below.refl w.heap.size w).alloc (by simp) (.cells #[u_aT0, u_aT1, u_aT2, u_aT3] 30)))
  have HS := Lib.hid (((Has.nil w).below ((Below.refl _ _).alloc (Nat.le_refl _) (.cells #[u_aT0, u_aT1, u_aT2, u_aT3] 30))).add (a := .blk w.heap.size (.cells #[u_aT0, u_aT1, u_aT2, u_aT3] 30 (0, 0))) (blk_new w (.cells #[u_aT0, u_aT1, u_aT2, u_aT3] 30)))
  have SZ0 := Lib.hid (show (w.alloc (.cells #[u_aT0, u_aT1, u_aT2, u_aT3] 30)).heap.size = w.heap.size + 1 by simp)
  go_enter Tryd.func4, Tryd.ntmps4
  go_wp2_with fail
  generalize hw0 : (w.alloc (.cells #[u_aT0, u_aT1, u_aT2, u_aT3] 30)) = w0 at *
  clear hw0
  refine ((HSZ_aT.out _ _ (1048576) (RI_aT.out.below HB.out) (by omega) (by omega))).mono ?_
  rintro e w1 ⟨rfl, hb⟩
  have HS := Lib.hid (HS.out.below hb)
  have SZ1 := Lib.hid (show w0.heap.size ≤ w1.heap.size from hb.size)
  have HB := Lib.hid (HB.out.trans (hb.mono HB.out.size))
  clear hb
  by_cases hzaT : (1048576 : Int) < x_aT.bulk
  · rw [szR_neg' hzaT]
    go_wp2
    go_ret
    exact ⟨rfl, HB.out⟩
  rw [szR_fit (by omega)]
  have HTO_aT := Lib.hid (HTO_aT.out (by omega))
  have HSP := Lib.hid (HSP.out (by omega))
  have HIM := Lib.hid (HIM.out (by omega))
  have hblk := HS.out.blk (g := w.heap.size) (o := .cells #[u_aT0, u_aT1, u_aT2, u_aT3] 30 (0, 0)) List.mem_cons_self
  have zaT_0 := (blk_cell hblk 0).trans (rfl : _ = some u_aT0)
  have zaT_1 := (blk_cell hblk 1).trans (rfl : _ = some u_aT1)
  have zaT_2 := (blk_cell hblk 2).trans (rfl : _ = some u_aT2)
  have zaT_3 := (blk_cell hblk 3).trans (rfl : _ = some u_aT3)
  clear hblk
  go_wp2_with fail
  refine ((HTO_aT.out _ _ (RI_aT.out.below HB.out))).mono ?_
  rintro e w2 ⟨cs, rfl, hfr, hb⟩
  obtain ⟨t1_0, t1_1, t1_2, t1_3, rfl⟩ := cells4 (hfr.len.trans hn_aT)
  have HS := Lib.hid (HS.out.below hb)
  have SZ2 := Lib.hid (show w1.heap.size ≤ w2.heap.size from hb.size)
  have HB := Lib.hid (HB.out.trans (hb.mono HB.out.size))
  have HS := Lib.hid (HS.out.add (a := (.dat w1.heap.size w2.heap.size x_aT [t1_0, t1_1, t1_2, t1_3])) hfr.range)
  have ONEt1 := Lib.hid hfr.all
  clear hb hfr
  clear zaT_0 zaT_1 zaT_2 zaT_3
  have hblk := HS.out.blk (g := w.heap.size) (o := .cells #[u_aT0, u_aT1, u_aT2, u_aT3] 30 (0, 0)) (List.mem_cons_of_mem _ List.mem_cons_self)
  have zaT_0 := (blk_cell hblk 0).trans (rfl : _ = some u_aT0)
  have zaT_1 := (blk_cell hblk 1).trans (rfl : _ = some u_aT1)
  have zaT_2 := (blk_cell hblk 2).trans (rfl : _ = some u_aT2)
  have zaT_3 := (blk_cell hblk 3).trans (rfl : _ = some u_aT3)
  clear hblk
  go_wp2_with fail
  refine ((HSP.out _ _ (HS.out.dat (x := x_aT) (B := w1.heap.size) (C := w2.heap.size) (cs := [t1_0, t1_1, t1_2, t1_3]) List.mem_cons_self).rd)).mono ?_
  rintro e w3 ⟨rfl, hb⟩
  have HS := Lib.hid (HS.out.below hb)
  have SZ3 := Lib.hid (show w2.heap.size ≤ w3.heap.size from hb.size)
  have HB := Lib.hid (HB.out.trans (hb.mono HB.out.size))
  clear hb
  clear zaT_0 zaT_1 zaT_2 zaT_3
  have hblk := HS.out.blk (g := w.heap.size) (o := .cells #[u_aT0, u_aT1, u_aT2, u_aT3] 30 (0, 0)) (List.mem_cons_of_mem _ List.mem_cons_self)
  have zaT_0 := (blk_cell hblk 0).trans (rfl : _ = some u_aT0)
  have zaT_1 := (blk_cell hblk 1).trans (rfl : _ = some u_aT1)
  have zaT_2 := (blk_cell hblk 2).trans (rfl : _ = some u_aT2)
  have zaT_3 := (blk_cell hblk 3).trans (rfl : _ = some u_aT3)
  clear hblk
  go_wp2_with fail
  refine ((HTO_aT.out _ _ (RI_aT.out.below HB.out))).mono ?_
  rintro e w4 ⟨cs, rfl, hfr, hb⟩
  obtain ⟨t3_0, t3_1, t3_2, t3_3, rfl⟩ := cells4 (hfr.len.trans hn_aT)
  have HS := Lib.hid (HS.out.below hb)
  have SZ4 := Lib.hid (show w3.heap.size ≤ w4.heap.size from hb.size)
  have HB := Lib.hid (HB.out.trans (hb.mono HB.out.size))
  have HS := Lib.hid (HS.out.add (a := (.dat w3.heap.size w4.heap.size x_aT [t3_0, t3_1, t3_2, t3_3])) hfr.range)
  have ONEt3 := Lib.hid hfr.all
  clear hb hfr
  clear zaT_0 zaT_1 zaT_2 zaT_3
  have hblk := HS.out.blk (g := w.heap.size) (o := .cells #[u_aT0, u_aT1, u_aT2, u_aT3] 30 (0, 0)) (List.mem_cons_of_mem _ (List.mem_cons_of_mem _ List.mem_cons_self))
  have zaT_0 := (blk_cell hblk 0).trans (rfl : _ = some u_aT0)
  have zaT_1 := (blk_cell hblk 1).trans (rfl : _ = some u_aT1)
  have zaT_2 := (blk_cell hblk 2).trans (rfl : _ = some u_aT2)
  have zaT_3 := (blk_cell hblk 3).trans (rfl : _ = some u_aT3)
  clear hblk
  go_wp2_with fail
  refine ((HIM.out _ _ HB.out (HS.out.dat (x := x_aT) (B := w3.heap.size) (C := w4.heap.size) (cs := [t3_0, t3_1, t3_2, t3_3]) List.mem_cons_self).rd)).mono ?_
  rintro e w5 ⟨rfl, hb⟩
  have HS := Lib.hid (HS.out.below hb)
  have SZ5 := Lib.hid (show w4.heap.size ≤ w5.heap.size from hb.size)
  have HB := Lib.hid (HB.out.trans (hb.mono HB.out.size))
  clear hb
  go_wp2
  go_ret
  exact ⟨rfl, HB.out⟩

end Go.Proofs.YtifmnijdaboenaaDoor
