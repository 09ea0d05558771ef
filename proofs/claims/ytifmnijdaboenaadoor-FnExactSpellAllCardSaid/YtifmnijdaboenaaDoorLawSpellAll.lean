/- The law 'FnExactSpellAll' walked: over whatever both functions answer alike; no condition. -/
import Derived.Test.YtifmnijdaboenaaDoorFmTok
import Derived.Test.YtifmnijdaboenaaDoorFamTok
import Derived.Deep.RegionHeld3
import Derived.Deep.RegionWith
import Derived.Deep.DeepCutAuto
import Derived.Deep.CutBlock
namespace Go.Proofs.YtifmnijdaboenaaDoor
open Go.RowKit
set_option linter.unusedVariables false
set_option linter.unusedSimpArgs false

theorem bs1_FnExactSpellAll {w : World} {g i : Nat} {q : Addr} {v u : Value} (h : w.cell? q = some v) (hne : q.block ≠ g) : (w.setCell ⟨g, i, none⟩ u).cell? q = some v := (World.cell?_of_block (a := q) (Below.heap_setCell w ⟨g, i, none⟩ u q.block hne)).trans h
theorem net_FnExactSpellAll {w : World} {a b : Nat} {c1 c2 : Array Value} {T1 T2 : TypeId} {f1 f2 : Nat × Nat} (h1 : w.heap[a]? = some (.cells c1 T1 f1)) (h2 : w.heap[b]? = some (.cells c2 T2 f2)) (hT : T2 ≠ T1) : a ≠ b := fun e => by
  subst e
  rw [h1] at h2
  injection h2 with h2
  injection h2 with _ h2 _
  exact hT h2.symm
set_option maxRecDepth 100000 in
set_option maxHeartbeats 40000000 in
theorem lawFnExactSpellAll (x_aTokens : D) (r : ByteArray) (SZ_aTokens : SzO Tryd.prog 18 x_aTokens)
    (TO_aTokens : x_aTokens.bulk ≤ 1048576 → ToO Tryd.prog 20 x_aTokens)
    (EQ_aTokens : EqO Tryd.prog 22 x_aTokens)
    (SP : x_aTokens.bulk ≤ 1048576 → ∀ (w : World) (c_aTokens : Value), Rd w x_aTokens [c_aTokens] → Calls Tryd.prog 19 #[c_aTokens] w fun e w' => e = .returned (.string r) ∧ Below w.heap.size w w')
    (w : World) (IM : x_aTokens.bulk ≤ 1048576 → ∀ (w1 : World) (c_aTokens : Value), Below w.heap.size w w1 → Rd w1 x_aTokens [c_aTokens] → Calls Tryd.prog 21 #[c_aTokens] w1 fun e w' => e = .returned (.string r) ∧ Below w1.heap.size w1 w') (c_aTokens : Value) (rd_aTokens : Rd w x_aTokens [c_aTokens]) :
    Calls Tryd.prog 6 #[c_aTokens] w fun e w' => e = .returned (.bool true) ∧ Below w.heap.size w w' := by
  have HSZ_aTokens := Lib.hid SZ_aTokens
  have HTO_aTokens := Lib.hid TO_aTokens
  have HEQ_aTokens := Lib.hid EQ_aTokens
  have HSP := Lib.hid SP
  have HIM := Lib.hid IM
  have RI_aTokens := Lib.hid rd_aTokens
  clear SZ_aTokens TO_aTokens EQ_aTokens SP IM rd_aTokens
  have HB := Lib.hid (Below.refl w.heap.size w)
  have HS := Lib.hid (Has.nil w)
  have SZ0 := Lib.hid (show w.heap.size = w.heap.size from rfl)
  go_enter Tryd.func6, Tryd.ntmps6
  go_wp2_with fail
  refine ((HSZ_aTokens.out _ _ (1048576) (RI_aTokens.out.below HB.out) (by omega) (by omega))).mono ?_
  rintro e w1 ⟨rfl, hb⟩
  have HS := Lib.hid (HS.out.below hb)
  have SZ1 := Lib.hid (show w.heap.size ≤ w1.heap.size from hb.size)
  have HB := Lib.hid (HB.out.trans (hb.mono HB.out.size))
  clear hb
  by_cases hzaTokens : (1048576 : Int) < x_aTokens.bulk
  · rw [szR_neg' hzaTokens]
    go_wp2
    go_ret
    exact ⟨rfl, HB.out⟩
  rw [szR_fit (by omega)]
  have HTO_aTokens := Lib.hid (HTO_aTokens.out (by omega))
  have HSP := Lib.hid (HSP.out (by omega))
  have HIM := Lib.hid (HIM.out (by omega))
  go_wp2_with fail
  refine ((HTO_aTokens.out _ _ (RI_aTokens.out.below HB.out))).mono ?_
  rintro e w2 ⟨vt1, rfl, hfr, hb⟩
  have HS := Lib.hid (HS.out.below hb)
  have SZ2 := Lib.hid (show w1.heap.size ≤ w2.heap.size from hb.size)
  have HB := Lib.hid (HB.out.trans (hb.mono HB.out.size))
  have HS := Lib.hid (HS.out.add (a := (.dat w1.heap.size w2.heap.size x_aTokens [vt1])) hfr.range)
  clear hb hfr
  go_wp2_with fail
  refine ((HSP.out _ _ (HS.out.dat (x := x_aTokens) (B := w1.heap.size) (C := w2.heap.size) (cs := [vt1]) List.mem_cons_self).rd)).mono ?_
  rintro e w3 ⟨rfl, hb⟩
  have HS := Lib.hid (HS.out.below hb)
  have SZ3 := Lib.hid (show w2.heap.size ≤ w3.heap.size from hb.size)
  have HB := Lib.hid (HB.out.trans (hb.mono HB.out.size))
  clear hb
  go_wp2_with fail
  refine ((HTO_aTokens.out _ _ (RI_aTokens.out.below HB.out))).mono ?_
  rintro e w4 ⟨vt3, rfl, hfr, hb⟩
  have HS := Lib.hid (HS.out.below hb)
  have SZ4 := Lib.hid (show w3.heap.size ≤ w4.heap.size from hb.size)
  have HB := Lib.hid (HB.out.trans (hb.mono HB.out.size))
  have HS := Lib.hid (HS.out.add (a := (.dat w3.heap.size w4.heap.size x_aTokens [vt3])) hfr.range)
  clear hb hfr
  go_wp2_with fail
  refine ((HIM.out _ _ HB.out (HS.out.dat (x := x_aTokens) (B := w3.heap.size) (C := w4.heap.size) (cs := [vt3]) List.mem_cons_self).rd)).mono ?_
  rintro e w5 ⟨rfl, hb⟩
  have HS := Lib.hid (HS.out.below hb)
  have SZ5 := Lib.hid (show w4.heap.size ≤ w5.heap.size from hb.size)
  have HB := Lib.hid (HB.out.trans (hb.mono HB.out.size))
  clear hb
  go_wp2_with fail
  refine ((HTO_aTokens.out _ _ (RI_aTokens.out.below HB.out))).mono ?_
  rintro e w6 ⟨vt5, rfl, hfr, hb⟩
  have HS := Lib.hid (HS.out.below hb)
  have SZ6 := Lib.hid (show w5.heap.size ≤ w6.heap.size from hb.size)
  have HB := Lib.hid (HB.out.trans (hb.mono HB.out.size))
  have HS := Lib.hid (HS.out.add (a := (.dat w5.heap.size w6.heap.size x_aTokens [vt5])) hfr.range)
  clear hb hfr
  go_wp2_with fail
  refine ((HEQ_aTokens.out _ _ _ (HS.out.dat (x := x_aTokens) (B := w3.heap.size) (C := w4.heap.size) (cs := [vt3]) (List.mem_cons_of_mem _ List.mem_cons_self)).rd (HS.out.dat (x := x_aTokens) (B := w5.heap.size) (C := w6.heap.size) (cs := [vt5]) List.mem_cons_self).rd)).mono ?_
  rintro e w7 ⟨rfl, hb⟩
  have HS := Lib.hid (HS.out.below hb)
  have SZ7 := Lib.hid (show w6.heap.size ≤ w7.heap.size from hb.size)
  have HB := Lib.hid (HB.out.trans (hb.mono HB.out.size))
  clear hb
  go_wp2
  go_ret
  exact ⟨rfl, HB.out⟩

end Go.Proofs.YtifmnijdaboenaaDoor
