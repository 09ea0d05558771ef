/- The law 'FnExactFresh' walked: over whatever both functions answer alike; no condition. -/
import Derived.Test.YtgogfloppnhceaaFamStr
import Derived.Deep.RegionHeld3
namespace Go.Proofs.Ytgogfloppnhceaa
open Go.RowKit
set_option linter.unusedVariables false
set_option linter.unusedSimpArgs false

set_option maxRecDepth 100000 in
set_option maxHeartbeats 1000000 in
theorem lawFnExactFresh (s_aName : ByteArray) (x_aAvoid : D) (r : ByteArray) (SZ_aAvoid : SzO Try.prog 25 x_aAvoid)
    (TO_aAvoid : x_aAvoid.bulk ≤ 1048576 → ToO Try.prog 27 x_aAvoid)
    (EQ_aAvoid : EqO Try.prog 29 x_aAvoid)
    (SP : x_aAvoid.bulk ≤ 1048576 → s_aName.size ≤ 1048576 → ∀ (w : World) (c_aAvoid : Value), Rd w x_aAvoid [c_aAvoid] → Calls Try.prog 26 #[.string s_aName, c_aAvoid] w fun e w' => e = .returned (.string r) ∧ Below w.heap.size w w')
    (IM : x_aAvoid.bulk ≤ 1048576 → s_aName.size ≤ 1048576 → ∀ (w : World) (c_aAvoid : Value), Rd w x_aAvoid [c_aAvoid] → Calls Try.prog 28 #[.string s_aName, c_aAvoid] w fun e w' => e = .returned (.string r) ∧ Below w.heap.size w w') (w : World) (c_aAvoid : Value) (hs_aName : s_aName.size ≤ 140737488351232) (rd_aAvoid : Rd w x_aAvoid [c_aAvoid]) :
    Calls Try.prog 7 #[.string s_aName, c_aAvoid] w fun e w' => e = .returned (.bool true) ∧ Below w.heap.size w w' := by
  have RI_aAvoid := Lib.hid rd_aAvoid
  have SZaAvoid := Lib.hid SZ_aAvoid
  have TOaAvoid := Lib.hid TO_aAvoid
  have EQaAvoid := Lib.hid EQ_aAvoid
  clear EQ_aAvoid
  clear rd_aAvoid SZ_aAvoid TO_aAvoid
  have SPEC := Lib.hid SP
  have IMPL := Lib.hid IM
  clear SP IM
  have HB := Lib.hid (show Below w.heap.size w w from (Below.refl w.heap.size w))
  by_cases hq_aName : s_aName.size ≤ 1048576
  rotate_left
  · go_enter Try.func7, Try.ntmps7
    have hq' : 1048576 < s_aName.size := by omega
    go_wp2_with fail
    go_ret
    exact ⟨rfl, HB.out⟩
  go_enter Try.func7, Try.ntmps7
  go_wp2_with fail
  refine (SZaAvoid.out _ _ (1048576) (RI_aAvoid.out.below HB.out) (by omega) (by omega)).mono ?_
  rintro e w1 ⟨rfl, hb⟩
  have HB := Lib.hid (HB.out.trans (hb.mono HB.out.size))
  clear hb
  by_cases hzaAvoid : (1048576 : Int) < x_aAvoid.bulk
  · rw [szR_neg' hzaAvoid]
    go_wp2
    go_ret
    exact ⟨rfl, HB.out⟩
  rw [szR_fit (by omega)]
  have TOaAvoid := Lib.hid (TOaAvoid.out (by omega))
  have SPEC := Lib.hid (SPEC.out (by omega) (by omega))
  have IMPL := Lib.hid (IMPL.out (by omega) (by omega))
  go_wp2_with fail
  refine (TOaAvoid.out _ _ (RI_aAvoid.out.below HB.out)).mono ?_
  rintro e w2 ⟨vt1, rfl, hfr, hb⟩
  have HB := Lib.hid (HB.out.trans (hb.mono HB.out.size))
  have RDt1 := Lib.hid hfr
  clear hb hfr
  go_wp2_with fail
  refine (SPEC.out _ _ RDt1.out.rd).mono ?_
  rintro e w3 ⟨rfl, hb⟩
  have RDt1 := Lib.hid (RDt1.out.below hb)
  have HB := Lib.hid (HB.out.trans (hb.mono HB.out.size))
  clear hb
  go_wp2_with fail
  refine (TOaAvoid.out _ _ (RI_aAvoid.out.below HB.out)).mono ?_
  rintro e w4 ⟨vx1, rfl, hfr, hb⟩
  have HB := Lib.hid (HB.out.trans (hb.mono HB.out.size))
  have RDx1 := Lib.hid hfr
  clear hb hfr
  go_wp2_with fail
  refine (IMPL.out _ _ RDx1.out.rd).mono ?_
  rintro e w5 ⟨rfl, hb⟩
  have RDx1 := Lib.hid (RDx1.out.below hb)
  have HB := Lib.hid (HB.out.trans (hb.mono HB.out.size))
  clear hb
  go_wp2_with fail
  refine (TOaAvoid.out _ _ (RI_aAvoid.out.below HB.out)).mono ?_
  rintro e w6 ⟨vt2, rfl, hfr, hb⟩
  have RDx1 := Lib.hid (RDx1.out.below hb)
  have HB := Lib.hid (HB.out.trans (hb.mono HB.out.size))
  have RDt2 := Lib.hid hfr
  clear hb hfr
  go_wp2_with fail
  refine (EQaAvoid.out _ _ _ RDx1.out.rd RDt2.out.rd).mono ?_
  rintro e w7 ⟨rfl, hb⟩
  have RDx1 := Lib.hid (RDx1.out.below hb)
  have RDt2 := Lib.hid (RDt2.out.below hb)
  have HB := Lib.hid (HB.out.trans (hb.mono HB.out.size))
  clear hb
  go_wp2
  go_ret
  exact ⟨rfl, HB.out⟩

end Go.Proofs.Ytgogfloppnhceaa
