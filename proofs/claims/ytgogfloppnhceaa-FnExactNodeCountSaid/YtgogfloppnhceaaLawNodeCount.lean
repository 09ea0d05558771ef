/- The law 'FnExactNodeCount' walked: over whatever both functions answer alike; no condition. -/
import Derived.Test.YtgogfloppnhceaaFamNode
import Derived.Deep.RegionHeld3
namespace Go.Proofs.Ytgogfloppnhceaa
open Go.RowKit
set_option linter.unusedVariables false
set_option linter.unusedSimpArgs false

theorem infoSzNode : (Try.prog.info? 68).map (·.size) = some 3 := by kernel_rfl
set_option maxRecDepth 100000 in
set_option maxHeartbeats 1000000 in
theorem lawFnExactNodeCount (x_aN : D) (r : Int) (hn_aN : x_aN.n = 3)
    (SZ_aN : SzA Try.prog 37 x_aN)
    (TO_aN : x_aN.bulk ≤ 1048576 → ToA Try.prog 39 x_aN)
    (EQ_aN : EqA Try.prog 41 x_aN)
    (SP : x_aN.bulk ≤ 1048576 → ∀ (w : World) (c_aN : List Value), Rd w x_aN c_aN → Calls Try.prog 47 #[.agg c_aN.toArray] w fun e w' => e = .returned (.int .i64 r) ∧ Below w.heap.size w w')
    (IM : x_aN.bulk ≤ 1048576 → ∀ (w : World) (c_aN : List Value), Rd w x_aN c_aN → Calls Try.prog 48 #[.agg c_aN.toArray] w fun e w' => e = .returned (.int .i64 r) ∧ Below w.heap.size w w') (w : World) (c_aN : List Value) (rd_aN : Rd w x_aN c_aN) :
    Calls Try.prog 12 #[.agg c_aN.toArray] w fun e w' => e = .returned (.bool true) ∧ Below w.heap.size w w' := by
  obtain ⟨u_aN0, u_aN1, u_aN2, rfl⟩ := cells3 (rd_aN.len.trans hn_aN)
  have RI_aN := Lib.hid rd_aN
  have SZaN := Lib.hid SZ_aN
  have TOaN := Lib.hid TO_aN
  have EQaN := Lib.hid EQ_aN
  clear EQ_aN
  clear rd_aN SZ_aN TO_aN
  have SPEC := Lib.hid SP
  have IMPL := Lib.hid IM
  clear SP IM
  have HB := Lib.hid (show Below w.heap.size w (w.alloc (.cells #[u_aN0, u_aN1, u_aN2] 63)) from ((Below.refl w.heap.size w).alloc (by simp) (.cells #[u_aN0, u_aN1, u_aN2] 63)))
  have BKaN := Lib.hid (blk_new w (.cells #[u_aN0, u_aN1, u_aN2] 63))
  go_enter Try.func12, Try.ntmps12
  go_wp2_with fail
  refine (SZaN.out _ _ (1048576) (RI_aN.out.below HB.out) (by omega) (by omega)).mono ?_
  rintro e w1 ⟨rfl, hb⟩
  have BKaN := Lib.hid (blk_below BKaN.out hb)
  have HB := Lib.hid (HB.out.trans (hb.mono HB.out.size))
  clear hb
  have zaN_0 := blk_cell BKaN.out 0
  have zaN_1 := blk_cell BKaN.out 1
  have zaN_2 := blk_cell BKaN.out 2
  simp at zaN_0 zaN_1 zaN_2
  by_cases hzaN : (1048576 : Int) < x_aN.bulk
  · rw [szR_neg' hzaN]
    go_wp2
    go_ret
    exact ⟨rfl, HB.out⟩
  rw [szR_fit (by omega)]
  have TOaN := Lib.hid (TOaN.out (by omega))
  have SPEC := Lib.hid (SPEC.out (by omega))
  have IMPL := Lib.hid (IMPL.out (by omega))
  clear zaN_0 zaN_1 zaN_2
  have zaN_0 := blk_cell BKaN.out 0
  have zaN_1 := blk_cell BKaN.out 1
  have zaN_2 := blk_cell BKaN.out 2
  simp at zaN_0 zaN_1 zaN_2
  go_wp2_with fail
  refine (TOaN.out _ _ (RI_aN.out.below HB.out)).mono ?_
  rintro e w2 ⟨cst1, rfl, hfr, hb⟩
  obtain ⟨t1_0, t1_1, t1_2, rfl⟩ := cells3 (hfr.len.trans hn_aN)
  have BKaN := Lib.hid (blk_below BKaN.out hb)
  have HB := Lib.hid (HB.out.trans (hb.mono HB.out.size))
  have RDt1 := Lib.hid hfr
  clear hb hfr
  clear zaN_0 zaN_1 zaN_2
  have zaN_0 := blk_cell BKaN.out 0
  have zaN_1 := blk_cell BKaN.out 1
  have zaN_2 := blk_cell BKaN.out 2
  simp at zaN_0 zaN_1 zaN_2
  go_wp2_with fail
  refine (SPEC.out _ _ RDt1.out.rd).mono ?_
  rintro e w3 ⟨rfl, hb⟩
  have BKaN := Lib.hid (blk_below BKaN.out hb)
  have RDt1 := Lib.hid (RDt1.out.below hb)
  have HB := Lib.hid (HB.out.trans (hb.mono HB.out.size))
  clear hb
  clear zaN_0 zaN_1 zaN_2
  have zaN_0 := blk_cell BKaN.out 0
  have zaN_1 := blk_cell BKaN.out 1
  have zaN_2 := blk_cell BKaN.out 2
  simp at zaN_0 zaN_1 zaN_2
  go_wp2_with fail
  refine (TOaN.out _ _ (RI_aN.out.below HB.out)).mono ?_
  rintro e w4 ⟨csx0, rfl, hfr, hb⟩
  obtain ⟨x0_0, x0_1, x0_2, rfl⟩ := cells3 (hfr.len.trans hn_aN)
  have BKaN := Lib.hid (blk_below BKaN.out hb)
  have HB := Lib.hid (HB.out.trans (hb.mono HB.out.size))
  have RDx0 := Lib.hid hfr
  have ONEx0 := Lib.hid hfr.all
  clear hb hfr
  have BKaN := Lib.hid (blk_old BKaN.out (.cells #[x0_0, x0_1, x0_2] 68))
  have hal := (Below.refl w4.heap.size w4).alloc (Nat.le_refl _) (.cells #[x0_0, x0_1, x0_2] 68)
  have RDx0 := Lib.hid (RDx0.out.below hal)
  have HB := Lib.hid (HB.out.trans (hal.mono HB.out.size))
  have BKxx0 := Lib.hid (blk_new w4 (.cells #[x0_0, x0_1, x0_2] 68))
  clear hal
  clear zaN_0 zaN_1 zaN_2
  have zaN_0 := blk_cell BKaN.out 0
  have zaN_1 := blk_cell BKaN.out 1
  have zaN_2 := blk_cell BKaN.out 2
  simp at zaN_0 zaN_1 zaN_2
  have zxx0_0 := blk_cell BKxx0.out 0
  have zxx0_1 := blk_cell BKxx0.out 1
  have zxx0_2 := blk_cell BKxx0.out 2
  simp at zxx0_0 zxx0_1 zxx0_2
  clear zaN_0 zaN_1 zaN_2 zxx0_0 zxx0_1 zxx0_2
  have zaN_0 := blk_cell BKaN.out 0
  have zaN_1 := blk_cell BKaN.out 1
  have zaN_2 := blk_cell BKaN.out 2
  simp at zaN_0 zaN_1 zaN_2
  have zxx0_0 := blk_cell BKxx0.out 0
  have zxx0_1 := blk_cell BKxx0.out 1
  have zxx0_2 := blk_cell BKxx0.out 2
  simp at zxx0_0 zxx0_1 zxx0_2
  go_wp2_with (refine wpl_store_new rfl 68 (.tmp 5) (.tmp 16) rfl _ #[x0_0, x0_1, x0_2] rfl rfl (infoSzNode) rfl ONEx0.out ?_)
  refine (IMPL.out _ _ RDx0.out.rd).mono ?_
  rintro e w5 ⟨rfl, hb⟩
  have BKaN := Lib.hid (blk_below BKaN.out hb)
  have BKxx0 := Lib.hid (blk_below BKxx0.out hb)
  have RDx0 := Lib.hid (RDx0.out.below hb)
  have HB := Lib.hid (HB.out.trans (hb.mono HB.out.size))
  clear hb
  clear zaN_0 zaN_1 zaN_2 zxx0_0 zxx0_1 zxx0_2
  have zaN_0 := blk_cell BKaN.out 0
  have zaN_1 := blk_cell BKaN.out 1
  have zaN_2 := blk_cell BKaN.out 2
  simp at zaN_0 zaN_1 zaN_2
  have zxx0_0 := blk_cell BKxx0.out 0
  have zxx0_1 := blk_cell BKxx0.out 1
  have zxx0_2 := blk_cell BKxx0.out 2
  simp at zxx0_0 zxx0_1 zxx0_2
  go_wp2_with fail
  go_region_held3 (fun w' => w'.cell? ⟨w4.heap.size, 0, none⟩ = some x0_0 ∧ w'.cell? ⟨w4.heap.size, 1, none⟩ = some x0_1 ∧ w'.cell? ⟨w4.heap.size, 2, none⟩ = some x0_2 ∧ w'.cell? ⟨w.heap.size, 0, none⟩ = some u_aN0 ∧ w'.cell? ⟨w.heap.size, 1, none⟩ = some u_aN1 ∧ w'.cell? ⟨w.heap.size, 2, none⟩ = some u_aN2)
    (first | exact ⟨zxx0_0, zxx0_1, zxx0_2, zaN_0, zaN_1, zaN_2⟩ | exact ⟨by simpa using blk_cell BKxx0.out 0, by simpa using blk_cell BKxx0.out 1, by simpa using blk_cell BKxx0.out 2, by simpa using blk_cell BKaN.out 0, by simpa using blk_cell BKaN.out 1, by simpa using blk_cell BKaN.out 2⟩)
    (first
      | (go_at_call 39; have HB := Lib.hid HB.out.drew; have BKaN := Lib.hid (blk_drew BKaN.out); have BKxx0 := Lib.hid (blk_drew BKxx0.out); have RDx0 := Lib.hid (RDx0.out.below (Below.refl _ _).drew); have CT := TOaN.out _ _ (RI_aN.out.below HB.out); (with_reducible refine CT.mono ?_); clear CT; rintro e w6 ⟨cst2, rfl, hfr, hb⟩; have BKaN := Lib.hid (blk_below BKaN.out hb); have BKxx0 := Lib.hid (blk_below BKxx0.out hb); have RDx0 := Lib.hid (RDx0.out.below hb); have HB := Lib.hid (HB.out.trans (hb.mono HB.out.size)); have RDt2 := Lib.hid hfr; clear hb hfr)
      | (go_at_call 41; have CT := EQaN.out _ _ _ RDx0.out.rd RDt2.out.rd; (with_reducible refine CT.mono ?_); clear CT; rintro e w7 ⟨rfl, hb⟩; have BKaN := Lib.hid (blk_below BKaN.out hb); have BKxx0 := Lib.hid (blk_below BKxx0.out hb); have RDx0 := Lib.hid (RDx0.out.below hb); have RDt2 := Lib.hid (RDt2.out.below hb); have HB := Lib.hid (HB.out.trans (hb.mono HB.out.size)); clear hb))
  clear zaN_0 zaN_1 zaN_2 zxx0_0 zxx0_1 zxx0_2
  have zaN_0 := blk_cell BKaN.out 0
  have zaN_1 := blk_cell BKaN.out 1
  have zaN_2 := blk_cell BKaN.out 2
  simp at zaN_0 zaN_1 zaN_2
  have zxx0_0 := blk_cell BKxx0.out 0
  have zxx0_1 := blk_cell BKxx0.out 1
  have zxx0_2 := blk_cell BKxx0.out 2
  simp at zxx0_0 zxx0_1 zxx0_2
  go_wp2
  go_ret
  exact ⟨rfl, HB.out⟩

end Go.Proofs.Ytgogfloppnhceaa
