/- The law 'FnExactTypeFault' walked: over whatever both functions answer alike; no condition. -/
import Derived.Test.YtgogfloppnhceaaFamType
import Derived.Deep.RegionHeld3
namespace Go.Proofs.Ytgogfloppnhceaa
open Go.RowKit
set_option linter.unusedVariables false
set_option linter.unusedSimpArgs false

theorem infoSzType : (Try.prog.info? 78).map (·.size) = some 4 := by kernel_rfl
set_option maxRecDepth 100000 in
set_option maxHeartbeats 1000000 in
theorem lawFnExactTypeFault (x_aT : D) (r : Bool) (hn_aT : x_aT.n = 4)
    (SZ_aT : SzA Try.prog 42 x_aT)
    (TO_aT : x_aT.bulk ≤ 1048576 → ToA Try.prog 44 x_aT)
    (EQ_aT : EqA Try.prog 46 x_aT)
    (SP : x_aT.bulk ≤ 1048576 → ∀ (w : World) (c_aT : List Value), Rd w x_aT c_aT → Calls Try.prog 49 #[.agg c_aT.toArray] w fun e w' => e = .returned (.bool r) ∧ Below w.heap.size w w')
    (IM : x_aT.bulk ≤ 1048576 → ∀ (w : World) (c_aT : List Value), Rd w x_aT c_aT → Calls Try.prog 50 #[.agg c_aT.toArray] w fun e w' => e = .returned (.bool r) ∧ Below w.heap.size w w') (w : World) (c_aT : List Value) (rd_aT : Rd w x_aT c_aT) :
    Calls Try.prog 13 #[.agg c_aT.toArray] w fun e w' => e = .returned (.bool true) ∧ Below w.heap.size w w' := by
  obtain ⟨u_aT0, u_aT1, u_aT2, u_aT3, rfl⟩ := cells4 (rd_aT.len.trans hn_aT)
  have RI_aT := Lib.hid rd_aT
  have SZaT := Lib.hid SZ_aT
  have TOaT := Lib.hid TO_aT
  have EQaT := Lib.hid EQ_aT
  clear EQ_aT
  clear rd_aT SZ_aT TO_aT
  have SPEC := Lib.hid SP
  have IMPL := Lib.hid IM
  clear SP IM
  have HB := Lib.hid (show Below w.heap.size w (w.alloc (.cells #[u_aT0, u_aT1, u_aT2, u_aT3] 73)) from ((Below.refl w.heap.size w).alloc (by simp) (.cells #[u_aT0, u_aT1, u_aT2, u_aT3] 73)))
  have BKaT := Lib.hid (blk_new w (.cells #[u_aT0, u_aT1, u_aT2, u_aT3] 73))
  go_enter Try.func13, Try.ntmps13
  go_wp2_with fail
  refine (SZaT.out _ _ (1048576) (RI_aT.out.below HB.out) (by omega) (by omega)).mono ?_
  rintro e w1 ⟨rfl, hb⟩
  have BKaT := Lib.hid (blk_below BKaT.out hb)
  have HB := Lib.hid (HB.out.trans (hb.mono HB.out.size))
  clear hb
  have zaT_0 := blk_cell BKaT.out 0
  have zaT_1 := blk_cell BKaT.out 1
  have zaT_2 := blk_cell BKaT.out 2
  have zaT_3 := blk_cell BKaT.out 3
  simp at zaT_0 zaT_1 zaT_2 zaT_3
  by_cases hzaT : (1048576 : Int) < x_aT.bulk
  · rw [szR_neg' hzaT]
    go_wp2
    go_ret
    exact ⟨rfl, HB.out⟩
  rw [szR_fit (by omega)]
  have TOaT := Lib.hid (TOaT.out (by omega))
  have SPEC := Lib.hid (SPEC.out (by omega))
  have IMPL := Lib.hid (IMPL.out (by omega))
  clear zaT_0 zaT_1 zaT_2 zaT_3
  have zaT_0 := blk_cell BKaT.out 0
  have zaT_1 := blk_cell BKaT.out 1
  have zaT_2 := blk_cell BKaT.out 2
  have zaT_3 := blk_cell BKaT.out 3
  simp at zaT_0 zaT_1 zaT_2 zaT_3
  go_wp2_with fail
  refine (TOaT.out _ _ (RI_aT.out.below HB.out)).mono ?_
  rintro e w2 ⟨cst1, rfl, hfr, hb⟩
  obtain ⟨t1_0, t1_1, t1_2, t1_3, rfl⟩ := cells4 (hfr.len.trans hn_aT)
  have BKaT := Lib.hid (blk_below BKaT.out hb)
  have HB := Lib.hid (HB.out.trans (hb.mono HB.out.size))
  have RDt1 := Lib.hid hfr
  clear hb hfr
  clear zaT_0 zaT_1 zaT_2 zaT_3
  have zaT_0 := blk_cell BKaT.out 0
  have zaT_1 := blk_cell BKaT.out 1
  have zaT_2 := blk_cell BKaT.out 2
  have zaT_3 := blk_cell BKaT.out 3
  simp at zaT_0 zaT_1 zaT_2 zaT_3
  go_wp2_with fail
  refine (SPEC.out _ _ RDt1.out.rd).mono ?_
  rintro e w3 ⟨rfl, hb⟩
  have BKaT := Lib.hid (blk_below BKaT.out hb)
  have RDt1 := Lib.hid (RDt1.out.below hb)
  have HB := Lib.hid (HB.out.trans (hb.mono HB.out.size))
  clear hb
  clear zaT_0 zaT_1 zaT_2 zaT_3
  have zaT_0 := blk_cell BKaT.out 0
  have zaT_1 := blk_cell BKaT.out 1
  have zaT_2 := blk_cell BKaT.out 2
  have zaT_3 := blk_cell BKaT.out 3
  simp at zaT_0 zaT_1 zaT_2 zaT_3
  go_wp2_with fail
  refine (TOaT.out _ _ (RI_aT.out.below HB.out)).mono ?_
  rintro e w4 ⟨csx0, rfl, hfr, hb⟩
  obtain ⟨x0_0, x0_1, x0_2, x0_3, rfl⟩ := cells4 (hfr.len.trans hn_aT)
  have BKaT := Lib.hid (blk_below BKaT.out hb)
  have HB := Lib.hid (HB.out.trans (hb.mono HB.out.size))
  have RDx0 := Lib.hid hfr
  have ONEx0 := Lib.hid hfr.all
  clear hb hfr
  have BKaT := Lib.hid (blk_old BKaT.out (.cells #[x0_0, x0_1, x0_2, x0_3] 78))
  have hal := (Below.refl w4.heap.size w4).alloc (Nat.le_refl _) (.cells #[x0_0, x0_1, x0_2, x0_3] 78)
  have RDx0 := Lib.hid (RDx0.out.below hal)
  have HB := Lib.hid (HB.out.trans (hal.mono HB.out.size))
  have BKxx0 := Lib.hid (blk_new w4 (.cells #[x0_0, x0_1, x0_2, x0_3] 78))
  clear hal
  clear zaT_0 zaT_1 zaT_2 zaT_3
  have zaT_0 := blk_cell BKaT.out 0
  have zaT_1 := blk_cell BKaT.out 1
  have zaT_2 := blk_cell BKaT.out 2
  have zaT_3 := blk_cell BKaT.out 3
  simp at zaT_0 zaT_1 zaT_2 zaT_3
  have zxx0_0 := blk_cell BKxx0.out 0
  have zxx0_1 := blk_cell BKxx0.out 1
  have zxx0_2 := blk_cell BKxx0.out 2
  have zxx0_3 := blk_cell BKxx0.out 3
  simp at zxx0_0 zxx0_1 zxx0_2 zxx0_3
  clear zaT_0 zaT_1 zaT_2 zaT_3 zxx0_0 zxx0_1 zxx0_2 zxx0_3
  have zaT_0 := blk_cell BKaT.out 0
  have zaT_1 := blk_cell BKaT.out 1
  have zaT_2 := blk_cell BKaT.out 2
  have zaT_3 := blk_cell BKaT.out 3
  simp at zaT_0 zaT_1 zaT_2 zaT_3
  have zxx0_0 := blk_cell BKxx0.out 0
  have zxx0_1 := blk_cell BKxx0.out 1
  have zxx0_2 := blk_cell BKxx0.out 2
  have zxx0_3 := blk_cell BKxx0.out 3
  simp at zxx0_0 zxx0_1 zxx0_2 zxx0_3
  go_wp2_with (refine wpl_store_new rfl 78 (.tmp 5) (.tmp 16) rfl _ #[x0_0, x0_1, x0_2, x0_3] rfl rfl (infoSzType) rfl ONEx0.out ?_)
  refine (IMPL.out _ _ RDx0.out.rd).mono ?_
  rintro e w5 ⟨rfl, hb⟩
  have BKaT := Lib.hid (blk_below BKaT.out hb)
  have BKxx0 := Lib.hid (blk_below BKxx0.out hb)
  have RDx0 := Lib.hid (RDx0.out.below hb)
  have HB := Lib.hid (HB.out.trans (hb.mono HB.out.size))
  clear hb
  clear zaT_0 zaT_1 zaT_2 zaT_3 zxx0_0 zxx0_1 zxx0_2 zxx0_3
  have zaT_0 := blk_cell BKaT.out 0
  have zaT_1 := blk_cell BKaT.out 1
  have zaT_2 := blk_cell BKaT.out 2
  have zaT_3 := blk_cell BKaT.out 3
  simp at zaT_0 zaT_1 zaT_2 zaT_3
  have zxx0_0 := blk_cell BKxx0.out 0
  have zxx0_1 := blk_cell BKxx0.out 1
  have zxx0_2 := blk_cell BKxx0.out 2
  have zxx0_3 := blk_cell BKxx0.out 3
  simp at zxx0_0 zxx0_1 zxx0_2 zxx0_3
  go_wp2_with fail
  go_region_held3 (fun w' => w'.cell? ⟨w4.heap.size, 0, none⟩ = some x0_0 ∧ w'.cell? ⟨w4.heap.size, 1, none⟩ = some x0_1 ∧ w'.cell? ⟨w4.heap.size, 2, none⟩ = some x0_2 ∧ w'.cell? ⟨w4.heap.size, 3, none⟩ = some x0_3 ∧ w'.cell? ⟨w.heap.size, 0, none⟩ = some u_aT0 ∧ w'.cell? ⟨w.heap.size, 1, none⟩ = some u_aT1 ∧ w'.cell? ⟨w.heap.size, 2, none⟩ = some u_aT2 ∧ w'.cell? ⟨w.heap.size, 3, none⟩ = some u_aT3)
    (first | exact ⟨zxx0_0, zxx0_1, zxx0_2, zxx0_3, zaT_0, zaT_1, zaT_2, zaT_3⟩ | exact ⟨by simpa using blk_cell BKxx0.out 0, by simpa using blk_cell BKxx0.out 1, by simpa using blk_cell BKxx0.out 2, by simpa using blk_cell BKxx0.out 3, by simpa using blk_cell BKaT.out 0, by simpa using blk_cell BKaT.out 1, by simpa using blk_cell BKaT.out 2, by simpa using blk_cell BKaT.out 3⟩)
    (first
      | (go_at_call 44; have HB := Lib.hid HB.out.drew; have BKaT := Lib.hid (blk_drew BKaT.out); have BKxx0 := Lib.hid (blk_drew BKxx0.out); have RDx0 := Lib.hid (RDx0.out.below (Below.refl _ _).drew); have CT := TOaT.out _ _ (RI_aT.out.below HB.out); (with_reducible refine CT.mono ?_); clear CT; rintro e w6 ⟨cst2, rfl, hfr, hb⟩; have BKaT := Lib.hid (blk_below BKaT.out hb); have BKxx0 := Lib.hid (blk_below BKxx0.out hb); have RDx0 := Lib.hid (RDx0.out.below hb); have HB := Lib.hid (HB.out.trans (hb.mono HB.out.size)); have RDt2 := Lib.hid hfr; clear hb hfr)
      | (go_at_call 46; have CT := EQaT.out _ _ _ RDx0.out.rd RDt2.out.rd; (with_reducible refine CT.mono ?_); clear CT; rintro e w7 ⟨rfl, hb⟩; have BKaT := Lib.hid (blk_below BKaT.out hb); have BKxx0 := Lib.hid (blk_below BKxx0.out hb); have RDx0 := Lib.hid (RDx0.out.below hb); have RDt2 := Lib.hid (RDt2.out.below hb); have HB := Lib.hid (HB.out.trans (hb.mono HB.out.size)); clear hb))
  clear zaT_0 zaT_1 zaT_2 zaT_3 zxx0_0 zxx0_1 zxx0_2 zxx0_3
  have zaT_0 := blk_cell BKaT.out 0
  have zaT_1 := blk_cell BKaT.out 1
  have zaT_2 := blk_cell BKaT.out 2
  have zaT_3 := blk_cell BKaT.out 3
  simp at zaT_0 zaT_1 zaT_2 zaT_3
  have zxx0_0 := blk_cell BKxx0.out 0
  have zxx0_1 := blk_cell BKxx0.out 1
  have zxx0_2 := blk_cell BKxx0.out 2
  have zxx0_3 := blk_cell BKxx0.out 3
  simp at zxx0_0 zxx0_1 zxx0_2 zxx0_3
  go_wp2
  go_ret
  exact ⟨rfl, HB.out⟩

end Go.Proofs.Ytgogfloppnhceaa
