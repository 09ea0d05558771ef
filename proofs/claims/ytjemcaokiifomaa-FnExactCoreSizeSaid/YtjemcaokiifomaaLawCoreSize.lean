/- The law 'FnExactCoreSize' walked: over whatever both functions answer alike; no condition. -/
import Derived.Test.YtjemcaokiifomaaFamCore
import Derived.Deep.RegionHeld3
namespace Go.Proofs.Ytjemcaokiifomaa
open Go.RowKit
set_option linter.unusedVariables false
set_option linter.unusedSimpArgs false

theorem infoSzCore : (Try.prog.info? 36).map (·.size) = some 7 := by kernel_rfl
set_option maxRecDepth 100000 in
set_option maxHeartbeats 1000000 in
theorem lawFnExactCoreSize (x_aC : D) (r : Int) (hn_aC : x_aC.n = 7)
    (SZ_aC : SzA Try.prog 11 x_aC)
    (TO_aC : x_aC.bulk ≤ 1048576 → ToA Try.prog 13 x_aC)
    (EQ_aC : EqA Try.prog 16 x_aC)
    (SP : x_aC.bulk ≤ 1048576 → ∀ (w : World) (c_aC : List Value), Rd w x_aC c_aC → Calls Try.prog 22 #[.agg c_aC.toArray] w fun e w' => e = .returned (.int .i64 r) ∧ Below w.heap.size w w')
    (IM : x_aC.bulk ≤ 1048576 → ∀ (w : World) (c_aC : List Value), Rd w x_aC c_aC → Calls Try.prog 23 #[.agg c_aC.toArray] w fun e w' => e = .returned (.int .i64 r) ∧ Below w.heap.size w w') (w : World) (c_aC : List Value) (rd_aC : Rd w x_aC c_aC) :
    Calls Try.prog 5 #[.agg c_aC.toArray] w fun e w' => e = .returned (.bool true) ∧ Below w.heap.size w w' := by
  obtain ⟨u_aC0, u_aC1, u_aC2, u_aC3, u_aC4, u_aC5, u_aC6, rfl⟩ := cells7 (rd_aC.len.trans hn_aC)
  have RI_aC := Lib.hid rd_aC
  have SZaC := Lib.hid SZ_aC
  have TOaC := Lib.hid TO_aC
  have EQaC := Lib.hid EQ_aC
  clear EQ_aC
  clear rd_aC SZ_aC TO_aC
  have SPEC := Lib.hid SP
  have IMPL := Lib.hid IM
  clear SP IM
  have HB := Lib.hid (show Below w.heap.size w (w.alloc (.cells #[u_aC0, u_aC1, u_aC2, u_aC3, u_aC4, u_aC5, u_aC6] 29)) from ((Below.refl w.heap.size w).alloc (by simp) (.cells #[u_aC0, u_aC1, u_aC2, u_aC3, u_aC4, u_aC5, u_aC6] 29)))
  have BKaC := Lib.hid (blk_new w (.cells #[u_aC0, u_aC1, u_aC2, u_aC3, u_aC4, u_aC5, u_aC6] 29))
  go_enter Try.func5, Try.ntmps5
  go_wp2_with fail
  refine (SZaC.out _ _ (1048576) (RI_aC.out.below HB.out) (by omega) (by omega)).mono ?_
  rintro e w1 ⟨rfl, hb⟩
  have BKaC := Lib.hid (blk_below BKaC.out hb)
  have HB := Lib.hid (HB.out.trans (hb.mono HB.out.size))
  clear hb
  have zaC_0 := blk_cell BKaC.out 0
  have zaC_1 := blk_cell BKaC.out 1
  have zaC_2 := blk_cell BKaC.out 2
  have zaC_3 := blk_cell BKaC.out 3
  have zaC_4 := blk_cell BKaC.out 4
  have zaC_5 := blk_cell BKaC.out 5
  have zaC_6 := blk_cell BKaC.out 6
  simp at zaC_0 zaC_1 zaC_2 zaC_3 zaC_4 zaC_5 zaC_6
  by_cases hzaC : (1048576 : Int) < x_aC.bulk
  · rw [szR_neg' hzaC]
    go_wp2
    go_ret
    exact ⟨rfl, HB.out⟩
  rw [szR_fit (by omega)]
  have TOaC := Lib.hid (TOaC.out (by omega))
  have SPEC := Lib.hid (SPEC.out (by omega))
  have IMPL := Lib.hid (IMPL.out (by omega))
  clear zaC_0 zaC_1 zaC_2 zaC_3 zaC_4 zaC_5 zaC_6
  have zaC_0 := blk_cell BKaC.out 0
  have zaC_1 := blk_cell BKaC.out 1
  have zaC_2 := blk_cell BKaC.out 2
  have zaC_3 := blk_cell BKaC.out 3
  have zaC_4 := blk_cell BKaC.out 4
  have zaC_5 := blk_cell BKaC.out 5
  have zaC_6 := blk_cell BKaC.out 6
  simp at zaC_0 zaC_1 zaC_2 zaC_3 zaC_4 zaC_5 zaC_6
  go_wp2_with fail
  refine (TOaC.out _ _ (RI_aC.out.below HB.out)).mono ?_
  rintro e w2 ⟨cst1, rfl, hfr, hb⟩
  obtain ⟨t1_0, t1_1, t1_2, t1_3, t1_4, t1_5, t1_6, rfl⟩ := cells7 (hfr.len.trans hn_aC)
  have BKaC := Lib.hid (blk_below BKaC.out hb)
  have HB := Lib.hid (HB.out.trans (hb.mono HB.out.size))
  have RDt1 := Lib.hid hfr
  clear hb hfr
  clear zaC_0 zaC_1 zaC_2 zaC_3 zaC_4 zaC_5 zaC_6
  have zaC_0 := blk_cell BKaC.out 0
  have zaC_1 := blk_cell BKaC.out 1
  have zaC_2 := blk_cell BKaC.out 2
  have zaC_3 := blk_cell BKaC.out 3
  have zaC_4 := blk_cell BKaC.out 4
  have zaC_5 := blk_cell BKaC.out 5
  have zaC_6 := blk_cell BKaC.out 6
  simp at zaC_0 zaC_1 zaC_2 zaC_3 zaC_4 zaC_5 zaC_6
  go_wp2_with fail
  refine (SPEC.out _ _ RDt1.out.rd).mono ?_
  rintro e w3 ⟨rfl, hb⟩
  have BKaC := Lib.hid (blk_below BKaC.out hb)
  have RDt1 := Lib.hid (RDt1.out.below hb)
  have HB := Lib.hid (HB.out.trans (hb.mono HB.out.size))
  clear hb
  clear zaC_0 zaC_1 zaC_2 zaC_3 zaC_4 zaC_5 zaC_6
  have zaC_0 := blk_cell BKaC.out 0
  have zaC_1 := blk_cell BKaC.out 1
  have zaC_2 := blk_cell BKaC.out 2
  have zaC_3 := blk_cell BKaC.out 3
  have zaC_4 := blk_cell BKaC.out 4
  have zaC_5 := blk_cell BKaC.out 5
  have zaC_6 := blk_cell BKaC.out 6
  simp at zaC_0 zaC_1 zaC_2 zaC_3 zaC_4 zaC_5 zaC_6
  go_wp2_with fail
  refine (TOaC.out _ _ (RI_aC.out.below HB.out)).mono ?_
  rintro e w4 ⟨csx0, rfl, hfr, hb⟩
  obtain ⟨x0_0, x0_1, x0_2, x0_3, x0_4, x0_5, x0_6, rfl⟩ := cells7 (hfr.len.trans hn_aC)
  have BKaC := Lib.hid (blk_below BKaC.out hb)
  have HB := Lib.hid (HB.out.trans (hb.mono HB.out.size))
  have RDx0 := Lib.hid hfr
  have ONEx0 := Lib.hid hfr.all
  clear hb hfr
  have BKaC := Lib.hid (blk_old BKaC.out (.cells #[x0_0, x0_1, x0_2, x0_3, x0_4, x0_5, x0_6] 36))
  have hal := (Below.refl w4.heap.size w4).alloc (Nat.le_refl _) (.cells #[x0_0, x0_1, x0_2, x0_3, x0_4, x0_5, x0_6] 36)
  have RDx0 := Lib.hid (RDx0.out.below hal)
  have HB := Lib.hid (HB.out.trans (hal.mono HB.out.size))
  have BKxx0 := Lib.hid (blk_new w4 (.cells #[x0_0, x0_1, x0_2, x0_3, x0_4, x0_5, x0_6] 36))
  clear hal
  clear zaC_0 zaC_1 zaC_2 zaC_3 zaC_4 zaC_5 zaC_6
  have zaC_0 := blk_cell BKaC.out 0
  have zaC_1 := blk_cell BKaC.out 1
  have zaC_2 := blk_cell BKaC.out 2
  have zaC_3 := blk_cell BKaC.out 3
  have zaC_4 := blk_cell BKaC.out 4
  have zaC_5 := blk_cell BKaC.out 5
  have zaC_6 := blk_cell BKaC.out 6
  simp at zaC_0 zaC_1 zaC_2 zaC_3 zaC_4 zaC_5 zaC_6
  have zxx0_0 := blk_cell BKxx0.out 0
  have zxx0_1 := blk_cell BKxx0.out 1
  have zxx0_2 := blk_cell BKxx0.out 2
  have zxx0_3 := blk_cell BKxx0.out 3
  have zxx0_4 := blk_cell BKxx0.out 4
  have zxx0_5 := blk_cell BKxx0.out 5
  have zxx0_6 := blk_cell BKxx0.out 6
  simp at zxx0_0 zxx0_1 zxx0_2 zxx0_3 zxx0_4 zxx0_5 zxx0_6
  clear zaC_0 zaC_1 zaC_2 zaC_3 zaC_4 zaC_5 zaC_6 zxx0_0 zxx0_1 zxx0_2 zxx0_3 zxx0_4 zxx0_5 zxx0_6
  have zaC_0 := blk_cell BKaC.out 0
  have zaC_1 := blk_cell BKaC.out 1
  have zaC_2 := blk_cell BKaC.out 2
  have zaC_3 := blk_cell BKaC.out 3
  have zaC_4 := blk_cell BKaC.out 4
  have zaC_5 := blk_cell BKaC.out 5
  have zaC_6 := blk_cell BKaC.out 6
  simp at zaC_0 zaC_1 zaC_2 zaC_3 zaC_4 zaC_5 zaC_6
  have zxx0_0 := blk_cell BKxx0.out 0
  have zxx0_1 := blk_cell BKxx0.out 1
  have zxx0_2 := blk_cell BKxx0.out 2
  have zxx0_3 := blk_cell BKxx0.out 3
  have zxx0_4 := blk_cell BKxx0.out 4
  have zxx0_5 := blk_cell BKxx0.out 5
  have zxx0_6 := blk_cell BKxx0.out 6
  simp at zxx0_0 zxx0_1 zxx0_2 zxx0_3 zxx0_4 zxx0_5 zxx0_6
  go_wp2_with (refine wpl_store_new rfl 36 (.tmp 5) (.tmp 16) rfl _ #[x0_0, x0_1, x0_2, x0_3, x0_4, x0_5, x0_6] rfl rfl (infoSzCore) rfl ONEx0.out ?_)
  refine (IMPL.out _ _ RDx0.out.rd).mono ?_
  rintro e w5 ⟨rfl, hb⟩
  have BKaC := Lib.hid (blk_below BKaC.out hb)
  have BKxx0 := Lib.hid (blk_below BKxx0.out hb)
  have RDx0 := Lib.hid (RDx0.out.below hb)
  have HB := Lib.hid (HB.out.trans (hb.mono HB.out.size))
  clear hb
  clear zaC_0 zaC_1 zaC_2 zaC_3 zaC_4 zaC_5 zaC_6 zxx0_0 zxx0_1 zxx0_2 zxx0_3 zxx0_4 zxx0_5 zxx0_6
  have zaC_0 := blk_cell BKaC.out 0
  have zaC_1 := blk_cell BKaC.out 1
  have zaC_2 := blk_cell BKaC.out 2
  have zaC_3 := blk_cell BKaC.out 3
  have zaC_4 := blk_cell BKaC.out 4
  have zaC_5 := blk_cell BKaC.out 5
  have zaC_6 := blk_cell BKaC.out 6
  simp at zaC_0 zaC_1 zaC_2 zaC_3 zaC_4 zaC_5 zaC_6
  have zxx0_0 := blk_cell BKxx0.out 0
  have zxx0_1 := blk_cell BKxx0.out 1
  have zxx0_2 := blk_cell BKxx0.out 2
  have zxx0_3 := blk_cell BKxx0.out 3
  have zxx0_4 := blk_cell BKxx0.out 4
  have zxx0_5 := blk_cell BKxx0.out 5
  have zxx0_6 := blk_cell BKxx0.out 6
  simp at zxx0_0 zxx0_1 zxx0_2 zxx0_3 zxx0_4 zxx0_5 zxx0_6
  go_wp2_with fail
  go_region_held3 (fun w' => w'.cell? ⟨w4.heap.size, 0, none⟩ = some x0_0 ∧ w'.cell? ⟨w4.heap.size, 1, none⟩ = some x0_1 ∧ w'.cell? ⟨w4.heap.size, 2, none⟩ = some x0_2 ∧ w'.cell? ⟨w4.heap.size, 3, none⟩ = some x0_3 ∧ w'.cell? ⟨w4.heap.size, 4, none⟩ = some x0_4 ∧ w'.cell? ⟨w4.heap.size, 5, none⟩ = some x0_5 ∧ w'.cell? ⟨w4.heap.size, 6, none⟩ = some x0_6 ∧ w'.cell? ⟨w.heap.size, 0, none⟩ = some u_aC0 ∧ w'.cell? ⟨w.heap.size, 1, none⟩ = some u_aC1 ∧ w'.cell? ⟨w.heap.size, 2, none⟩ = some u_aC2 ∧ w'.cell? ⟨w.heap.size, 3, none⟩ = some u_aC3 ∧ w'.cell? ⟨w.heap.size, 4, none⟩ = some u_aC4 ∧ w'.cell? ⟨w.heap.size, 5, none⟩ = some u_aC5 ∧ w'.cell? ⟨w.heap.size, 6, none⟩ = some u_aC6)
    (first | exact ⟨zxx0_0, zxx0_1, zxx0_2, zxx0_3, zxx0_4, zxx0_5, zxx0_6, zaC_0, zaC_1, zaC_2, zaC_3, zaC_4, zaC_5, zaC_6⟩ | exact ⟨by simpa using blk_cell BKxx0.out 0, by simpa using blk_cell BKxx0.out 1, by simpa using blk_cell BKxx0.out 2, by simpa using blk_cell BKxx0.out 3, by simpa using blk_cell BKxx0.out 4, by simpa using blk_cell BKxx0.out 5, by simpa using blk_cell BKxx0.out 6, by simpa using blk_cell BKaC.out 0, by simpa using blk_cell BKaC.out 1, by simpa using blk_cell BKaC.out 2, by simpa using blk_cell BKaC.out 3, by simpa using blk_cell BKaC.out 4, by simpa using blk_cell BKaC.out 5, by simpa using blk_cell BKaC.out 6⟩)
    (first
      | (go_at_call 13; have HB := Lib.hid HB.out.drew; have BKaC := Lib.hid (blk_drew BKaC.out); have BKxx0 := Lib.hid (blk_drew BKxx0.out); have RDx0 := Lib.hid (RDx0.out.below (Below.refl _ _).drew); have CT := TOaC.out _ _ (RI_aC.out.below HB.out); (with_reducible refine CT.mono ?_); clear CT; rintro e w6 ⟨cst2, rfl, hfr, hb⟩; have BKaC := Lib.hid (blk_below BKaC.out hb); have BKxx0 := Lib.hid (blk_below BKxx0.out hb); have RDx0 := Lib.hid (RDx0.out.below hb); have HB := Lib.hid (HB.out.trans (hb.mono HB.out.size)); have RDt2 := Lib.hid hfr; clear hb hfr)
      | (go_at_call 16; have CT := EQaC.out _ _ _ RDx0.out.rd RDt2.out.rd; (with_reducible refine CT.mono ?_); clear CT; rintro e w7 ⟨rfl, hb⟩; have BKaC := Lib.hid (blk_below BKaC.out hb); have BKxx0 := Lib.hid (blk_below BKxx0.out hb); have RDx0 := Lib.hid (RDx0.out.below hb); have RDt2 := Lib.hid (RDt2.out.below hb); have HB := Lib.hid (HB.out.trans (hb.mono HB.out.size)); clear hb))
  clear zaC_0 zaC_1 zaC_2 zaC_3 zaC_4 zaC_5 zaC_6 zxx0_0 zxx0_1 zxx0_2 zxx0_3 zxx0_4 zxx0_5 zxx0_6
  have zaC_0 := blk_cell BKaC.out 0
  have zaC_1 := blk_cell BKaC.out 1
  have zaC_2 := blk_cell BKaC.out 2
  have zaC_3 := blk_cell BKaC.out 3
  have zaC_4 := blk_cell BKaC.out 4
  have zaC_5 := blk_cell BKaC.out 5
  have zaC_6 := blk_cell BKaC.out 6
  simp at zaC_0 zaC_1 zaC_2 zaC_3 zaC_4 zaC_5 zaC_6
  have zxx0_0 := blk_cell BKxx0.out 0
  have zxx0_1 := blk_cell BKxx0.out 1
  have zxx0_2 := blk_cell BKxx0.out 2
  have zxx0_3 := blk_cell BKxx0.out 3
  have zxx0_4 := blk_cell BKxx0.out 4
  have zxx0_5 := blk_cell BKxx0.out 5
  have zxx0_6 := blk_cell BKxx0.out 6
  simp at zxx0_0 zxx0_1 zxx0_2 zxx0_3 zxx0_4 zxx0_5 zxx0_6
  go_wp2
  go_ret
  exact ⟨rfl, HB.out⟩

end Go.Proofs.Ytjemcaokiifomaa
