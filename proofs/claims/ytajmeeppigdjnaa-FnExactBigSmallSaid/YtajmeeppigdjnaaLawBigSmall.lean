/- The law 'FnExactBigSmall' walked: over whatever both functions answer alike; no condition. -/
import Derived.Test.YtajmeeppigdjnaaFamBig
import Derived.Test.YtajmeeppigdjnaaFamSmall
import Derived.Deep.RegionHeld3
namespace Go.Proofs.Ytajmeeppigdjnaa
open Go.RowKit
set_option linter.unusedVariables false
set_option linter.unusedSimpArgs false

theorem infoSzBig : (Try.prog.info? 24).map (·.size) = some 2 := by kernel_rfl
theorem infoSzSmallResult : (Try.prog.info? 32).map (·.size) = some 2 := by kernel_rfl
set_option maxRecDepth 100000 in
set_option maxHeartbeats 1000000 in
theorem lawFnExactBigSmall (x_aB : D) (r : D) (hn_aB : x_aB.n = 2)
    (SZ_aB : SzA Try.prog 20 x_aB)
    (TO_aB : x_aB.bulk ≤ 1048576 → ToA Try.prog 22 x_aB)
    (EQ_aB : EqA Try.prog 17 x_aB)
    (hn_r : r.n = 2)
    (EQ_r : EqA Try.prog 24 r)
    (SP : x_aB.bulk ≤ 1048576 → ∀ (w : World) (c_aB : List Value), Rd w x_aB c_aB → Calls Try.prog 21 #[.agg c_aB.toArray] w fun e w' => ∃ cs', e = .returned (.agg cs'.toArray) ∧ Fr w.heap.size w' r cs' ∧ Below w.heap.size w w')
    (IM : x_aB.bulk ≤ 1048576 → ∀ (w : World) (c_aB : List Value), Rd w x_aB c_aB → Calls Try.prog 23 #[.agg c_aB.toArray] w fun e w' => ∃ cs', e = .returned (.agg cs'.toArray) ∧ Fr w.heap.size w' r cs' ∧ Below w.heap.size w w') (w : World) (c_aB : List Value) (rd_aB : Rd w x_aB c_aB) :
    Calls Try.prog 4 #[.agg c_aB.toArray] w fun e w' => e = .returned (.bool true) ∧ Below w.heap.size w w' := by
  obtain ⟨u_aB0, u_aB1, rfl⟩ := cells2 (rd_aB.len.trans hn_aB)
  have RI_aB := Lib.hid rd_aB
  have SZaB := Lib.hid SZ_aB
  have TOaB := Lib.hid TO_aB
  have EQaB := Lib.hid EQ_aB
  clear EQ_aB
  clear rd_aB SZ_aB TO_aB
  have EQr := Lib.hid EQ_r
  clear EQ_r
  have SPEC := Lib.hid SP
  have IMPL := Lib.hid IM
  clear SP IM
  have HB := Lib.hid (show Below w.heap.size w (w.alloc (.cells #[u_aB0, u_aB1] 29)) from ((Below.refl w.heap.size w).alloc (by simp) (.cells #[u_aB0, u_aB1] 29)))
  have BKaB := Lib.hid (blk_new w (.cells #[u_aB0, u_aB1] 29))
  go_enter Try.func4, Try.ntmps4
  go_wp2_with fail
  refine (SZaB.out _ _ (1048576) (RI_aB.out.below HB.out) (by omega) (by omega)).mono ?_
  rintro e w1 ⟨rfl, hb⟩
  have BKaB := Lib.hid (blk_below BKaB.out hb)
  have HB := Lib.hid (HB.out.trans (hb.mono HB.out.size))
  clear hb
  have zaB_0 := blk_cell BKaB.out 0
  have zaB_1 := blk_cell BKaB.out 1
  simp at zaB_0 zaB_1
  by_cases hzaB : (1048576 : Int) < x_aB.bulk
  · rw [szR_neg' hzaB]
    go_wp2
    go_ret
    exact ⟨rfl, HB.out⟩
  rw [szR_fit (by omega)]
  have TOaB := Lib.hid (TOaB.out (by omega))
  have SPEC := Lib.hid (SPEC.out (by omega))
  have IMPL := Lib.hid (IMPL.out (by omega))
  clear zaB_0 zaB_1
  have zaB_0 := blk_cell BKaB.out 0
  have zaB_1 := blk_cell BKaB.out 1
  simp at zaB_0 zaB_1
  go_wp2_with fail
  refine (TOaB.out _ _ (RI_aB.out.below HB.out)).mono ?_
  rintro e w2 ⟨cst1, rfl, hfr, hb⟩
  obtain ⟨t1_0, t1_1, rfl⟩ := cells2 (hfr.len.trans hn_aB)
  have BKaB := Lib.hid (blk_below BKaB.out hb)
  have HB := Lib.hid (HB.out.trans (hb.mono HB.out.size))
  have RDt1 := Lib.hid hfr
  clear hb hfr
  clear zaB_0 zaB_1
  have zaB_0 := blk_cell BKaB.out 0
  have zaB_1 := blk_cell BKaB.out 1
  simp at zaB_0 zaB_1
  go_wp2_with fail
  refine (SPEC.out _ _ RDt1.out.rd).mono ?_
  rintro e w3 ⟨csw0, rfl, hfr, hb⟩
  obtain ⟨w0_0, w0_1, rfl⟩ := cells2 (hfr.len.trans hn_r)
  have BKaB := Lib.hid (blk_below BKaB.out hb)
  have RDt1 := Lib.hid (RDt1.out.below hb)
  have HB := Lib.hid (HB.out.trans (hb.mono HB.out.size))
  have RDw0 := Lib.hid hfr
  have ONEw0 := Lib.hid hfr.all
  clear hb hfr
  have BKaB := Lib.hid (blk_old BKaB.out (.cells #[w0_0, w0_1] 32))
  have hal := (Below.refl w3.heap.size w3).alloc (Nat.le_refl _) (.cells #[w0_0, w0_1] 32)
  have RDw0 := Lib.hid (RDw0.out.below hal)
  have HB := Lib.hid (HB.out.trans (hal.mono HB.out.size))
  have BKxw0 := Lib.hid (blk_new w3 (.cells #[w0_0, w0_1] 32))
  clear hal
  clear zaB_0 zaB_1
  have zaB_0 := blk_cell BKaB.out 0
  have zaB_1 := blk_cell BKaB.out 1
  simp at zaB_0 zaB_1
  have zxw0_0 := blk_cell BKxw0.out 0
  have zxw0_1 := blk_cell BKxw0.out 1
  simp at zxw0_0 zxw0_1
  go_wp2_with (refine wpl_store_new rfl 32 (.tmp 4) (.tmp 14) rfl _ #[w0_0, w0_1] rfl rfl (infoSzSmallResult) rfl ONEw0.out ?_)
  refine (TOaB.out _ _ (RI_aB.out.below HB.out)).mono ?_
  rintro e w4 ⟨csx0, rfl, hfr, hb⟩
  obtain ⟨x0_0, x0_1, rfl⟩ := cells2 (hfr.len.trans hn_aB)
  have BKaB := Lib.hid (blk_below BKaB.out hb)
  have BKxw0 := Lib.hid (blk_below BKxw0.out hb)
  have RDw0 := Lib.hid (RDw0.out.below hb)
  have HB := Lib.hid (HB.out.trans (hb.mono HB.out.size))
  have RDx0 := Lib.hid hfr
  have ONEx0 := Lib.hid hfr.all
  clear hb hfr
  have BKaB := Lib.hid (blk_old BKaB.out (.cells #[x0_0, x0_1] 24))
  have BKxw0 := Lib.hid (blk_old BKxw0.out (.cells #[x0_0, x0_1] 24))
  have hal := (Below.refl w4.heap.size w4).alloc (Nat.le_refl _) (.cells #[x0_0, x0_1] 24)
  have RDw0 := Lib.hid (RDw0.out.below hal)
  have RDx0 := Lib.hid (RDx0.out.below hal)
  have HB := Lib.hid (HB.out.trans (hal.mono HB.out.size))
  have BKxx0 := Lib.hid (blk_new w4 (.cells #[x0_0, x0_1] 24))
  clear hal
  clear zaB_0 zaB_1 zxw0_0 zxw0_1
  have zaB_0 := blk_cell BKaB.out 0
  have zaB_1 := blk_cell BKaB.out 1
  simp at zaB_0 zaB_1
  have zxw0_0 := blk_cell BKxw0.out 0
  have zxw0_1 := blk_cell BKxw0.out 1
  simp at zxw0_0 zxw0_1
  have zxx0_0 := blk_cell BKxx0.out 0
  have zxx0_1 := blk_cell BKxx0.out 1
  simp at zxx0_0 zxx0_1
  clear zaB_0 zaB_1 zxw0_0 zxw0_1 zxx0_0 zxx0_1
  have zaB_0 := blk_cell BKaB.out 0
  have zaB_1 := blk_cell BKaB.out 1
  simp at zaB_0 zaB_1
  have zxw0_0 := blk_cell BKxw0.out 0
  have zxw0_1 := blk_cell BKxw0.out 1
  simp at zxw0_0 zxw0_1
  have zxx0_0 := blk_cell BKxx0.out 0
  have zxx0_1 := blk_cell BKxx0.out 1
  simp at zxx0_0 zxx0_1
  go_wp2_with (refine wpl_store_new rfl 24 (.tmp 5) (.tmp 16) rfl _ #[x0_0, x0_1] rfl rfl (infoSzBig) rfl ONEx0.out ?_)
  refine (IMPL.out _ _ RDx0.out.rd).mono ?_
  rintro e w5 ⟨csg0, rfl, hfr, hb⟩
  obtain ⟨g0_0, g0_1, rfl⟩ := cells2 (hfr.len.trans hn_r)
  have BKaB := Lib.hid (blk_below BKaB.out hb)
  have BKxw0 := Lib.hid (blk_below BKxw0.out hb)
  have BKxx0 := Lib.hid (blk_below BKxx0.out hb)
  have RDw0 := Lib.hid (RDw0.out.below hb)
  have RDx0 := Lib.hid (RDx0.out.below hb)
  have HB := Lib.hid (HB.out.trans (hb.mono HB.out.size))
  have RDg0 := Lib.hid hfr
  have ONEg0 := Lib.hid hfr.all
  clear hb hfr
  have BKaB := Lib.hid (blk_old BKaB.out (.cells #[g0_0, g0_1] 32))
  have BKxw0 := Lib.hid (blk_old BKxw0.out (.cells #[g0_0, g0_1] 32))
  have BKxx0 := Lib.hid (blk_old BKxx0.out (.cells #[g0_0, g0_1] 32))
  have hal := (Below.refl w5.heap.size w5).alloc (Nat.le_refl _) (.cells #[g0_0, g0_1] 32)
  have RDw0 := Lib.hid (RDw0.out.below hal)
  have RDx0 := Lib.hid (RDx0.out.below hal)
  have RDg0 := Lib.hid (RDg0.out.below hal)
  have HB := Lib.hid (HB.out.trans (hal.mono HB.out.size))
  have BKxg0 := Lib.hid (blk_new w5 (.cells #[g0_0, g0_1] 32))
  clear hal
  clear zaB_0 zaB_1 zxw0_0 zxw0_1 zxx0_0 zxx0_1
  have zaB_0 := blk_cell BKaB.out 0
  have zaB_1 := blk_cell BKaB.out 1
  simp at zaB_0 zaB_1
  have zxw0_0 := blk_cell BKxw0.out 0
  have zxw0_1 := blk_cell BKxw0.out 1
  simp at zxw0_0 zxw0_1
  have zxx0_0 := blk_cell BKxx0.out 0
  have zxx0_1 := blk_cell BKxx0.out 1
  simp at zxx0_0 zxx0_1
  have zxg0_0 := blk_cell BKxg0.out 0
  have zxg0_1 := blk_cell BKxg0.out 1
  simp at zxg0_0 zxg0_1
  go_wp2_with (refine wpl_store_new rfl 32 (.tmp 6) (.tmp 18) rfl _ #[g0_0, g0_1] rfl rfl (infoSzSmallResult) rfl ONEg0.out ?_)
  refine (EQr.out _ _ _ RDg0.out.rd RDw0.out.rd).mono ?_
  rintro e w6 ⟨rfl, hb⟩
  have BKaB := Lib.hid (blk_below BKaB.out hb)
  have BKxw0 := Lib.hid (blk_below BKxw0.out hb)
  have BKxx0 := Lib.hid (blk_below BKxx0.out hb)
  have BKxg0 := Lib.hid (blk_below BKxg0.out hb)
  have RDw0 := Lib.hid (RDw0.out.below hb)
  have RDx0 := Lib.hid (RDx0.out.below hb)
  have RDg0 := Lib.hid (RDg0.out.below hb)
  have HB := Lib.hid (HB.out.trans (hb.mono HB.out.size))
  clear hb
  clear zaB_0 zaB_1 zxw0_0 zxw0_1 zxx0_0 zxx0_1 zxg0_0 zxg0_1
  have zaB_0 := blk_cell BKaB.out 0
  have zaB_1 := blk_cell BKaB.out 1
  simp at zaB_0 zaB_1
  have zxw0_0 := blk_cell BKxw0.out 0
  have zxw0_1 := blk_cell BKxw0.out 1
  simp at zxw0_0 zxw0_1
  have zxx0_0 := blk_cell BKxx0.out 0
  have zxx0_1 := blk_cell BKxx0.out 1
  simp at zxx0_0 zxx0_1
  have zxg0_0 := blk_cell BKxg0.out 0
  have zxg0_1 := blk_cell BKxg0.out 1
  simp at zxg0_0 zxg0_1
  go_wp2_with fail
  go_region_held3 (fun w' => w'.cell? ⟨w4.heap.size, 0, none⟩ = some x0_0 ∧ w'.cell? ⟨w4.heap.size, 1, none⟩ = some x0_1 ∧ w'.cell? ⟨w.heap.size, 0, none⟩ = some u_aB0 ∧ w'.cell? ⟨w.heap.size, 1, none⟩ = some u_aB1)
    (first | exact ⟨zxx0_0, zxx0_1, zaB_0, zaB_1⟩ | exact ⟨by simpa using blk_cell BKxx0.out 0, by simpa using blk_cell BKxx0.out 1, by simpa using blk_cell BKaB.out 0, by simpa using blk_cell BKaB.out 1⟩)
    (first
      | (go_at_call 22; have HB := Lib.hid HB.out.drew; have BKaB := Lib.hid (blk_drew BKaB.out); have BKxw0 := Lib.hid (blk_drew BKxw0.out); have BKxx0 := Lib.hid (blk_drew BKxx0.out); have BKxg0 := Lib.hid (blk_drew BKxg0.out); have RDw0 := Lib.hid (RDw0.out.below (Below.refl _ _).drew); have RDx0 := Lib.hid (RDx0.out.below (Below.refl _ _).drew); have RDg0 := Lib.hid (RDg0.out.below (Below.refl _ _).drew); have CT := TOaB.out _ _ (RI_aB.out.below HB.out); (with_reducible refine CT.mono ?_); clear CT; rintro e w7 ⟨cst2, rfl, hfr, hb⟩; have BKaB := Lib.hid (blk_below BKaB.out hb); have BKxw0 := Lib.hid (blk_below BKxw0.out hb); have BKxx0 := Lib.hid (blk_below BKxx0.out hb); have BKxg0 := Lib.hid (blk_below BKxg0.out hb); have RDw0 := Lib.hid (RDw0.out.below hb); have RDx0 := Lib.hid (RDx0.out.below hb); have RDg0 := Lib.hid (RDg0.out.below hb); have HB := Lib.hid (HB.out.trans (hb.mono HB.out.size)); have RDt2 := Lib.hid hfr; clear hb hfr)
      | (go_at_call 17; have CT := EQaB.out _ _ _ RDx0.out.rd RDt2.out.rd; (with_reducible refine CT.mono ?_); clear CT; rintro e w8 ⟨rfl, hb⟩; have BKaB := Lib.hid (blk_below BKaB.out hb); have BKxw0 := Lib.hid (blk_below BKxw0.out hb); have BKxx0 := Lib.hid (blk_below BKxx0.out hb); have BKxg0 := Lib.hid (blk_below BKxg0.out hb); have RDw0 := Lib.hid (RDw0.out.below hb); have RDx0 := Lib.hid (RDx0.out.below hb); have RDg0 := Lib.hid (RDg0.out.below hb); have RDt2 := Lib.hid (RDt2.out.below hb); have HB := Lib.hid (HB.out.trans (hb.mono HB.out.size)); clear hb))
  clear zaB_0 zaB_1 zxw0_0 zxw0_1 zxx0_0 zxx0_1 zxg0_0 zxg0_1
  have zaB_0 := blk_cell BKaB.out 0
  have zaB_1 := blk_cell BKaB.out 1
  simp at zaB_0 zaB_1
  have zxw0_0 := blk_cell BKxw0.out 0
  have zxw0_1 := blk_cell BKxw0.out 1
  simp at zxw0_0 zxw0_1
  have zxx0_0 := blk_cell BKxx0.out 0
  have zxx0_1 := blk_cell BKxx0.out 1
  simp at zxx0_0 zxx0_1
  have zxg0_0 := blk_cell BKxg0.out 0
  have zxg0_1 := blk_cell BKxg0.out 1
  simp at zxg0_0 zxg0_1
  go_wp2
  go_ret
  exact ⟨rfl, HB.out⟩

end Go.Proofs.Ytajmeeppigdjnaa
