/- The law 'FnExactBigText' walked: over whatever both functions answer alike; no condition. -/
import Derived.Test.YtajmeeppigdjnaaFamBig
import Derived.Deep.RegionHeld3
namespace Go.Proofs.Ytajmeeppigdjnaa
open Go.RowKit
set_option linter.unusedVariables false
set_option linter.unusedSimpArgs false

theorem infoSzBig : (Try.prog.info? 24).map (·.size) = some 2 := by kernel_rfl
set_option maxRecDepth 100000 in
set_option maxHeartbeats 1000000 in
theorem lawFnExactBigText (x_aB : D) (r : ByteArray) (hn_aB : x_aB.n = 2)
    (SZ_aB : SzA Try.prog 20 x_aB)
    (TO_aB : x_aB.bulk ≤ 1048576 → ToA Try.prog 22 x_aB)
    (EQ_aB : EqA Try.prog 17 x_aB)
    (SP : x_aB.bulk ≤ 1048576 → ∀ (w : World) (c_aB : List Value), Rd w x_aB c_aB → Calls Try.prog 27 #[.agg c_aB.toArray] w fun e w' => e = .returned (.string r) ∧ Below w.heap.size w w')
    (IM : x_aB.bulk ≤ 1048576 → ∀ (w : World) (c_aB : List Value), Rd w x_aB c_aB → Calls Try.prog 28 #[.agg c_aB.toArray] w fun e w' => e = .returned (.string r) ∧ Below w.heap.size w w') (w : World) (c_aB : List Value) (rd_aB : Rd w x_aB c_aB) :
    Calls Try.prog 6 #[.agg c_aB.toArray] w fun e w' => e = .returned (.bool true) ∧ Below w.heap.size w w' := by
  obtain ⟨u_aB0, u_aB1, rfl⟩ := cells2 (rd_aB.len.trans hn_aB)
  have RI_aB := Lib.hid rd_aB
  have SZaB := Lib.hid SZ_aB
  have TOaB := Lib.hid TO_aB
  have EQaB := Lib.hid EQ_aB
  clear EQ_aB
  clear rd_aB SZ_aB TO_aB
  have SPEC := Lib.hid SP
  have IMPL := Lib.hid IM
  clear SP IM
  have HB := Lib.hid (show Below w.heap.size w (w.alloc (.cells #[u_aB0, u_aB1] 29)) from ((Below.refl w.heap.size w).alloc (by simp) (.cells #[u_aB0, u_aB1] 29)))
  have BKaB := Lib.hid (blk_new w (.cells #[u_aB0, u_aB1] 29))
  go_enter Try.func6, Try.ntmps6
  go_wp2_with fail
  refine (SZaB.out _ _ (1048576) (RI_aB.out.below HB.out) (by omega) (by omega)).mono ?_
  rintro e w1 ⟨rfl, hb⟩
  have BKaB := Lib.hid (blk_below BKaB.out hb)
  have HB := Lib.hid (HB.out.trans (hb.mono HB.out.size))
  clear hb
  have zaB_0 := blk_cell BKaB.out 0
  have zaB_1 := blk_cell BKaB.out 1
  simp at zaB_0 zaB_1
  by_cases hzaB : (1048576 : Int) < x_aB.bulk
  · rw [szR_neg' hzaB]
    go_wp2
    go_ret
    exact ⟨rfl, HB.out⟩
  rw [szR_fit (by omega)]
  have TOaB := Lib.hid (TOaB.out (by omega))
  have SPEC := Lib.hid (SPEC.out (by omega))
  have IMPL := Lib.hid (IMPL.out (by omega))
  clear zaB_0 zaB_1
  have zaB_0 := blk_cell BKaB.out 0
  have zaB_1 := blk_cell BKaB.out 1
  simp at zaB_0 zaB_1
  go_wp2_with fail
  refine (TOaB.out _ _ (RI_aB.out.below HB.out)).mono ?_
  rintro e w2 ⟨cst1, rfl, hfr, hb⟩
  obtain ⟨t1_0, t1_1, rfl⟩ := cells2 (hfr.len.trans hn_aB)
  have BKaB := Lib.hid (blk_below BKaB.out hb)
  have HB := Lib.hid (HB.out.trans (hb.mono HB.out.size))
  have RDt1 := Lib.hid hfr
  clear hb hfr
  clear zaB_0 zaB_1
  have zaB_0 := blk_cell BKaB.out 0
  have zaB_1 := blk_cell BKaB.out 1
  simp at zaB_0 zaB_1
  go_wp2_with fail
  refine (SPEC.out _ _ RDt1.out.rd).mono ?_
  rintro e w3 ⟨rfl, hb⟩
  have BKaB := Lib.hid (blk_below BKaB.out hb)
  have RDt1 := Lib.hid (RDt1.out.below hb)
  have HB := Lib.hid (HB.out.trans (hb.mono HB.out.size))
  clear hb
  clear zaB_0 zaB_1
  have zaB_0 := blk_cell BKaB.out 0
  have zaB_1 := blk_cell BKaB.out 1
  simp at zaB_0 zaB_1
  go_wp2_with fail
  refine (TOaB.out _ _ (RI_aB.out.below HB.out)).mono ?_
  rintro e w4 ⟨csx0, rfl, hfr, hb⟩
  obtain ⟨x0_0, x0_1, rfl⟩ := cells2 (hfr.len.trans hn_aB)
  have BKaB := Lib.hid (blk_below BKaB.out hb)
  have HB := Lib.hid (HB.out.trans (hb.mono HB.out.size))
  have RDx0 := Lib.hid hfr
  have ONEx0 := Lib.hid hfr.all
  clear hb hfr
  have BKaB := Lib.hid (blk_old BKaB.out (.cells #[x0_0, x0_1] 24))
  have hal := (Below.refl w4.heap.size w4).alloc (Nat.le_refl _) (.cells #[x0_0, x0_1] 24)
  have RDx0 := Lib.hid (RDx0.out.below hal)
  have HB := Lib.hid (HB.out.trans (hal.mono HB.out.size))
  have BKxx0 := Lib.hid (blk_new w4 (.cells #[x0_0, x0_1] 24))
  clear hal
  clear zaB_0 zaB_1
  have zaB_0 := blk_cell BKaB.out 0
  have zaB_1 := blk_cell BKaB.out 1
  simp at zaB_0 zaB_1
  have zxx0_0 := blk_cell BKxx0.out 0
  have zxx0_1 := blk_cell BKxx0.out 1
  simp at zxx0_0 zxx0_1
  clear zaB_0 zaB_1 zxx0_0 zxx0_1
  have zaB_0 := blk_cell BKaB.out 0
  have zaB_1 := blk_cell BKaB.out 1
  simp at zaB_0 zaB_1
  have zxx0_0 := blk_cell BKxx0.out 0
  have zxx0_1 := blk_cell BKxx0.out 1
  simp at zxx0_0 zxx0_1
  go_wp2_with (refine wpl_store_new rfl 24 (.tmp 5) (.tmp 16) rfl _ #[x0_0, x0_1] rfl rfl (infoSzBig) rfl ONEx0.out ?_)
  refine (IMPL.out _ _ RDx0.out.rd).mono ?_
  rintro e w5 ⟨rfl, hb⟩
  have BKaB := Lib.hid (blk_below BKaB.out hb)
  have BKxx0 := Lib.hid (blk_below BKxx0.out hb)
  have RDx0 := Lib.hid (RDx0.out.below hb)
  have HB := Lib.hid (HB.out.trans (hb.mono HB.out.size))
  clear hb
  clear zaB_0 zaB_1 zxx0_0 zxx0_1
  have zaB_0 := blk_cell BKaB.out 0
  have zaB_1 := blk_cell BKaB.out 1
  simp at zaB_0 zaB_1
  have zxx0_0 := blk_cell BKxx0.out 0
  have zxx0_1 := blk_cell BKxx0.out 1
  simp at zxx0_0 zxx0_1
  go_wp2_with fail
  go_region_held3 (fun w' => w'.cell? ⟨w4.heap.size, 0, none⟩ = some x0_0 ∧ w'.cell? ⟨w4.heap.size, 1, none⟩ = some x0_1 ∧ w'.cell? ⟨w.heap.size, 0, none⟩ = some u_aB0 ∧ w'.cell? ⟨w.heap.size, 1, none⟩ = some u_aB1)
    (first | exact ⟨zxx0_0, zxx0_1, zaB_0, zaB_1⟩ | exact ⟨by simpa using blk_cell BKxx0.out 0, by simpa using blk_cell BKxx0.out 1, by simpa using blk_cell BKaB.out 0, by simpa using blk_cell BKaB.out 1⟩)
    (first
      | (go_at_call 22; have HB := Lib.hid HB.out.drew; have BKaB := Lib.hid (blk_drew BKaB.out); have BKxx0 := Lib.hid (blk_drew BKxx0.out); have RDx0 := Lib.hid (RDx0.out.below (Below.refl _ _).drew); have CT := TOaB.out _ _ (RI_aB.out.below HB.out); (with_reducible refine CT.mono ?_); clear CT; rintro e w6 ⟨cst2, rfl, hfr, hb⟩; have BKaB := Lib.hid (blk_below BKaB.out hb); have BKxx0 := Lib.hid (blk_below BKxx0.out hb); have RDx0 := Lib.hid (RDx0.out.below hb); have HB := Lib.hid (HB.out.trans (hb.mono HB.out.size)); have RDt2 := Lib.hid hfr; clear hb hfr)
      | (go_at_call 17; have CT := EQaB.out _ _ _ RDx0.out.rd RDt2.out.rd; (with_reducible refine CT.mono ?_); clear CT; rintro e w7 ⟨rfl, hb⟩; have BKaB := Lib.hid (blk_below BKaB.out hb); have BKxx0 := Lib.hid (blk_below BKxx0.out hb); have RDx0 := Lib.hid (RDx0.out.below hb); have RDt2 := Lib.hid (RDt2.out.below hb); have HB := Lib.hid (HB.out.trans (hb.mono HB.out.size)); clear hb))
  clear zaB_0 zaB_1 zxx0_0 zxx0_1
  have zaB_0 := blk_cell BKaB.out 0
  have zaB_1 := blk_cell BKaB.out 1
  simp at zaB_0 zaB_1
  have zxx0_0 := blk_cell BKxx0.out 0
  have zxx0_1 := blk_cell BKxx0.out 1
  simp at zxx0_0 zxx0_1
  go_wp2
  go_ret
  exact ⟨rfl, HB.out⟩

end Go.Proofs.Ytajmeeppigdjnaa
