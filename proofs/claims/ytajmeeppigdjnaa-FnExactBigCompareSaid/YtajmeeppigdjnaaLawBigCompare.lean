/- The law 'FnExactBigCompare' walked: over whatever both functions answer alike; no condition. -/
import Derived.Test.YtajmeeppigdjnaaFamBig
import Derived.Deep.RegionHeld3
namespace Go.Proofs.Ytajmeeppigdjnaa
open Go.RowKit
set_option linter.unusedVariables false
set_option linter.unusedSimpArgs false

theorem infoSzBig : (Try.prog.info? 24).map (·.size) = some 2 := by kernel_rfl
set_option maxRecDepth 100000 in
set_option maxHeartbeats 1000000 in
theorem lawFnExactBigCompare (x_aA : D) (x_aB : D) (r : Int) (hn_aA : x_aA.n = 2)
    (SZ_aA : SzA Try.prog 20 x_aA)
    (TO_aA : x_aA.bulk ≤ 1048576 → ToA Try.prog 22 x_aA)
    (EQ_aA : EqA Try.prog 17 x_aA)
    (hn_aB : x_aB.n = 2)
    (SZ_aB : SzA Try.prog 20 x_aB)
    (TO_aB : x_aB.bulk ≤ 1048576 → ToA Try.prog 22 x_aB)
    (EQ_aB : EqA Try.prog 17 x_aB)
    (SP : x_aA.bulk + x_aB.bulk ≤ 1048576 → ∀ (w : World) (c_aA : List Value) (c_aB : List Value), Rd w x_aA c_aA → Rd w x_aB c_aB → Calls Try.prog 25 #[.agg c_aA.toArray, .agg c_aB.toArray] w fun e w' => e = .returned (.int .i64 r) ∧ Below w.heap.size w w')
    (IM : x_aA.bulk + x_aB.bulk ≤ 1048576 → ∀ (w : World) (c_aA : List Value) (c_aB : List Value), Rd w x_aA c_aA → Rd w x_aB c_aB → Calls Try.prog 26 #[.agg c_aA.toArray, .agg c_aB.toArray] w fun e w' => e = .returned (.int .i64 r) ∧ Below w.heap.size w w') (w : World) (c_aA : List Value) (c_aB : List Value) (rd_aA : Rd w x_aA c_aA) (rd_aB : Rd w x_aB c_aB) :
    Calls Try.prog 5 #[.agg c_aA.toArray, .agg c_aB.toArray] w fun e w' => e = .returned (.bool true) ∧ Below w.heap.size w w' := by
  obtain ⟨u_aA0, u_aA1, rfl⟩ := cells2 (rd_aA.len.trans hn_aA)
  obtain ⟨u_aB0, u_aB1, rfl⟩ := cells2 (rd_aB.len.trans hn_aB)
  have RI_aA := Lib.hid rd_aA
  have SZaA := Lib.hid SZ_aA
  have TOaA := Lib.hid TO_aA
  have EQaA := Lib.hid EQ_aA
  clear EQ_aA
  clear rd_aA SZ_aA TO_aA
  have RI_aB := Lib.hid rd_aB
  have SZaB := Lib.hid SZ_aB
  have TOaB := Lib.hid TO_aB
  have EQaB := Lib.hid EQ_aB
  clear EQ_aB
  clear rd_aB SZ_aB TO_aB
  have SPEC := Lib.hid SP
  have IMPL := Lib.hid IM
  clear SP IM
  have HB := Lib.hid (show Below w.heap.size w ((w.alloc (.cells #[u_aA0, u_aA1] 29)).alloc (.cells #[u_aB0, u_aB1] 29)) from (((Below.refl w.heap.size w).alloc (by simp) (.cells #[u_aA0, u_aA1] 29)).alloc (by simp) (.cells #[u_aB0, u_aB1] 29)))
  have BKaA := Lib.hid (blk_old (blk_new w (.cells #[u_aA0, u_aA1] 29)) (.cells #[u_aB0, u_aB1] 29))
  have BKaB := Lib.hid (blk_new (w.alloc (.cells #[u_aA0, u_aA1] 29)) (.cells #[u_aB0, u_aB1] 29))
  go_enter Try.func5, Try.ntmps5
  go_wp2_with fail
  refine (SZaA.out _ _ (1048576) (RI_aA.out.below HB.out) (by omega) (by omega)).mono ?_
  rintro e w1 ⟨rfl, hb⟩
  have BKaA := Lib.hid (blk_below BKaA.out hb)
  have BKaB := Lib.hid (blk_below BKaB.out hb)
  have HB := Lib.hid (HB.out.trans (hb.mono HB.out.size))
  clear hb
  have zaA_0 := blk_cell BKaA.out 0
  have zaA_1 := blk_cell BKaA.out 1
  simp at zaA_0 zaA_1
  have zaB_0 := blk_cell BKaB.out 0
  have zaB_1 := blk_cell BKaB.out 1
  simp at zaB_0 zaB_1
  by_cases hzaA : (1048576 : Int) < x_aA.bulk
  · rw [szR_neg' hzaA]
    go_wp2
    go_ret
    exact ⟨rfl, HB.out⟩
  rw [szR_fit (by omega)]
  go_wp2_with fail
  refine (SZaB.out _ _ (1048576 - (x_aA.bulk : Int)) (RI_aB.out.below HB.out) (by omega) (by omega)).mono ?_
  rintro e w2 ⟨rfl, hb⟩
  have BKaA := Lib.hid (blk_below BKaA.out hb)
  have BKaB := Lib.hid (blk_below BKaB.out hb)
  have HB := Lib.hid (HB.out.trans (hb.mono HB.out.size))
  clear hb
  clear zaA_0 zaA_1 zaB_0 zaB_1
  have zaA_0 := blk_cell BKaA.out 0
  have zaA_1 := blk_cell BKaA.out 1
  simp at zaA_0 zaA_1
  have zaB_0 := blk_cell BKaB.out 0
  have zaB_1 := blk_cell BKaB.out 1
  simp at zaB_0 zaB_1
  by_cases hzaB : (1048576 - (x_aA.bulk : Int) : Int) < x_aB.bulk
  · rw [szR_neg' hzaB]
    go_wp2
    go_ret
    exact ⟨rfl, HB.out⟩
  rw [szR_fit (by omega)]
  have TOaA := Lib.hid (TOaA.out (by omega))
  have TOaB := Lib.hid (TOaB.out (by omega))
  have SPEC := Lib.hid (SPEC.out (by omega))
  have IMPL := Lib.hid (IMPL.out (by omega))
  clear zaA_0 zaA_1 zaB_0 zaB_1
  have zaA_0 := blk_cell BKaA.out 0
  have zaA_1 := blk_cell BKaA.out 1
  simp at zaA_0 zaA_1
  have zaB_0 := blk_cell BKaB.out 0
  have zaB_1 := blk_cell BKaB.out 1
  simp at zaB_0 zaB_1
  go_wp2_with fail
  go_region_held3 (fun w' => w'.cell? ⟨w.heap.size, 0, none⟩ = some u_aA0 ∧ w'.cell? ⟨w.heap.size, 1, none⟩ = some u_aA1 ∧ w'.cell? ⟨w.heap.size + 1, 0, none⟩ = some u_aB0 ∧ w'.cell? ⟨w.heap.size + 1, 1, none⟩ = some u_aB1)
    (first | exact ⟨zaA_0, zaA_1, zaB_0, zaB_1⟩ | exact ⟨by simpa using blk_cell BKaA.out 0, by simpa using blk_cell BKaA.out 1, by simpa using blk_cell BKaB.out 0, by simpa using blk_cell BKaB.out 1⟩)
    (first
      | (go_at_call 22; have HB := Lib.hid HB.out.drew; have BKaA := Lib.hid (blk_drew BKaA.out); have BKaB := Lib.hid (blk_drew BKaB.out); have CT := TOaA.out _ _ (RI_aA.out.below HB.out); (with_reducible refine CT.mono ?_); clear CT; rintro e w3 ⟨cst1, rfl, hfr, hb⟩; obtain ⟨t1_0, t1_1, rfl⟩ := cells2 (hfr.len.trans hn_aA); have BKaA := Lib.hid (blk_below BKaA.out hb); have BKaB := Lib.hid (blk_below BKaB.out hb); have HB := Lib.hid (HB.out.trans (hb.mono HB.out.size)); have RDt1 := Lib.hid hfr; clear hb hfr)
      | (go_at_call 22; have CT := TOaB.out _ _ (RI_aB.out.below HB.out); (with_reducible refine CT.mono ?_); clear CT; rintro e w4 ⟨cst2, rfl, hfr, hb⟩; obtain ⟨t2_0, t2_1, rfl⟩ := cells2 (hfr.len.trans hn_aB); have BKaA := Lib.hid (blk_below BKaA.out hb); have BKaB := Lib.hid (blk_below BKaB.out hb); have RDt1 := Lib.hid (RDt1.out.below hb); have HB := Lib.hid (HB.out.trans (hb.mono HB.out.size)); have RDt2 := Lib.hid hfr; clear hb hfr)
      | (go_at_call 25; have CT := SPEC.out _ _ _ RDt1.out.rd RDt2.out.rd; (with_reducible refine CT.mono ?_); clear CT; rintro e w5 ⟨rfl, hb⟩; have BKaA := Lib.hid (blk_below BKaA.out hb); have BKaB := Lib.hid (blk_below BKaB.out hb); have RDt1 := Lib.hid (RDt1.out.below hb); have RDt2 := Lib.hid (RDt2.out.below hb); have HB := Lib.hid (HB.out.trans (hb.mono HB.out.size)); clear hb))
  clear zaA_0 zaA_1 zaB_0 zaB_1
  have zaA_0 := blk_cell BKaA.out 0
  have zaA_1 := blk_cell BKaA.out 1
  simp at zaA_0 zaA_1
  have zaB_0 := blk_cell BKaB.out 0
  have zaB_1 := blk_cell BKaB.out 1
  simp at zaB_0 zaB_1
  go_wp2_with fail
  refine (TOaA.out _ _ (RI_aA.out.below HB.out)).mono ?_
  rintro e w6 ⟨csx0, rfl, hfr, hb⟩
  obtain ⟨x0_0, x0_1, rfl⟩ := cells2 (hfr.len.trans hn_aA)
  have BKaA := Lib.hid (blk_below BKaA.out hb)
  have BKaB := Lib.hid (blk_below BKaB.out hb)
  have HB := Lib.hid (HB.out.trans (hb.mono HB.out.size))
  have RDx0 := Lib.hid hfr
  have ONEx0 := Lib.hid hfr.all
  clear hb hfr
  have BKaA := Lib.hid (blk_old BKaA.out (.cells #[x0_0, x0_1] 24))
  have BKaB := Lib.hid (blk_old BKaB.out (.cells #[x0_0, x0_1] 24))
  have hal := (Below.refl w6.heap.size w6).alloc (Nat.le_refl _) (.cells #[x0_0, x0_1] 24)
  have RDx0 := Lib.hid (RDx0.out.below hal)
  have HB := Lib.hid (HB.out.trans (hal.mono HB.out.size))
  have BKxx0 := Lib.hid (blk_new w6 (.cells #[x0_0, x0_1] 24))
  clear hal
  clear zaA_0 zaA_1 zaB_0 zaB_1
  have zaA_0 := blk_cell BKaA.out 0
  have zaA_1 := blk_cell BKaA.out 1
  simp at zaA_0 zaA_1
  have zaB_0 := blk_cell BKaB.out 0
  have zaB_1 := blk_cell BKaB.out 1
  simp at zaB_0 zaB_1
  have zxx0_0 := blk_cell BKxx0.out 0
  have zxx0_1 := blk_cell BKxx0.out 1
  simp at zxx0_0 zxx0_1
  go_wp2_with (refine wpl_store_new rfl 24 (.tmp 7) (.tmp 26) rfl _ #[x0_0, x0_1] rfl rfl (infoSzBig) rfl ONEx0.out ?_)
  refine (TOaB.out _ _ (RI_aB.out.below HB.out)).mono ?_
  rintro e w7 ⟨csx1, rfl, hfr, hb⟩
  obtain ⟨x1_0, x1_1, rfl⟩ := cells2 (hfr.len.trans hn_aB)
  have BKaA := Lib.hid (blk_below BKaA.out hb)
  have BKaB := Lib.hid (blk_below BKaB.out hb)
  have BKxx0 := Lib.hid (blk_below BKxx0.out hb)
  have RDx0 := Lib.hid (RDx0.out.below hb)
  have HB := Lib.hid (HB.out.trans (hb.mono HB.out.size))
  have RDx1 := Lib.hid hfr
  have ONEx1 := Lib.hid hfr.all
  clear hb hfr
  have BKaA := Lib.hid (blk_old BKaA.out (.cells #[x1_0, x1_1] 24))
  have BKaB := Lib.hid (blk_old BKaB.out (.cells #[x1_0, x1_1] 24))
  have BKxx0 := Lib.hid (blk_old BKxx0.out (.cells #[x1_0, x1_1] 24))
  have hal := (Below.refl w7.heap.size w7).alloc (Nat.le_refl _) (.cells #[x1_0, x1_1] 24)
  have RDx0 := Lib.hid (RDx0.out.below hal)
  have RDx1 := Lib.hid (RDx1.out.below hal)
  have HB := Lib.hid (HB.out.trans (hal.mono HB.out.size))
  have BKxx1 := Lib.hid (blk_new w7 (.cells #[x1_0, x1_1] 24))
  clear hal
  clear zaA_0 zaA_1 zaB_0 zaB_1 zxx0_0 zxx0_1
  have zaA_0 := blk_cell BKaA.out 0
  have zaA_1 := blk_cell BKaA.out 1
  simp at zaA_0 zaA_1
  have zaB_0 := blk_cell BKaB.out 0
  have zaB_1 := blk_cell BKaB.out 1
  simp at zaB_0 zaB_1
  have zxx0_0 := blk_cell BKxx0.out 0
  have zxx0_1 := blk_cell BKxx0.out 1
  simp at zxx0_0 zxx0_1
  have zxx1_0 := blk_cell BKxx1.out 0
  have zxx1_1 := blk_cell BKxx1.out 1
  simp at zxx1_0 zxx1_1
  clear zaA_0 zaA_1 zaB_0 zaB_1 zxx0_0 zxx0_1 zxx1_0 zxx1_1
  have zaA_0 := blk_cell BKaA.out 0
  have zaA_1 := blk_cell BKaA.out 1
  simp at zaA_0 zaA_1
  have zaB_0 := blk_cell BKaB.out 0
  have zaB_1 := blk_cell BKaB.out 1
  simp at zaB_0 zaB_1
  have zxx0_0 := blk_cell BKxx0.out 0
  have zxx0_1 := blk_cell BKxx0.out 1
  simp at zxx0_0 zxx0_1
  have zxx1_0 := blk_cell BKxx1.out 0
  have zxx1_1 := blk_cell BKxx1.out 1
  simp at zxx1_0 zxx1_1
  go_wp2_with (refine wpl_store_new rfl 24 (.tmp 8) (.tmp 28) rfl _ #[x1_0, x1_1] rfl rfl (infoSzBig) rfl ONEx1.out ?_)
  refine (IMPL.out _ _ _ RDx0.out.rd RDx1.out.rd).mono ?_
  rintro e w8 ⟨rfl, hb⟩
  have BKaA := Lib.hid (blk_below BKaA.out hb)
  have BKaB := Lib.hid (blk_below BKaB.out hb)
  have BKxx0 := Lib.hid (blk_below BKxx0.out hb)
  have BKxx1 := Lib.hid (blk_below BKxx1.out hb)
  have RDx0 := Lib.hid (RDx0.out.below hb)
  have RDx1 := Lib.hid (RDx1.out.below hb)
  have HB := Lib.hid (HB.out.trans (hb.mono HB.out.size))
  clear hb
  clear zaA_0 zaA_1 zaB_0 zaB_1 zxx0_0 zxx0_1 zxx1_0 zxx1_1
  have zaA_0 := blk_cell BKaA.out 0
  have zaA_1 := blk_cell BKaA.out 1
  simp at zaA_0 zaA_1
  have zaB_0 := blk_cell BKaB.out 0
  have zaB_1 := blk_cell BKaB.out 1
  simp at zaB_0 zaB_1
  have zxx0_0 := blk_cell BKxx0.out 0
  have zxx0_1 := blk_cell BKxx0.out 1
  simp at zxx0_0 zxx0_1
  have zxx1_0 := blk_cell BKxx1.out 0
  have zxx1_1 := blk_cell BKxx1.out 1
  simp at zxx1_0 zxx1_1
  go_wp2_with fail
  go_region_held3 (fun w' => w'.cell? ⟨w6.heap.size, 0, none⟩ = some x0_0 ∧ w'.cell? ⟨w6.heap.size, 1, none⟩ = some x0_1 ∧ w'.cell? ⟨w.heap.size, 0, none⟩ = some u_aA0 ∧ w'.cell? ⟨w.heap.size, 1, none⟩ = some u_aA1)
    (first | exact ⟨zxx0_0, zxx0_1, zaA_0, zaA_1⟩ | exact ⟨by simpa using blk_cell BKxx0.out 0, by simpa using blk_cell BKxx0.out 1, by simpa using blk_cell BKaA.out 0, by simpa using blk_cell BKaA.out 1⟩)
    (first
      | (go_at_call 22; have HB := Lib.hid HB.out.drew; have BKaA := Lib.hid (blk_drew BKaA.out); have BKaB := Lib.hid (blk_drew BKaB.out); have BKxx0 := Lib.hid (blk_drew BKxx0.out); have BKxx1 := Lib.hid (blk_drew BKxx1.out); have RDx0 := Lib.hid (RDx0.out.below (Below.refl _ _).drew); have RDx1 := Lib.hid (RDx1.out.below (Below.refl _ _).drew); have CT := TOaA.out _ _ (RI_aA.out.below HB.out); (with_reducible refine CT.mono ?_); clear CT; rintro e w9 ⟨cst3, rfl, hfr, hb⟩; have BKaA := Lib.hid (blk_below BKaA.out hb); have BKaB := Lib.hid (blk_below BKaB.out hb); have BKxx0 := Lib.hid (blk_below BKxx0.out hb); have BKxx1 := Lib.hid (blk_below BKxx1.out hb); have RDx0 := Lib.hid (RDx0.out.below hb); have RDx1 := Lib.hid (RDx1.out.below hb); have HB := Lib.hid (HB.out.trans (hb.mono HB.out.size)); have RDt3 := Lib.hid hfr; clear hb hfr)
      | (go_at_call 17; have CT := EQaA.out _ _ _ RDx0.out.rd RDt3.out.rd; (with_reducible refine CT.mono ?_); clear CT; rintro e w10 ⟨rfl, hb⟩; have BKaA := Lib.hid (blk_below BKaA.out hb); have BKaB := Lib.hid (blk_below BKaB.out hb); have BKxx0 := Lib.hid (blk_below BKxx0.out hb); have BKxx1 := Lib.hid (blk_below BKxx1.out hb); have RDx0 := Lib.hid (RDx0.out.below hb); have RDx1 := Lib.hid (RDx1.out.below hb); have RDt3 := Lib.hid (RDt3.out.below hb); have HB := Lib.hid (HB.out.trans (hb.mono HB.out.size)); clear hb))
  clear zaA_0 zaA_1 zaB_0 zaB_1 zxx0_0 zxx0_1 zxx1_0 zxx1_1
  have zaA_0 := blk_cell BKaA.out 0
  have zaA_1 := blk_cell BKaA.out 1
  simp at zaA_0 zaA_1
  have zaB_0 := blk_cell BKaB.out 0
  have zaB_1 := blk_cell BKaB.out 1
  simp at zaB_0 zaB_1
  have zxx0_0 := blk_cell BKxx0.out 0
  have zxx0_1 := blk_cell BKxx0.out 1
  simp at zxx0_0 zxx0_1
  have zxx1_0 := blk_cell BKxx1.out 0
  have zxx1_1 := blk_cell BKxx1.out 1
  simp at zxx1_0 zxx1_1
  go_wp2_with fail
  go_region_held3 (fun w' => w'.cell? ⟨w7.heap.size, 0, none⟩ = some x1_0 ∧ w'.cell? ⟨w7.heap.size, 1, none⟩ = some x1_1 ∧ w'.cell? ⟨w.heap.size + 1, 0, none⟩ = some u_aB0 ∧ w'.cell? ⟨w.heap.size + 1, 1, none⟩ = some u_aB1)
    (first | exact ⟨zxx1_0, zxx1_1, zaB_0, zaB_1⟩ | exact ⟨by simpa using blk_cell BKxx1.out 0, by simpa using blk_cell BKxx1.out 1, by simpa using blk_cell BKaB.out 0, by simpa using blk_cell BKaB.out 1⟩)
    (first
      | (go_at_call 22; have HB := Lib.hid HB.out.drew; have BKaA := Lib.hid (blk_drew BKaA.out); have BKaB := Lib.hid (blk_drew BKaB.out); have BKxx0 := Lib.hid (blk_drew BKxx0.out); have BKxx1 := Lib.hid (blk_drew BKxx1.out); have RDx0 := Lib.hid (RDx0.out.below (Below.refl _ _).drew); have RDx1 := Lib.hid (RDx1.out.below (Below.refl _ _).drew); have CT := TOaB.out _ _ (RI_aB.out.below HB.out); (with_reducible refine CT.mono ?_); clear CT; rintro e w11 ⟨cst4, rfl, hfr, hb⟩; have BKaA := Lib.hid (blk_below BKaA.out hb); have BKaB := Lib.hid (blk_below BKaB.out hb); have BKxx0 := Lib.hid (blk_below BKxx0.out hb); have BKxx1 := Lib.hid (blk_below BKxx1.out hb); have RDx0 := Lib.hid (RDx0.out.below hb); have RDx1 := Lib.hid (RDx1.out.below hb); have HB := Lib.hid (HB.out.trans (hb.mono HB.out.size)); have RDt4 := Lib.hid hfr; clear hb hfr)
      | (go_at_call 17; have CT := EQaB.out _ _ _ RDx1.out.rd RDt4.out.rd; (with_reducible refine CT.mono ?_); clear CT; rintro e w12 ⟨rfl, hb⟩; have BKaA := Lib.hid (blk_below BKaA.out hb); have BKaB := Lib.hid (blk_below BKaB.out hb); have BKxx0 := Lib.hid (blk_below BKxx0.out hb); have BKxx1 := Lib.hid (blk_below BKxx1.out hb); have RDx0 := Lib.hid (RDx0.out.below hb); have RDx1 := Lib.hid (RDx1.out.below hb); have RDt4 := Lib.hid (RDt4.out.below hb); have HB := Lib.hid (HB.out.trans (hb.mono HB.out.size)); clear hb))
  clear zaA_0 zaA_1 zaB_0 zaB_1 zxx0_0 zxx0_1 zxx1_0 zxx1_1
  have zaA_0 := blk_cell BKaA.out 0
  have zaA_1 := blk_cell BKaA.out 1
  simp at zaA_0 zaA_1
  have zaB_0 := blk_cell BKaB.out 0
  have zaB_1 := blk_cell BKaB.out 1
  simp at zaB_0 zaB_1
  have zxx0_0 := blk_cell BKxx0.out 0
  have zxx0_1 := blk_cell BKxx0.out 1
  simp at zxx0_0 zxx0_1
  have zxx1_0 := blk_cell BKxx1.out 0
  have zxx1_1 := blk_cell BKxx1.out 1
  simp at zxx1_0 zxx1_1
  go_wp2
  go_ret
  exact ⟨rfl, HB.out⟩

end Go.Proofs.Ytajmeeppigdjnaa
