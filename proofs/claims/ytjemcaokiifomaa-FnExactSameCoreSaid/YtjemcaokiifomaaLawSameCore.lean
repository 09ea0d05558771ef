/- The law 'FnExactSameCore' walked: over whatever both functions answer alike; no condition. -/
import Derived.Test.YtjemcaokiifomaaFamCore
import Derived.Deep.RegionHeld3
namespace Go.Proofs.Ytjemcaokiifomaa
open Go.RowKit
set_option linter.unusedVariables false
set_option linter.unusedSimpArgs false

theorem infoSzCore : (Try.prog.info? 36).map (·.size) = some 7 := by kernel_rfl
set_option maxRecDepth 100000 in
set_option maxHeartbeats 1000000 in
theorem lawFnExactSameCore (x_aA : D) (x_aB : D) (r : Bool) (hn_aA : x_aA.n = 7)
    (SZ_aA : SzA Try.prog 11 x_aA)
    (TO_aA : x_aA.bulk ≤ 1048576 → ToA Try.prog 13 x_aA)
    (EQ_aA : EqA Try.prog 16 x_aA)
    (hn_aB : x_aB.n = 7)
    (SZ_aB : SzA Try.prog 11 x_aB)
    (TO_aB : x_aB.bulk ≤ 1048576 → ToA Try.prog 13 x_aB)
    (EQ_aB : EqA Try.prog 16 x_aB)
    (SP : x_aA.bulk + x_aB.bulk ≤ 1048576 → ∀ (w : World) (c_aA : List Value) (c_aB : List Value), Rd w x_aA c_aA → Rd w x_aB c_aB → Calls Try.prog 24 #[.agg c_aA.toArray, .agg c_aB.toArray] w fun e w' => e = .returned (.bool r) ∧ Below w.heap.size w w')
    (IM : x_aA.bulk + x_aB.bulk ≤ 1048576 → ∀ (w : World) (c_aA : List Value) (c_aB : List Value), Rd w x_aA c_aA → Rd w x_aB c_aB → Calls Try.prog 25 #[.agg c_aA.toArray, .agg c_aB.toArray] w fun e w' => e = .returned (.bool r) ∧ Below w.heap.size w w') (w : World) (c_aA : List Value) (c_aB : List Value) (rd_aA : Rd w x_aA c_aA) (rd_aB : Rd w x_aB c_aB) :
    Calls Try.prog 6 #[.agg c_aA.toArray, .agg c_aB.toArray] w fun e w' => e = .returned (.bool true) ∧ Below w.heap.size w w' := by
  obtain ⟨u_aA0, u_aA1, u_aA2, u_aA3, u_aA4, u_aA5, u_aA6, rfl⟩ := cells7 (rd_aA.len.trans hn_aA)
  obtain ⟨u_aB0, u_aB1, u_aB2, u_aB3, u_aB4, u_aB5, u_aB6, rfl⟩ := cells7 (rd_aB.len.trans hn_aB)
  have RI_aA := Lib.hid rd_aA
  have SZaA := Lib.hid SZ_aA
  have TOaA := Lib.hid TO_aA
  have EQaA := Lib.hid EQ_aA
  clear EQ_aA
  clear rd_aA SZ_aA TO_aA
  have RI_aB := Lib.hid rd_aB
  have SZaB := Lib.hid SZ_aB
  have TOaB := Lib.hid TO_aB
  have EQaB := Lib.hid EQ_aB
  clear EQ_aB
  clear rd_aB SZ_aB TO_aB
  have SPEC := Lib.hid SP
  have IMPL := Lib.hid IM
  clear SP IM
  have HB := Lib.hid (show Below w.heap.size w ((w.alloc (.cells #[u_aA0, u_aA1, u_aA2, u_aA3, u_aA4, u_aA5, u_aA6] 29)).alloc (.cells #[u_aB0, u_aB1, u_aB2, u_aB3, u_aB4, u_aB5, u_aB6] 29)) from (((Below.refl w.heap.size w).alloc (by simp) (.cells #[u_aA0, u_aA1, u_aA2, u_aA3, u_aA4, u_aA5, u_aA6] 29)).alloc (by simp) (.cells #[u_aB0, u_aB1, u_aB2, u_aB3, u_aB4, u_aB5, u_aB6] 29)))
  have BKaA := Lib.hid (blk_old (blk_new w (.cells #[u_aA0, u_aA1, u_aA2, u_aA3, u_aA4, u_aA5, u_aA6] 29)) (.cells #[u_aB0, u_aB1, u_aB2, u_aB3, u_aB4, u_aB5, u_aB6] 29))
  have BKaB := Lib.hid (blk_new (w.alloc (.cells #[u_aA0, u_aA1, u_aA2, u_aA3, u_aA4, u_aA5, u_aA6] 29)) (.cells #[u_aB0, u_aB1, u_aB2, u_aB3, u_aB4, u_aB5, u_aB6] 29))
  go_enter Try.func6, Try.ntmps6
  go_wp2_with fail
  refine (SZaA.out _ _ (1048576) (RI_aA.out.below HB.out) (by omega) (by omega)).mono ?_
  rintro e w1 ⟨rfl, hb⟩
  have BKaA := Lib.hid (blk_below BKaA.out hb)
  have BKaB := Lib.hid (blk_below BKaB.out hb)
  have HB := Lib.hid (HB.out.trans (hb.mono HB.out.size))
  clear hb
  have zaA_0 := blk_cell BKaA.out 0
  have zaA_1 := blk_cell BKaA.out 1
  have zaA_2 := blk_cell BKaA.out 2
  have zaA_3 := blk_cell BKaA.out 3
  have zaA_4 := blk_cell BKaA.out 4
  have zaA_5 := blk_cell BKaA.out 5
  have zaA_6 := blk_cell BKaA.out 6
  simp at zaA_0 zaA_1 zaA_2 zaA_3 zaA_4 zaA_5 zaA_6
  have zaB_0 := blk_cell BKaB.out 0
  have zaB_1 := blk_cell BKaB.out 1
  have zaB_2 := blk_cell BKaB.out 2
  have zaB_3 := blk_cell BKaB.out 3
  have zaB_4 := blk_cell BKaB.out 4
  have zaB_5 := blk_cell BKaB.out 5
  have zaB_6 := blk_cell BKaB.out 6
  simp at zaB_0 zaB_1 zaB_2 zaB_3 zaB_4 zaB_5 zaB_6
  by_cases hzaA : (1048576 : Int) < x_aA.bulk
  · rw [szR_neg' hzaA]
    go_wp2
    go_ret
    exact ⟨rfl, HB.out⟩
  rw [szR_fit (by omega)]
  go_wp2_with fail
  refine (SZaB.out _ _ (1048576 - (x_aA.bulk : Int)) (RI_aB.out.below HB.out) (by omega) (by omega)).mono ?_
  rintro e w2 ⟨rfl, hb⟩
  have BKaA := Lib.hid (blk_below BKaA.out hb)
  have BKaB := Lib.hid (blk_below BKaB.out hb)
  have HB := Lib.hid (HB.out.trans (hb.mono HB.out.size))
  clear hb
  clear zaA_0 zaA_1 zaA_2 zaA_3 zaA_4 zaA_5 zaA_6 zaB_0 zaB_1 zaB_2 zaB_3 zaB_4 zaB_5 zaB_6
  have zaA_0 := blk_cell BKaA.out 0
  have zaA_1 := blk_cell BKaA.out 1
  have zaA_2 := blk_cell BKaA.out 2
  have zaA_3 := blk_cell BKaA.out 3
  have zaA_4 := blk_cell BKaA.out 4
  have zaA_5 := blk_cell BKaA.out 5
  have zaA_6 := blk_cell BKaA.out 6
  simp at zaA_0 zaA_1 zaA_2 zaA_3 zaA_4 zaA_5 zaA_6
  have zaB_0 := blk_cell BKaB.out 0
  have zaB_1 := blk_cell BKaB.out 1
  have zaB_2 := blk_cell BKaB.out 2
  have zaB_3 := blk_cell BKaB.out 3
  have zaB_4 := blk_cell BKaB.out 4
  have zaB_5 := blk_cell BKaB.out 5
  have zaB_6 := blk_cell BKaB.out 6
  simp at zaB_0 zaB_1 zaB_2 zaB_3 zaB_4 zaB_5 zaB_6
  by_cases hzaB : (1048576 - (x_aA.bulk : Int) : Int) < x_aB.bulk
  · rw [szR_neg' hzaB]
    go_wp2
    go_ret
    exact ⟨rfl, HB.out⟩
  rw [szR_fit (by omega)]
  have TOaA := Lib.hid (TOaA.out (by omega))
  have TOaB := Lib.hid (TOaB.out (by omega))
  have SPEC := Lib.hid (SPEC.out (by omega))
  have IMPL := Lib.hid (IMPL.out (by omega))
  clear zaA_0 zaA_1 zaA_2 zaA_3 zaA_4 zaA_5 zaA_6 zaB_0 zaB_1 zaB_2 zaB_3 zaB_4 zaB_5 zaB_6
  have zaA_0 := blk_cell BKaA.out 0
  have zaA_1 := blk_cell BKaA.out 1
  have zaA_2 := blk_cell BKaA.out 2
  have zaA_3 := blk_cell BKaA.out 3
  have zaA_4 := blk_cell BKaA.out 4
  have zaA_5 := blk_cell BKaA.out 5
  have zaA_6 := blk_cell BKaA.out 6
  simp at zaA_0 zaA_1 zaA_2 zaA_3 zaA_4 zaA_5 zaA_6
  have zaB_0 := blk_cell BKaB.out 0
  have zaB_1 := blk_cell BKaB.out 1
  have zaB_2 := blk_cell BKaB.out 2
  have zaB_3 := blk_cell BKaB.out 3
  have zaB_4 := blk_cell BKaB.out 4
  have zaB_5 := blk_cell BKaB.out 5
  have zaB_6 := blk_cell BKaB.out 6
  simp at zaB_0 zaB_1 zaB_2 zaB_3 zaB_4 zaB_5 zaB_6
  go_wp2_with fail
  go_region_held3 (fun w' => w'.cell? ⟨w.heap.size, 0, none⟩ = some u_aA0 ∧ w'.cell? ⟨w.heap.size, 1, none⟩ = some u_aA1 ∧ w'.cell? ⟨w.heap.size, 2, none⟩ = some u_aA2 ∧ w'.cell? ⟨w.heap.size, 3, none⟩ = some u_aA3 ∧ w'.cell? ⟨w.heap.size, 4, none⟩ = some u_aA4 ∧ w'.cell? ⟨w.heap.size, 5, none⟩ = some u_aA5 ∧ w'.cell? ⟨w.heap.size, 6, none⟩ = some u_aA6 ∧ w'.cell? ⟨w.heap.size + 1, 0, none⟩ = some u_aB0 ∧ w'.cell? ⟨w.heap.size + 1, 1, none⟩ = some u_aB1 ∧ w'.cell? ⟨w.heap.size + 1, 2, none⟩ = some u_aB2 ∧ w'.cell? ⟨w.heap.size + 1, 3, none⟩ = some u_aB3 ∧ w'.cell? ⟨w.heap.size + 1, 4, none⟩ = some u_aB4 ∧ w'.cell? ⟨w.heap.size + 1, 5, none⟩ = some u_aB5 ∧ w'.cell? ⟨w.heap.size + 1, 6, none⟩ = some u_aB6)
    (first | exact ⟨zaA_0, zaA_1, zaA_2, zaA_3, zaA_4, zaA_5, zaA_6, zaB_0, zaB_1, zaB_2, zaB_3, zaB_4, zaB_5, zaB_6⟩ | exact ⟨by simpa using blk_cell BKaA.out 0, by simpa using blk_cell BKaA.out 1, by simpa using blk_cell BKaA.out 2, by simpa using blk_cell BKaA.out 3, by simpa using blk_cell BKaA.out 4, by simpa using blk_cell BKaA.out 5, by simpa using blk_cell BKaA.out 6, by simpa using blk_cell BKaB.out 0, by simpa using blk_cell BKaB.out 1, by simpa using blk_cell BKaB.out 2, by simpa using blk_cell BKaB.out 3, by simpa using blk_cell BKaB.out 4, by simpa using blk_cell BKaB.out 5, by simpa using blk_cell BKaB.out 6⟩)
    (first
      | (go_at_call 13; have HB := Lib.hid HB.out.drew; have BKaA := Lib.hid (blk_drew BKaA.out); have BKaB := Lib.hid (blk_drew BKaB.out); have CT := TOaA.out _ _ (RI_aA.out.below HB.out); (with_reducible refine CT.mono ?_); clear CT; rintro e w3 ⟨cst1, rfl, hfr, hb⟩; obtain ⟨t1_0, t1_1, t1_2, t1_3, t1_4, t1_5, t1_6, rfl⟩ := cells7 (hfr.len.trans hn_aA); have BKaA := Lib.hid (blk_below BKaA.out hb); have BKaB := Lib.hid (blk_below BKaB.out hb); have HB := Lib.hid (HB.out.trans (hb.mono HB.out.size)); have RDt1 := Lib.hid hfr; clear hb hfr)
      | (go_at_call 13; have CT := TOaB.out _ _ (RI_aB.out.below HB.out); (with_reducible refine CT.mono ?_); clear CT; rintro e w4 ⟨cst2, rfl, hfr, hb⟩; obtain ⟨t2_0, t2_1, t2_2, t2_3, t2_4, t2_5, t2_6, rfl⟩ := cells7 (hfr.len.trans hn_aB); have BKaA := Lib.hid (blk_below BKaA.out hb); have BKaB := Lib.hid (blk_below BKaB.out hb); have RDt1 := Lib.hid (RDt1.out.below hb); have HB := Lib.hid (HB.out.trans (hb.mono HB.out.size)); have RDt2 := Lib.hid hfr; clear hb hfr)
      | (go_at_call 24; have CT := SPEC.out _ _ _ RDt1.out.rd RDt2.out.rd; (with_reducible refine CT.mono ?_); clear CT; rintro e w5 ⟨rfl, hb⟩; have BKaA := Lib.hid (blk_below BKaA.out hb); have BKaB := Lib.hid (blk_below BKaB.out hb); have RDt1 := Lib.hid (RDt1.out.below hb); have RDt2 := Lib.hid (RDt2.out.below hb); have HB := Lib.hid (HB.out.trans (hb.mono HB.out.size)); clear hb))
  clear zaA_0 zaA_1 zaA_2 zaA_3 zaA_4 zaA_5 zaA_6 zaB_0 zaB_1 zaB_2 zaB_3 zaB_4 zaB_5 zaB_6
  have zaA_0 := blk_cell BKaA.out 0
  have zaA_1 := blk_cell BKaA.out 1
  have zaA_2 := blk_cell BKaA.out 2
  have zaA_3 := blk_cell BKaA.out 3
  have zaA_4 := blk_cell BKaA.out 4
  have zaA_5 := blk_cell BKaA.out 5
  have zaA_6 := blk_cell BKaA.out 6
  simp at zaA_0 zaA_1 zaA_2 zaA_3 zaA_4 zaA_5 zaA_6
  have zaB_0 := blk_cell BKaB.out 0
  have zaB_1 := blk_cell BKaB.out 1
  have zaB_2 := blk_cell BKaB.out 2
  have zaB_3 := blk_cell BKaB.out 3
  have zaB_4 := blk_cell BKaB.out 4
  have zaB_5 := blk_cell BKaB.out 5
  have zaB_6 := blk_cell BKaB.out 6
  simp at zaB_0 zaB_1 zaB_2 zaB_3 zaB_4 zaB_5 zaB_6
  go_wp2_with fail
  refine (TOaA.out _ _ (RI_aA.out.below HB.out)).mono ?_
  rintro e w6 ⟨csx0, rfl, hfr, hb⟩
  obtain ⟨x0_0, x0_1, x0_2, x0_3, x0_4, x0_5, x0_6, rfl⟩ := cells7 (hfr.len.trans hn_aA)
  have BKaA := Lib.hid (blk_below BKaA.out hb)
  have BKaB := Lib.hid (blk_below BKaB.out hb)
  have HB := Lib.hid (HB.out.trans (hb.mono HB.out.size))
  have RDx0 := Lib.hid hfr
  have ONEx0 := Lib.hid hfr.all
  clear hb hfr
  have BKaA := Lib.hid (blk_old BKaA.out (.cells #[x0_0, x0_1, x0_2, x0_3, x0_4, x0_5, x0_6] 36))
  have BKaB := Lib.hid (blk_old BKaB.out (.cells #[x0_0, x0_1, x0_2, x0_3, x0_4, x0_5, x0_6] 36))
  have hal := (Below.refl w6.heap.size w6).alloc (Nat.le_refl _) (.cells #[x0_0, x0_1, x0_2, x0_3, x0_4, x0_5, x0_6] 36)
  have RDx0 := Lib.hid (RDx0.out.below hal)
  have HB := Lib.hid (HB.out.trans (hal.mono HB.out.size))
  have BKxx0 := Lib.hid (blk_new w6 (.cells #[x0_0, x0_1, x0_2, x0_3, x0_4, x0_5, x0_6] 36))
  clear hal
  clear zaA_0 zaA_1 zaA_2 zaA_3 zaA_4 zaA_5 zaA_6 zaB_0 zaB_1 zaB_2 zaB_3 zaB_4 zaB_5 zaB_6
  have zaA_0 := blk_cell BKaA.out 0
  have zaA_1 := blk_cell BKaA.out 1
  have zaA_2 := blk_cell BKaA.out 2
  have zaA_3 := blk_cell BKaA.out 3
  have zaA_4 := blk_cell BKaA.out 4
  have zaA_5 := blk_cell BKaA.out 5
  have zaA_6 := blk_cell BKaA.out 6
  simp at zaA_0 zaA_1 zaA_2 zaA_3 zaA_4 zaA_5 zaA_6
  have zaB_0 := blk_cell BKaB.out 0
  have zaB_1 := blk_cell BKaB.out 1
  have zaB_2 := blk_cell BKaB.out 2
  have zaB_3 := blk_cell BKaB.out 3
  have zaB_4 := blk_cell BKaB.out 4
  have zaB_5 := blk_cell BKaB.out 5
  have zaB_6 := blk_cell BKaB.out 6
  simp at zaB_0 zaB_1 zaB_2 zaB_3 zaB_4 zaB_5 zaB_6
  have zxx0_0 := blk_cell BKxx0.out 0
  have zxx0_1 := blk_cell BKxx0.out 1
  have zxx0_2 := blk_cell BKxx0.out 2
  have zxx0_3 := blk_cell BKxx0.out 3
  have zxx0_4 := blk_cell BKxx0.out 4
  have zxx0_5 := blk_cell BKxx0.out 5
  have zxx0_6 := blk_cell BKxx0.out 6
  simp at zxx0_0 zxx0_1 zxx0_2 zxx0_3 zxx0_4 zxx0_5 zxx0_6
  go_wp2_with (refine wpl_store_new rfl 36 (.tmp 7) (.tmp 26) rfl _ #[x0_0, x0_1, x0_2, x0_3, x0_4, x0_5, x0_6] rfl rfl (infoSzCore) rfl ONEx0.out ?_)
  refine (TOaB.out _ _ (RI_aB.out.below HB.out)).mono ?_
  rintro e w7 ⟨csx1, rfl, hfr, hb⟩
  obtain ⟨x1_0, x1_1, x1_2, x1_3, x1_4, x1_5, x1_6, rfl⟩ := cells7 (hfr.len.trans hn_aB)
  have BKaA := Lib.hid (blk_below BKaA.out hb)
  have BKaB := Lib.hid (blk_below BKaB.out hb)
  have BKxx0 := Lib.hid (blk_below BKxx0.out hb)
  have RDx0 := Lib.hid (RDx0.out.below hb)
  have HB := Lib.hid (HB.out.trans (hb.mono HB.out.size))
  have RDx1 := Lib.hid hfr
  have ONEx1 := Lib.hid hfr.all
  clear hb hfr
  have BKaA := Lib.hid (blk_old BKaA.out (.cells #[x1_0, x1_1, x1_2, x1_3, x1_4, x1_5, x1_6] 36))
  have BKaB := Lib.hid (blk_old BKaB.out (.cells #[x1_0, x1_1, x1_2, x1_3, x1_4, x1_5, x1_6] 36))
  have BKxx0 := Lib.hid (blk_old BKxx0.out (.cells #[x1_0, x1_1, x1_2, x1_3, x1_4, x1_5, x1_6] 36))
  have hal := (Below.refl w7.heap.size w7).alloc (Nat.le_refl _) (.cells #[x1_0, x1_1, x1_2, x1_3, x1_4, x1_5, x1_6] 36)
  have RDx0 := Lib.hid (RDx0.out.below hal)
  have RDx1 := Lib.hid (RDx1.out.below hal)
  have HB := Lib.hid (HB.out.trans (hal.mono HB.out.size))
  have BKxx1 := Lib.hid (blk_new w7 (.cells #[x1_0, x1_1, x1_2, x1_3, x1_4, x1_5, x1_6] 36))
  clear hal
  clear zaA_0 zaA_1 zaA_2 zaA_3 zaA_4 zaA_5 zaA_6 zaB_0 zaB_1 zaB_2 zaB_3 zaB_4 zaB_5 zaB_6 zxx0_0 zxx0_1 zxx0_2 zxx0_3 zxx0_4 zxx0_5 zxx0_6
  have zaA_0 := blk_cell BKaA.out 0
  have zaA_1 := blk_cell BKaA.out 1
  have zaA_2 := blk_cell BKaA.out 2
  have zaA_3 := blk_cell BKaA.out 3
  have zaA_4 := blk_cell BKaA.out 4
  have zaA_5 := blk_cell BKaA.out 5
  have zaA_6 := blk_cell BKaA.out 6
  simp at zaA_0 zaA_1 zaA_2 zaA_3 zaA_4 zaA_5 zaA_6
  have zaB_0 := blk_cell BKaB.out 0
  have zaB_1 := blk_cell BKaB.out 1
  have zaB_2 := blk_cell BKaB.out 2
  have zaB_3 := blk_cell BKaB.out 3
  have zaB_4 := blk_cell BKaB.out 4
  have zaB_5 := blk_cell BKaB.out 5
  have zaB_6 := blk_cell BKaB.out 6
  simp at zaB_0 zaB_1 zaB_2 zaB_3 zaB_4 zaB_5 zaB_6
  have zxx0_0 := blk_cell BKxx0.out 0
  have zxx0_1 := blk_cell BKxx0.out 1
  have zxx0_2 := blk_cell BKxx0.out 2
  have zxx0_3 := blk_cell BKxx0.out 3
  have zxx0_4 := blk_cell BKxx0.out 4
  have zxx0_5 := blk_cell BKxx0.out 5
  have zxx0_6 := blk_cell BKxx0.out 6
  simp at zxx0_0 zxx0_1 zxx0_2 zxx0_3 zxx0_4 zxx0_5 zxx0_6
  have zxx1_0 := blk_cell BKxx1.out 0
  have zxx1_1 := blk_cell BKxx1.out 1
  have zxx1_2 := blk_cell BKxx1.out 2
  have zxx1_3 := blk_cell BKxx1.out 3
  have zxx1_4 := blk_cell BKxx1.out 4
  have zxx1_5 := blk_cell BKxx1.out 5
  have zxx1_6 := blk_cell BKxx1.out 6
  simp at zxx1_0 zxx1_1 zxx1_2 zxx1_3 zxx1_4 zxx1_5 zxx1_6
  clear zaA_0 zaA_1 zaA_2 zaA_3 zaA_4 zaA_5 zaA_6 zaB_0 zaB_1 zaB_2 zaB_3 zaB_4 zaB_5 zaB_6 zxx0_0 zxx0_1 zxx0_2 zxx0_3 zxx0_4 zxx0_5 zxx0_6 zxx1_0 zxx1_1 zxx1_2 zxx1_3 zxx1_4 zxx1_5 zxx1_6
  have zaA_0 := blk_cell BKaA.out 0
  have zaA_1 := blk_cell BKaA.out 1
  have zaA_2 := blk_cell BKaA.out 2
  have zaA_3 := blk_cell BKaA.out 3
  have zaA_4 := blk_cell BKaA.out 4
  have zaA_5 := blk_cell BKaA.out 5
  have zaA_6 := blk_cell BKaA.out 6
  simp at zaA_0 zaA_1 zaA_2 zaA_3 zaA_4 zaA_5 zaA_6
  have zaB_0 := blk_cell BKaB.out 0
  have zaB_1 := blk_cell BKaB.out 1
  have zaB_2 := blk_cell BKaB.out 2
  have zaB_3 := blk_cell BKaB.out 3
  have zaB_4 := blk_cell BKaB.out 4
  have zaB_5 := blk_cell BKaB.out 5
  have zaB_6 := blk_cell BKaB.out 6
  simp at zaB_0 zaB_1 zaB_2 zaB_3 zaB_4 zaB_5 zaB_6
  have zxx0_0 := blk_cell BKxx0.out 0
  have zxx0_1 := blk_cell BKxx0.out 1
  have zxx0_2 := blk_cell BKxx0.out 2
  have zxx0_3 := blk_cell BKxx0.out 3
  have zxx0_4 := blk_cell BKxx0.out 4
  have zxx0_5 := blk_cell BKxx0.out 5
  have zxx0_6 := blk_cell BKxx0.out 6
  simp at zxx0_0 zxx0_1 zxx0_2 zxx0_3 zxx0_4 zxx0_5 zxx0_6
  have zxx1_0 := blk_cell BKxx1.out 0
  have zxx1_1 := blk_cell BKxx1.out 1
  have zxx1_2 := blk_cell BKxx1.out 2
  have zxx1_3 := blk_cell BKxx1.out 3
  have zxx1_4 := blk_cell BKxx1.out 4
  have zxx1_5 := blk_cell BKxx1.out 5
  have zxx1_6 := blk_cell BKxx1.out 6
  simp at zxx1_0 zxx1_1 zxx1_2 zxx1_3 zxx1_4 zxx1_5 zxx1_6
  go_wp2_with (refine wpl_store_new rfl 36 (.tmp 8) (.tmp 28) rfl _ #[x1_0, x1_1, x1_2, x1_3, x1_4, x1_5, x1_6] rfl rfl (infoSzCore) rfl ONEx1.out ?_)
  refine (IMPL.out _ _ _ RDx0.out.rd RDx1.out.rd).mono ?_
  rintro e w8 ⟨rfl, hb⟩
  have BKaA := Lib.hid (blk_below BKaA.out hb)
  have BKaB := Lib.hid (blk_below BKaB.out hb)
  have BKxx0 := Lib.hid (blk_below BKxx0.out hb)
  have BKxx1 := Lib.hid (blk_below BKxx1.out hb)
  have RDx0 := Lib.hid (RDx0.out.below hb)
  have RDx1 := Lib.hid (RDx1.out.below hb)
  have HB := Lib.hid (HB.out.trans (hb.mono HB.out.size))
  clear hb
  clear zaA_0 zaA_1 zaA_2 zaA_3 zaA_4 zaA_5 zaA_6 zaB_0 zaB_1 zaB_2 zaB_3 zaB_4 zaB_5 zaB_6 zxx0_0 zxx0_1 zxx0_2 zxx0_3 zxx0_4 zxx0_5 zxx0_6 zxx1_0 zxx1_1 zxx1_2 zxx1_3 zxx1_4 zxx1_5 zxx1_6
  have zaA_0 := blk_cell BKaA.out 0
  have zaA_1 := blk_cell BKaA.out 1
  have zaA_2 := blk_cell BKaA.out 2
  have zaA_3 := blk_cell BKaA.out 3
  have zaA_4 := blk_cell BKaA.out 4
  have zaA_5 := blk_cell BKaA.out 5
  have zaA_6 := blk_cell BKaA.out 6
  simp at zaA_0 zaA_1 zaA_2 zaA_3 zaA_4 zaA_5 zaA_6
  have zaB_0 := blk_cell BKaB.out 0
  have zaB_1 := blk_cell BKaB.out 1
  have zaB_2 := blk_cell BKaB.out 2
  have zaB_3 := blk_cell BKaB.out 3
  have zaB_4 := blk_cell BKaB.out 4
  have zaB_5 := blk_cell BKaB.out 5
  have zaB_6 := blk_cell BKaB.out 6
  simp at zaB_0 zaB_1 zaB_2 zaB_3 zaB_4 zaB_5 zaB_6
  have zxx0_0 := blk_cell BKxx0.out 0
  have zxx0_1 := blk_cell BKxx0.out 1
  have zxx0_2 := blk_cell BKxx0.out 2
  have zxx0_3 := blk_cell BKxx0.out 3
  have zxx0_4 := blk_cell BKxx0.out 4
  have zxx0_5 := blk_cell BKxx0.out 5
  have zxx0_6 := blk_cell BKxx0.out 6
  simp at zxx0_0 zxx0_1 zxx0_2 zxx0_3 zxx0_4 zxx0_5 zxx0_6
  have zxx1_0 := blk_cell BKxx1.out 0
  have zxx1_1 := blk_cell BKxx1.out 1
  have zxx1_2 := blk_cell BKxx1.out 2
  have zxx1_3 := blk_cell BKxx1.out 3
  have zxx1_4 := blk_cell BKxx1.out 4
  have zxx1_5 := blk_cell BKxx1.out 5
  have zxx1_6 := blk_cell BKxx1.out 6
  simp at zxx1_0 zxx1_1 zxx1_2 zxx1_3 zxx1_4 zxx1_5 zxx1_6
  go_wp2_with fail
  go_region_held3 (fun w' => w'.cell? ⟨w6.heap.size, 0, none⟩ = some x0_0 ∧ w'.cell? ⟨w6.heap.size, 1, none⟩ = some x0_1 ∧ w'.cell? ⟨w6.heap.size, 2, none⟩ = some x0_2 ∧ w'.cell? ⟨w6.heap.size, 3, none⟩ = some x0_3 ∧ w'.cell? ⟨w6.heap.size, 4, none⟩ = some x0_4 ∧ w'.cell? ⟨w6.heap.size, 5, none⟩ = some x0_5 ∧ w'.cell? ⟨w6.heap.size, 6, none⟩ = some x0_6 ∧ w'.cell? ⟨w.heap.size, 0, none⟩ = some u_aA0 ∧ w'.cell? ⟨w.heap.size, 1, none⟩ = some u_aA1 ∧ w'.cell? ⟨w.heap.size, 2, none⟩ = some u_aA2 ∧ w'.cell? ⟨w.heap.size, 3, none⟩ = some u_aA3 ∧ w'.cell? ⟨w.heap.size, 4, none⟩ = some u_aA4 ∧ w'.cell? ⟨w.heap.size, 5, none⟩ = some u_aA5 ∧ w'.cell? ⟨w.heap.size, 6, none⟩ = some u_aA6)
    (first | exact ⟨zxx0_0, zxx0_1, zxx0_2, zxx0_3, zxx0_4, zxx0_5, zxx0_6, zaA_0, zaA_1, zaA_2, zaA_3, zaA_4, zaA_5, zaA_6⟩ | exact ⟨by simpa using blk_cell BKxx0.out 0, by simpa using blk_cell BKxx0.out 1, by simpa using blk_cell BKxx0.out 2, by simpa using blk_cell BKxx0.out 3, by simpa using blk_cell BKxx0.out 4, by simpa using blk_cell BKxx0.out 5, by simpa using blk_cell BKxx0.out 6, by simpa using blk_cell BKaA.out 0, by simpa using blk_cell BKaA.out 1, by simpa using blk_cell BKaA.out 2, by simpa using blk_cell BKaA.out 3, by simpa using blk_cell BKaA.out 4, by simpa using blk_cell BKaA.out 5, by simpa using blk_cell BKaA.out 6⟩)
    (first
      | (go_at_call 13; have HB := Lib.hid HB.out.drew; have BKaA := Lib.hid (blk_drew BKaA.out); have BKaB := Lib.hid (blk_drew BKaB.out); have BKxx0 := Lib.hid (blk_drew BKxx0.out); have BKxx1 := Lib.hid (blk_drew BKxx1.out); have RDx0 := Lib.hid (RDx0.out.below (Below.refl _ _).drew); have RDx1 := Lib.hid (RDx1.out.below (Below.refl _ _).drew); have CT := TOaA.out _ _ (RI_aA.out.below HB.out); (with_reducible refine CT.mono ?_); clear CT; rintro e w9 ⟨cst3, rfl, hfr, hb⟩; have BKaA := Lib.hid (blk_below BKaA.out hb); have BKaB := Lib.hid (blk_below BKaB.out hb); have BKxx0 := Lib.hid (blk_below BKxx0.out hb); have BKxx1 := Lib.hid (blk_below BKxx1.out hb); have RDx0 := Lib.hid (RDx0.out.below hb); have RDx1 := Lib.hid (RDx1.out.below hb); have HB := Lib.hid (HB.out.trans (hb.mono HB.out.size)); have RDt3 := Lib.hid hfr; clear hb hfr)
      | (go_at_call 16; have CT := EQaA.out _ _ _ RDx0.out.rd RDt3.out.rd; (with_reducible refine CT.mono ?_); clear CT; rintro e w10 ⟨rfl, hb⟩; have BKaA := Lib.hid (blk_below BKaA.out hb); have BKaB := Lib.hid (blk_below BKaB.out hb); have BKxx0 := Lib.hid (blk_below BKxx0.out hb); have BKxx1 := Lib.hid (blk_below BKxx1.out hb); have RDx0 := Lib.hid (RDx0.out.below hb); have RDx1 := Lib.hid (RDx1.out.below hb); have RDt3 := Lib.hid (RDt3.out.below hb); have HB := Lib.hid (HB.out.trans (hb.mono HB.out.size)); clear hb))
  clear zaA_0 zaA_1 zaA_2 zaA_3 zaA_4 zaA_5 zaA_6 zaB_0 zaB_1 zaB_2 zaB_3 zaB_4 zaB_5 zaB_6 zxx0_0 zxx0_1 zxx0_2 zxx0_3 zxx0_4 zxx0_5 zxx0_6 zxx1_0 zxx1_1 zxx1_2 zxx1_3 zxx1_4 zxx1_5 zxx1_6
  have zaA_0 := blk_cell BKaA.out 0
  have zaA_1 := blk_cell BKaA.out 1
  have zaA_2 := blk_cell BKaA.out 2
  have zaA_3 := blk_cell BKaA.out 3
  have zaA_4 := blk_cell BKaA.out 4
  have zaA_5 := blk_cell BKaA.out 5
  have zaA_6 := blk_cell BKaA.out 6
  simp at zaA_0 zaA_1 zaA_2 zaA_3 zaA_4 zaA_5 zaA_6
  have zaB_0 := blk_cell BKaB.out 0
  have zaB_1 := blk_cell BKaB.out 1
  have zaB_2 := blk_cell BKaB.out 2
  have zaB_3 := blk_cell BKaB.out 3
  have zaB_4 := blk_cell BKaB.out 4
  have zaB_5 := blk_cell BKaB.out 5
  have zaB_6 := blk_cell BKaB.out 6
  simp at zaB_0 zaB_1 zaB_2 zaB_3 zaB_4 zaB_5 zaB_6
  have zxx0_0 := blk_cell BKxx0.out 0
  have zxx0_1 := blk_cell BKxx0.out 1
  have zxx0_2 := blk_cell BKxx0.out 2
  have zxx0_3 := blk_cell BKxx0.out 3
  have zxx0_4 := blk_cell BKxx0.out 4
  have zxx0_5 := blk_cell BKxx0.out 5
  have zxx0_6 := blk_cell BKxx0.out 6
  simp at zxx0_0 zxx0_1 zxx0_2 zxx0_3 zxx0_4 zxx0_5 zxx0_6
  have zxx1_0 := blk_cell BKxx1.out 0
  have zxx1_1 := blk_cell BKxx1.out 1
  have zxx1_2 := blk_cell BKxx1.out 2
  have zxx1_3 := blk_cell BKxx1.out 3
  have zxx1_4 := blk_cell BKxx1.out 4
  have zxx1_5 := blk_cell BKxx1.out 5
  have zxx1_6 := blk_cell BKxx1.out 6
  simp at zxx1_0 zxx1_1 zxx1_2 zxx1_3 zxx1_4 zxx1_5 zxx1_6
  go_wp2_with fail
  go_region_held3 (fun w' => w'.cell? ⟨w7.heap.size, 0, none⟩ = some x1_0 ∧ w'.cell? ⟨w7.heap.size, 1, none⟩ = some x1_1 ∧ w'.cell? ⟨w7.heap.size, 2, none⟩ = some x1_2 ∧ w'.cell? ⟨w7.heap.size, 3, none⟩ = some x1_3 ∧ w'.cell? ⟨w7.heap.size, 4, none⟩ = some x1_4 ∧ w'.cell? ⟨w7.heap.size, 5, none⟩ = some x1_5 ∧ w'.cell? ⟨w7.heap.size, 6, none⟩ = some x1_6 ∧ w'.cell? ⟨w.heap.size + 1, 0, none⟩ = some u_aB0 ∧ w'.cell? ⟨w.heap.size + 1, 1, none⟩ = some u_aB1 ∧ w'.cell? ⟨w.heap.size + 1, 2, none⟩ = some u_aB2 ∧ w'.cell? ⟨w.heap.size + 1, 3, none⟩ = some u_aB3 ∧ w'.cell? ⟨w.heap.size + 1, 4, none⟩ = some u_aB4 ∧ w'.cell? ⟨w.heap.size + 1, 5, none⟩ = some u_aB5 ∧ w'.cell? ⟨w.heap.size + 1, 6, none⟩ = some u_aB6)
    (first | exact ⟨zxx1_0, zxx1_1, zxx1_2, zxx1_3, zxx1_4, zxx1_5, zxx1_6, zaB_0, zaB_1, zaB_2, zaB_3, zaB_4, zaB_5, zaB_6⟩ | exact ⟨by simpa using blk_cell BKxx1.out 0, by simpa using blk_cell BKxx1.out 1, by simpa using blk_cell BKxx1.out 2, by simpa using blk_cell BKxx1.out 3, by simpa using blk_cell BKxx1.out 4, by simpa using blk_cell BKxx1.out 5, by simpa using blk_cell BKxx1.out 6, by simpa using blk_cell BKaB.out 0, by simpa using blk_cell BKaB.out 1, by simpa using blk_cell BKaB.out 2, by simpa using blk_cell BKaB.out 3, by simpa using blk_cell BKaB.out 4, by simpa using blk_cell BKaB.out 5, by simpa using blk_cell BKaB.out 6⟩)
    (first
      | (go_at_call 13; have HB := Lib.hid HB.out.drew; have BKaA := Lib.hid (blk_drew BKaA.out); have BKaB := Lib.hid (blk_drew BKaB.out); have BKxx0 := Lib.hid (blk_drew BKxx0.out); have BKxx1 := Lib.hid (blk_drew BKxx1.out); have RDx0 := Lib.hid (RDx0.out.below (Below.refl _ _).drew); have RDx1 := Lib.hid (RDx1.out.below (Below.refl _ _).drew); have CT := TOaB.out _ _ (RI_aB.out.below HB.out); (with_reducible refine CT.mono ?_); clear CT; rintro e w11 ⟨cst4, rfl, hfr, hb⟩; have BKaA := Lib.hid (blk_below BKaA.out hb); have BKaB := Lib.hid (blk_below BKaB.out hb); have BKxx0 := Lib.hid (blk_below BKxx0.out hb); have BKxx1 := Lib.hid (blk_below BKxx1.out hb); have RDx0 := Lib.hid (RDx0.out.below hb); have RDx1 := Lib.hid (RDx1.out.below hb); have HB := Lib.hid (HB.out.trans (hb.mono HB.out.size)); have RDt4 := Lib.hid hfr; clear hb hfr)
      | (go_at_call 16; have CT := EQaB.out _ _ _ RDx1.out.rd RDt4.out.rd; (with_reducible refine CT.mono ?_); clear CT; rintro e w12 ⟨rfl, hb⟩; have BKaA := Lib.hid (blk_below BKaA.out hb); have BKaB := Lib.hid (blk_below BKaB.out hb); have BKxx0 := Lib.hid (blk_below BKxx0.out hb); have BKxx1 := Lib.hid (blk_below BKxx1.out hb); have RDx0 := Lib.hid (RDx0.out.below hb); have RDx1 := Lib.hid (RDx1.out.below hb); have RDt4 := Lib.hid (RDt4.out.below hb); have HB := Lib.hid (HB.out.trans (hb.mono HB.out.size)); clear hb))
  clear zaA_0 zaA_1 zaA_2 zaA_3 zaA_4 zaA_5 zaA_6 zaB_0 zaB_1 zaB_2 zaB_3 zaB_4 zaB_5 zaB_6 zxx0_0 zxx0_1 zxx0_2 zxx0_3 zxx0_4 zxx0_5 zxx0_6 zxx1_0 zxx1_1 zxx1_2 zxx1_3 zxx1_4 zxx1_5 zxx1_6
  have zaA_0 := blk_cell BKaA.out 0
  have zaA_1 := blk_cell BKaA.out 1
  have zaA_2 := blk_cell BKaA.out 2
  have zaA_3 := blk_cell BKaA.out 3
  have zaA_4 := blk_cell BKaA.out 4
  have zaA_5 := blk_cell BKaA.out 5
  have zaA_6 := blk_cell BKaA.out 6
  simp at zaA_0 zaA_1 zaA_2 zaA_3 zaA_4 zaA_5 zaA_6
  have zaB_0 := blk_cell BKaB.out 0
  have zaB_1 := blk_cell BKaB.out 1
  have zaB_2 := blk_cell BKaB.out 2
  have zaB_3 := blk_cell BKaB.out 3
  have zaB_4 := blk_cell BKaB.out 4
  have zaB_5 := blk_cell BKaB.out 5
  have zaB_6 := blk_cell BKaB.out 6
  simp at zaB_0 zaB_1 zaB_2 zaB_3 zaB_4 zaB_5 zaB_6
  have zxx0_0 := blk_cell BKxx0.out 0
  have zxx0_1 := blk_cell BKxx0.out 1
  have zxx0_2 := blk_cell BKxx0.out 2
  have zxx0_3 := blk_cell BKxx0.out 3
  have zxx0_4 := blk_cell BKxx0.out 4
  have zxx0_5 := blk_cell BKxx0.out 5
  have zxx0_6 := blk_cell BKxx0.out 6
  simp at zxx0_0 zxx0_1 zxx0_2 zxx0_3 zxx0_4 zxx0_5 zxx0_6
  have zxx1_0 := blk_cell BKxx1.out 0
  have zxx1_1 := blk_cell BKxx1.out 1
  have zxx1_2 := blk_cell BKxx1.out 2
  have zxx1_3 := blk_cell BKxx1.out 3
  have zxx1_4 := blk_cell BKxx1.out 4
  have zxx1_5 := blk_cell BKxx1.out 5
  have zxx1_6 := blk_cell BKxx1.out 6
  simp at zxx1_0 zxx1_1 zxx1_2 zxx1_3 zxx1_4 zxx1_5 zxx1_6
  go_wp2
  go_ret
  exact ⟨rfl, HB.out⟩

end Go.Proofs.Ytjemcaokiifomaa
