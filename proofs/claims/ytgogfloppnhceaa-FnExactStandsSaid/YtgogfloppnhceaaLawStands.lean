/- The law 'FnExactStands' walked: over whatever both functions answer alike; no condition. -/
import Derived.Test.YtgogfloppnhceaaFamOut
import Derived.Deep.RegionHeld3
namespace Go.Proofs.Ytgogfloppnhceaa
open Go.RowKit
set_option linter.unusedVariables false
set_option linter.unusedSimpArgs false

theorem infoSzOutcome : (Try.prog.info? 29).map (·.size) = some 4 := by kernel_rfl
set_option maxRecDepth 100000 in
set_option maxHeartbeats 1000000 in
theorem lawFnExactStands (x_aA : D) (x_aB : D) (r : Bool) (hn_aA : x_aA.n = 4)
    (SZ_aA : SzA Try.prog 16 x_aA)
    (TO_aA : x_aA.bulk ≤ 1048576 → ToA Try.prog 18 x_aA)
    (hn_aB : x_aB.n = 4)
    (SZ_aB : SzA Try.prog 16 x_aB)
    (TO_aB : x_aB.bulk ≤ 1048576 → ToA Try.prog 18 x_aB)
    (SP : x_aA.bulk + x_aB.bulk ≤ 1048576 → ∀ (w : World) (c_aA : List Value) (c_aB : List Value), Rd w x_aA c_aA → Rd w x_aB c_aB → Calls Try.prog 17 #[.agg c_aA.toArray, .agg c_aB.toArray] w fun e w' => e = .returned (.bool r) ∧ Below w.heap.size w w')
    (IM : x_aA.bulk + x_aB.bulk ≤ 1048576 → ∀ (w : World) (c_aA : List Value) (c_aB : List Value), Rd w x_aA c_aA → Rd w x_aB c_aB → Calls Try.prog 19 #[.agg c_aA.toArray, .agg c_aB.toArray] w fun e w' => e = .returned (.bool r) ∧ Below w.heap.size w w') (w : World) (c_aA : List Value) (c_aB : List Value) (rd_aA : Rd w x_aA c_aA) (rd_aB : Rd w x_aB c_aB) :
    Calls Try.prog 5 #[.agg c_aA.toArray, .agg c_aB.toArray] w fun e w' => e = .returned (.bool true) ∧ Below w.heap.size w w' := by
  obtain ⟨u_aA0, u_aA1, u_aA2, u_aA3, rfl⟩ := cells4 (rd_aA.len.trans hn_aA)
  obtain ⟨u_aB0, u_aB1, u_aB2, u_aB3, rfl⟩ := cells4 (rd_aB.len.trans hn_aB)
  have RI_aA := Lib.hid rd_aA
  have SZaA := Lib.hid SZ_aA
  have TOaA := Lib.hid TO_aA
  clear rd_aA SZ_aA TO_aA
  have RI_aB := Lib.hid rd_aB
  have SZaB := Lib.hid SZ_aB
  have TOaB := Lib.hid TO_aB
  clear rd_aB SZ_aB TO_aB
  have SPEC := Lib.hid SP
  have IMPL := Lib.hid IM
  clear SP IM
  have HB := Lib.hid (show Below w.heap.size w ((w.alloc (.cells #[u_aA0, u_aA1, u_aA2, u_aA3] 26)).alloc (.cells #[u_aB0, u_aB1, u_aB2, u_aB3] 26)) from (((Below.refl w.heap.size w).alloc (by simp) (.cells #[u_aA0, u_aA1, u_aA2, u_aA3] 26)).alloc (by simp) (.cells #[u_aB0, u_aB1, u_aB2, u_aB3] 26)))
  have BKaA := Lib.hid (blk_old (blk_new w (.cells #[u_aA0, u_aA1, u_aA2, u_aA3] 26)) (.cells #[u_aB0, u_aB1, u_aB2, u_aB3] 26))
  have BKaB := Lib.hid (blk_new (w.alloc (.cells #[u_aA0, u_aA1, u_aA2, u_aA3] 26)) (.cells #[u_aB0, u_aB1, u_aB2, u_aB3] 26))
  go_enter Try.func5, Try.ntmps5
  go_wp2_with fail
  refine (SZaA.out _ _ (1048576) (RI_aA.out.below HB.out) (by omega) (by omega)).mono ?_
  rintro e w1 ⟨rfl, hb⟩
  have BKaA := Lib.hid (blk_below BKaA.out hb)
  have BKaB := Lib.hid (blk_below BKaB.out hb)
  have HB := Lib.hid (HB.out.trans (hb.mono HB.out.size))
  clear hb
  have zaA_0 := blk_cell BKaA.out 0
  have zaA_1 := blk_cell BKaA.out 1
  have zaA_2 := blk_cell BKaA.out 2
  have zaA_3 := blk_cell BKaA.out 3
  simp at zaA_0 zaA_1 zaA_2 zaA_3
  have zaB_0 := blk_cell BKaB.out 0
  have zaB_1 := blk_cell BKaB.out 1
  have zaB_2 := blk_cell BKaB.out 2
  have zaB_3 := blk_cell BKaB.out 3
  simp at zaB_0 zaB_1 zaB_2 zaB_3
  by_cases hzaA : (1048576 : Int) < x_aA.bulk
  · rw [szR_neg' hzaA]
    go_wp2
    go_ret
    exact ⟨rfl, HB.out⟩
  rw [szR_fit (by omega)]
  go_wp2_with fail
  refine (SZaB.out _ _ (1048576 - (x_aA.bulk : Int)) (RI_aB.out.below HB.out) (by omega) (by omega)).mono ?_
  rintro e w2 ⟨rfl, hb⟩
  have BKaA := Lib.hid (blk_below BKaA.out hb)
  have BKaB := Lib.hid (blk_below BKaB.out hb)
  have HB := Lib.hid (HB.out.trans (hb.mono HB.out.size))
  clear hb
  clear zaA_0 zaA_1 zaA_2 zaA_3 zaB_0 zaB_1 zaB_2 zaB_3
  have zaA_0 := blk_cell BKaA.out 0
  have zaA_1 := blk_cell BKaA.out 1
  have zaA_2 := blk_cell BKaA.out 2
  have zaA_3 := blk_cell BKaA.out 3
  simp at zaA_0 zaA_1 zaA_2 zaA_3
  have zaB_0 := blk_cell BKaB.out 0
  have zaB_1 := blk_cell BKaB.out 1
  have zaB_2 := blk_cell BKaB.out 2
  have zaB_3 := blk_cell BKaB.out 3
  simp at zaB_0 zaB_1 zaB_2 zaB_3
  by_cases hzaB : (1048576 - (x_aA.bulk : Int) : Int) < x_aB.bulk
  · rw [szR_neg' hzaB]
    go_wp2
    go_ret
    exact ⟨rfl, HB.out⟩
  rw [szR_fit (by omega)]
  have TOaA := Lib.hid (TOaA.out (by omega))
  have TOaB := Lib.hid (TOaB.out (by omega))
  have SPEC := Lib.hid (SPEC.out (by omega))
  have IMPL := Lib.hid (IMPL.out (by omega))
  clear zaA_0 zaA_1 zaA_2 zaA_3 zaB_0 zaB_1 zaB_2 zaB_3
  have zaA_0 := blk_cell BKaA.out 0
  have zaA_1 := blk_cell BKaA.out 1
  have zaA_2 := blk_cell BKaA.out 2
  have zaA_3 := blk_cell BKaA.out 3
  simp at zaA_0 zaA_1 zaA_2 zaA_3
  have zaB_0 := blk_cell BKaB.out 0
  have zaB_1 := blk_cell BKaB.out 1
  have zaB_2 := blk_cell BKaB.out 2
  have zaB_3 := blk_cell BKaB.out 3
  simp at zaB_0 zaB_1 zaB_2 zaB_3
  go_wp2_with fail
  go_region_held3 (fun w' => w'.cell? ⟨w.heap.size, 0, none⟩ = some u_aA0 ∧ w'.cell? ⟨w.heap.size, 1, none⟩ = some u_aA1 ∧ w'.cell? ⟨w.heap.size, 2, none⟩ = some u_aA2 ∧ w'.cell? ⟨w.heap.size, 3, none⟩ = some u_aA3 ∧ w'.cell? ⟨w.heap.size + 1, 0, none⟩ = some u_aB0 ∧ w'.cell? ⟨w.heap.size + 1, 1, none⟩ = some u_aB1 ∧ w'.cell? ⟨w.heap.size + 1, 2, none⟩ = some u_aB2 ∧ w'.cell? ⟨w.heap.size + 1, 3, none⟩ = some u_aB3)
    (first | exact ⟨zaA_0, zaA_1, zaA_2, zaA_3, zaB_0, zaB_1, zaB_2, zaB_3⟩ | exact ⟨by simpa using blk_cell BKaA.out 0, by simpa using blk_cell BKaA.out 1, by simpa using blk_cell BKaA.out 2, by simpa using blk_cell BKaA.out 3, by simpa using blk_cell BKaB.out 0, by simpa using blk_cell BKaB.out 1, by simpa using blk_cell BKaB.out 2, by simpa using blk_cell BKaB.out 3⟩)
    (first
      | (go_at_call 18; have HB := Lib.hid HB.out.drew; have BKaA := Lib.hid (blk_drew BKaA.out); have BKaB := Lib.hid (blk_drew BKaB.out); have CT := TOaA.out _ _ (RI_aA.out.below HB.out); (with_reducible refine CT.mono ?_); clear CT; rintro e w3 ⟨cst1, rfl, hfr, hb⟩; obtain ⟨t1_0, t1_1, t1_2, t1_3, rfl⟩ := cells4 (hfr.len.trans hn_aA); have BKaA := Lib.hid (blk_below BKaA.out hb); have BKaB := Lib.hid (blk_below BKaB.out hb); have HB := Lib.hid (HB.out.trans (hb.mono HB.out.size)); have RDt1 := Lib.hid hfr; clear hb hfr)
      | (go_at_call 18; have CT := TOaB.out _ _ (RI_aB.out.below HB.out); (with_reducible refine CT.mono ?_); clear CT; rintro e w4 ⟨cst2, rfl, hfr, hb⟩; obtain ⟨t2_0, t2_1, t2_2, t2_3, rfl⟩ := cells4 (hfr.len.trans hn_aB); have BKaA := Lib.hid (blk_below BKaA.out hb); have BKaB := Lib.hid (blk_below BKaB.out hb); have RDt1 := Lib.hid (RDt1.out.below hb); have HB := Lib.hid (HB.out.trans (hb.mono HB.out.size)); have RDt2 := Lib.hid hfr; clear hb hfr)
      | (go_at_call 17; have CT := SPEC.out _ _ _ RDt1.out.rd RDt2.out.rd; (with_reducible refine CT.mono ?_); clear CT; rintro e w5 ⟨rfl, hb⟩; have BKaA := Lib.hid (blk_below BKaA.out hb); have BKaB := Lib.hid (blk_below BKaB.out hb); have RDt1 := Lib.hid (RDt1.out.below hb); have RDt2 := Lib.hid (RDt2.out.below hb); have HB := Lib.hid (HB.out.trans (hb.mono HB.out.size)); clear hb))
  clear zaA_0 zaA_1 zaA_2 zaA_3 zaB_0 zaB_1 zaB_2 zaB_3
  have zaA_0 := blk_cell BKaA.out 0
  have zaA_1 := blk_cell BKaA.out 1
  have zaA_2 := blk_cell BKaA.out 2
  have zaA_3 := blk_cell BKaA.out 3
  simp at zaA_0 zaA_1 zaA_2 zaA_3
  have zaB_0 := blk_cell BKaB.out 0
  have zaB_1 := blk_cell BKaB.out 1
  have zaB_2 := blk_cell BKaB.out 2
  have zaB_3 := blk_cell BKaB.out 3
  simp at zaB_0 zaB_1 zaB_2 zaB_3
  clear zaA_0 zaA_1 zaA_2 zaA_3 zaB_0 zaB_1 zaB_2 zaB_3
  have zaA_0 := blk_cell BKaA.out 0
  have zaA_1 := blk_cell BKaA.out 1
  have zaA_2 := blk_cell BKaA.out 2
  have zaA_3 := blk_cell BKaA.out 3
  simp at zaA_0 zaA_1 zaA_2 zaA_3
  have zaB_0 := blk_cell BKaB.out 0
  have zaB_1 := blk_cell BKaB.out 1
  have zaB_2 := blk_cell BKaB.out 2
  have zaB_3 := blk_cell BKaB.out 3
  simp at zaB_0 zaB_1 zaB_2 zaB_3
  go_wp2_with fail
  go_region_held3 (fun w' => w'.cell? ⟨w.heap.size, 0, none⟩ = some u_aA0 ∧ w'.cell? ⟨w.heap.size, 1, none⟩ = some u_aA1 ∧ w'.cell? ⟨w.heap.size, 2, none⟩ = some u_aA2 ∧ w'.cell? ⟨w.heap.size, 3, none⟩ = some u_aA3 ∧ w'.cell? ⟨w.heap.size + 1, 0, none⟩ = some u_aB0 ∧ w'.cell? ⟨w.heap.size + 1, 1, none⟩ = some u_aB1 ∧ w'.cell? ⟨w.heap.size + 1, 2, none⟩ = some u_aB2 ∧ w'.cell? ⟨w.heap.size + 1, 3, none⟩ = some u_aB3)
    (first | exact ⟨zaA_0, zaA_1, zaA_2, zaA_3, zaB_0, zaB_1, zaB_2, zaB_3⟩ | exact ⟨by simpa using blk_cell BKaA.out 0, by simpa using blk_cell BKaA.out 1, by simpa using blk_cell BKaA.out 2, by simpa using blk_cell BKaA.out 3, by simpa using blk_cell BKaB.out 0, by simpa using blk_cell BKaB.out 1, by simpa using blk_cell BKaB.out 2, by simpa using blk_cell BKaB.out 3⟩)
    (first
      | (go_at_call 18; have HB := Lib.hid HB.out.drew; have BKaA := Lib.hid (blk_drew BKaA.out); have BKaB := Lib.hid (blk_drew BKaB.out); have CT := TOaA.out _ _ (RI_aA.out.below HB.out); (with_reducible refine CT.mono ?_); clear CT; rintro e w6 ⟨cst3, rfl, hfr, hb⟩; obtain ⟨t3_0, t3_1, t3_2, t3_3, rfl⟩ := cells4 (hfr.len.trans hn_aA); have BKaA := Lib.hid (blk_below BKaA.out hb); have BKaB := Lib.hid (blk_below BKaB.out hb); have HB := Lib.hid (HB.out.trans (hb.mono HB.out.size)); have RDt3 := Lib.hid hfr; clear hb hfr)
      | (go_at_call 18; have CT := TOaB.out _ _ (RI_aB.out.below HB.out); (with_reducible refine CT.mono ?_); clear CT; rintro e w7 ⟨cst4, rfl, hfr, hb⟩; obtain ⟨t4_0, t4_1, t4_2, t4_3, rfl⟩ := cells4 (hfr.len.trans hn_aB); have BKaA := Lib.hid (blk_below BKaA.out hb); have BKaB := Lib.hid (blk_below BKaB.out hb); have RDt3 := Lib.hid (RDt3.out.below hb); have HB := Lib.hid (HB.out.trans (hb.mono HB.out.size)); have RDt4 := Lib.hid hfr; clear hb hfr)
      | (go_at_call 19; have CT := IMPL.out _ _ _ RDt3.out.rd RDt4.out.rd; (with_reducible refine CT.mono ?_); clear CT; rintro e w8 ⟨rfl, hb⟩; have BKaA := Lib.hid (blk_below BKaA.out hb); have BKaB := Lib.hid (blk_below BKaB.out hb); have RDt3 := Lib.hid (RDt3.out.below hb); have RDt4 := Lib.hid (RDt4.out.below hb); have HB := Lib.hid (HB.out.trans (hb.mono HB.out.size)); clear hb))
  clear zaA_0 zaA_1 zaA_2 zaA_3 zaB_0 zaB_1 zaB_2 zaB_3
  have zaA_0 := blk_cell BKaA.out 0
  have zaA_1 := blk_cell BKaA.out 1
  have zaA_2 := blk_cell BKaA.out 2
  have zaA_3 := blk_cell BKaA.out 3
  simp at zaA_0 zaA_1 zaA_2 zaA_3
  have zaB_0 := blk_cell BKaB.out 0
  have zaB_1 := blk_cell BKaB.out 1
  have zaB_2 := blk_cell BKaB.out 2
  have zaB_3 := blk_cell BKaB.out 3
  simp at zaB_0 zaB_1 zaB_2 zaB_3
  go_wp2
  go_ret
  exact ⟨rfl, HB.out⟩

end Go.Proofs.Ytgogfloppnhceaa
