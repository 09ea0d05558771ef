/- The law 'FnExactApply' walked: over whatever both functions answer alike; no condition. -/
import Derived.Test.YtbbpkjcmbakfeaaFmType
import Derived.Test.YtbbpkjcmbakfeaaFmBind
import Derived.Test.YtbbpkjcmbakfeaaFamType
import Derived.Test.YtbbpkjcmbakfeaaFamBind
import Derived.Deep.RegionHeld3
import Derived.Deep.RegionWith
import Derived.Deep.DeepCutAuto
import Derived.Deep.CutBlock
namespace Go.Proofs.Ytbbpkjcmbakfeaa
open Go.RowKit
set_option linter.unusedVariables false
set_option linter.unusedSimpArgs false

theorem infoSzType : (Try.prog.info? 30).map (·.size) = some 4 := by kernel_rfl
theorem bs1_FnExactApply {w : World} {g i : Nat} {q : Addr} {v u : Value} (h : w.cell? q = some v) (hne : q.block ≠ g) : (w.setCell ⟨g, i, none⟩ u).cell? q = some v := (World.cell?_of_block (a := q) (Below.heap_setCell w ⟨g, i, none⟩ u q.block hne)).trans h
theorem net_FnExactApply {w : World} {a b : Nat} {c1 c2 : Array Value} {T1 T2 : TypeId} {f1 f2 : Nat × Nat} (h1 : w.heap[a]? = some (.cells c1 T1 f1)) (h2 : w.heap[b]? = some (.cells c2 T2 f2)) (hT : T2 ≠ T1) : a ≠ b := fun e => by
  subst e
  rw [h1] at h2
  injection h2 with h2
  injection h2 with _ h2 _
  exact hT h2.symm
set_option maxRecDepth 100000 in
set_option maxHeartbeats 40000000 in
theorem lawFnExactApply (x_aBinds : D) (x_aT : D) (r : D) (SZ_aBinds : SzO Try.prog 31 x_aBinds)
    (TO_aBinds : x_aBinds.bulk ≤ 1048576 → ToO Try.prog 33 x_aBinds)
    (EQ_aBinds : EqO Try.prog 35 x_aBinds)
    (MK_aBinds : x_aBinds.bulk ≤ 1048576 → x_aBinds.tcnt ≤ 1099511627776 ∧ MkO Try.prog 36 x_aBinds)
    (hn_aT : x_aT.n = 4)
    (SZ_aT : SzA Try.prog 12 x_aT)
    (TO_aT : x_aT.bulk ≤ 1048576 → ToA Try.prog 14 x_aT)
    (EQ_aT : EqA Try.prog 17 x_aT)
    (MK_aT : x_aT.bulk ≤ 1048576 → x_aT.tcnt ≤ 1099511627776 ∧ MkA Try.prog 18 x_aT)
    (hn_r : r.n = 4)
    (EQ_r : EqA Try.prog 17 r)
    (MK_r : x_aBinds.bulk + x_aT.bulk ≤ 1048576 → r.tcnt ≤ 1099511627776 ∧ MkA Try.prog 18 r ∧ HdA Try.prog 30 r)
    (SP : x_aBinds.bulk + x_aT.bulk ≤ 1048576 → ∀ (w : World) (c_aBinds : Value) (c_aT : List Value), Rd w x_aBinds [c_aBinds] → Rd w x_aT c_aT → Calls Try.prog 32 #[c_aBinds, .agg c_aT.toArray] w fun e w' => ∃ cs', e = .returned (.agg cs'.toArray) ∧ Fr w.heap.size w' r cs' ∧ Below w.heap.size w w')
    (IM : x_aBinds.bulk + x_aT.bulk ≤ 1048576 → ∀ (w : World) (c_aBinds : Value) (c_aT : List Value), Rd w x_aBinds [c_aBinds] → Rd w x_aT c_aT → Calls Try.prog 34 #[c_aBinds, .agg c_aT.toArray] w fun e w' => ∃ cs', e = .returned (.agg cs'.toArray) ∧ Fr w.heap.size w' r cs' ∧ Below w.heap.size w w') (w : World) (c_aBinds : Value) (c_aT : List Value) (rd_aBinds : Rd w x_aBinds [c_aBinds]) (rd_aT : Rd w x_aT c_aT) :
    Calls Try.prog 6 #[c_aBinds, .agg c_aT.toArray] w fun e w' => e = .returned (.bool true) ∧ Below w.heap.size w w' := by
  obtain ⟨u_aT0, u_aT1, u_aT2, u_aT3, rfl⟩ := cells4 (rd_aT.len.trans hn_aT)
  have HSZ_aBinds := Lib.hid SZ_aBinds
  have HTO_aBinds := Lib.hid TO_aBinds
  have HEQ_aBinds := Lib.hid EQ_aBinds
  have HMK_aBinds := Lib.hid MK_aBinds
  have HSZ_aT := Lib.hid SZ_aT
  have HTO_aT := Lib.hid TO_aT
  have HEQ_aT := Lib.hid EQ_aT
  have HMK_aT := Lib.hid MK_aT
  have HEQ_r := Lib.hid EQ_r
  have HMK_r := Lib.hid MK_r
  have HSP := Lib.hid SP
  have HIM := Lib.hid IM
  have RI_aBinds := Lib.hid rd_aBinds
  have RI_aT := Lib.hid rd_aT
  clear SZ_aBinds TO_aBinds EQ_aBinds MK_aBinds SZ_aT TO_aT EQ_aT MK_aT EQ_r MK_r SP IM rd_aBinds rd_aT
  have HB := Lib.hid (show Below w.heap.size w (w.alloc (.cells #[u_aT0, u_aT1, u_aT2, u_aT3] 24)) from ((Below.refl w.heap.size w).alloc (by simp) (.cells #[u_aT0, u_aT1, u_aT2, u_aT3] 24)))
  have HS := Lib.hid (((Has.nil w).below ((Below.refl _ _).alloc (Nat.le_refl _) (.cells #[u_aT0, u_aT1, u_aT2, u_aT3] 24))).add (a := .blk w.heap.size (.cells #[u_aT0, u_aT1, u_aT2, u_aT3] 24 (0, 0))) (blk_new w (.cells #[u_aT0, u_aT1, u_aT2, u_aT3] 24)))
  have SZ0 := Lib.hid (show (w.alloc (.cells #[u_aT0, u_aT1, u_aT2, u_aT3] 24)).heap.size = w.heap.size + 1 by simp)
  go_enter Try.func6, Try.ntmps6
  go_wp2_with fail
  generalize hw0 : (w.alloc (.cells #[u_aT0, u_aT1, u_aT2, u_aT3] 24)) = w0 at *
  clear hw0
  refine ((HSZ_aBinds.out _ _ (1048576) (RI_aBinds.out.below HB.out) (by omega) (by omega))).mono ?_
  rintro e w1 ⟨rfl, hb⟩
  have HS := Lib.hid (HS.out.below hb)
  have SZ1 := Lib.hid (show w0.heap.size ≤ w1.heap.size from hb.size)
  have HB := Lib.hid (HB.out.trans (hb.mono HB.out.size))
  clear hb
  by_cases hzaBinds : (1048576 : Int) < x_aBinds.bulk
  · rw [szR_neg' hzaBinds]
    go_wp2
    go_ret
    exact ⟨rfl, HB.out⟩
  rw [szR_fit (by omega)]
  have hblk := HS.out.blk (g := w.heap.size) (o := .cells #[u_aT0, u_aT1, u_aT2, u_aT3] 24 (0, 0)) List.mem_cons_self
  have zaT_0 := (blk_cell hblk 0).trans (rfl : _ = some u_aT0)
  have zaT_1 := (blk_cell hblk 1).trans (rfl : _ = some u_aT1)
  have zaT_2 := (blk_cell hblk 2).trans (rfl : _ = some u_aT2)
  have zaT_3 := (blk_cell hblk 3).trans (rfl : _ = some u_aT3)
  clear hblk
  go_wp2_with fail
  refine ((HSZ_aT.out _ _ (1048576 - (x_aBinds.bulk : Int)) (RI_aT.out.below HB.out) (by omega) (by omega))).mono ?_
  rintro e w2 ⟨rfl, hb⟩
  have HS := Lib.hid (HS.out.below hb)
  have SZ2 := Lib.hid (show w1.heap.size ≤ w2.heap.size from hb.size)
  have HB := Lib.hid (HB.out.trans (hb.mono HB.out.size))
  clear hb
  by_cases hzaT : (1048576 - (x_aBinds.bulk : Int) : Int) < x_aT.bulk
  · rw [szR_neg' hzaT]
    go_wp2
    go_ret
    exact ⟨rfl, HB.out⟩
  rw [szR_fit (by omega)]
  have HTO_aBinds := Lib.hid (HTO_aBinds.out (by omega))
  have HMK_aBinds := Lib.hid (HMK_aBinds.out (by omega))
  have HTO_aT := Lib.hid (HTO_aT.out (by omega))
  have HMK_aT := Lib.hid (HMK_aT.out (by omega))
  have HSP := Lib.hid (HSP.out (by omega))
  have HIM := Lib.hid (HIM.out (by omega))
  have HMK_r := Lib.hid (HMK_r.out (by omega))
  clear zaT_0 zaT_1 zaT_2 zaT_3
  have hblk := HS.out.blk (g := w.heap.size) (o := .cells #[u_aT0, u_aT1, u_aT2, u_aT3] 24 (0, 0)) List.mem_cons_self
  have zaT_0 := (blk_cell hblk 0).trans (rfl : _ = some u_aT0)
  have zaT_1 := (blk_cell hblk 1).trans (rfl : _ = some u_aT1)
  have zaT_2 := (blk_cell hblk 2).trans (rfl : _ = some u_aT2)
  have zaT_3 := (blk_cell hblk 3).trans (rfl : _ = some u_aT3)
  clear hblk
  go_upto_region 8 with fail
  go_cut [6] from 19 (fun v wx => BoxR 30 w2.heap.size r [(.blk (w.heap.size) (.cells #[u_aT0, u_aT1, u_aT2, u_aT3] 24 (0, 0)))] w v wx)
  case first =>
    have hblk := HS.out.blk (g := w.heap.size) (o := .cells #[u_aT0, u_aT1, u_aT2, u_aT3] 24 (0, 0)) List.mem_cons_self
    have yaT_0 := (blk_cell hblk 0).trans (rfl : _ = some u_aT0)
    have yaT_1 := (blk_cell hblk 1).trans (rfl : _ = some u_aT1)
    have yaT_2 := (blk_cell hblk 2).trans (rfl : _ = some u_aT2)
    have yaT_3 := (blk_cell hblk 3).trans (rfl : _ = some u_aT3)
    have vaT_0 := fun o => (blk_cell (blk_old hblk o) 0).trans (rfl : _ = some u_aT0)
    have vaT_1 := fun o => (blk_cell (blk_old hblk o) 1).trans (rfl : _ = some u_aT1)
    have vaT_2 := fun o => (blk_cell (blk_old hblk o) 2).trans (rfl : _ = some u_aT2)
    have vaT_3 := fun o => (blk_cell (blk_old hblk o) 3).trans (rfl : _ = some u_aT3)
    clear hblk
    go_region_held3 (fun w' => w'.cell? ⟨w.heap.size, 0, none⟩ = some u_aT0 ∧ w'.cell? ⟨w.heap.size, 1, none⟩ = some u_aT1 ∧ w'.cell? ⟨w.heap.size, 2, none⟩ = some u_aT2 ∧ w'.cell? ⟨w.heap.size, 3, none⟩ = some u_aT3)
      (first | (with_reducible exact ⟨bs1_FnExactApply (bs1_FnExactApply (bs1_FnExactApply (bs1_FnExactApply (yaT_0) hneaT) hneaT) hneaT) hneaT, bs1_FnExactApply (bs1_FnExactApply (bs1_FnExactApply (bs1_FnExactApply (yaT_1) hneaT) hneaT) hneaT) hneaT, bs1_FnExactApply (bs1_FnExactApply (bs1_FnExactApply (bs1_FnExactApply (yaT_2) hneaT) hneaT) hneaT) hneaT, bs1_FnExactApply (bs1_FnExactApply (bs1_FnExactApply (bs1_FnExactApply (yaT_3) hneaT) hneaT) hneaT) hneaT⟩) | exact ⟨yaT_0, yaT_1, yaT_2, yaT_3⟩ | exact ⟨vaT_0 _, vaT_1 _, vaT_2 _, vaT_3 _⟩)
      (first
        | (go_at_call 33; have HB := Lib.hid HB.out.drew; have HS := Lib.hid HS.out.drew; have CT := (HTO_aBinds.out _ _ (RI_aBinds.out.below HB.out)); (with_reducible refine CT.mono ?_); clear CT; rintro e w3 ⟨vt1, rfl, hfr, hb⟩; have HS := Lib.hid (HS.out.below hb); have SZ3 := Lib.hid (show w2.heap.size ≤ w3.heap.size from hb.size); have HB := Lib.hid (HB.out.trans (hb.mono HB.out.size)); have HS := Lib.hid (HS.out.add (a := (.dat w2.heap.size w3.heap.size x_aBinds [vt1])) hfr.range); (try (have HZ := Lib.hid (blk_below HZ.out hb))); clear hb hfr; have hblk := HS.out.blk (g := w.heap.size) (o := .cells #[u_aT0, u_aT1, u_aT2, u_aT3] 24 (0, 0)) (List.mem_cons_of_mem _ List.mem_cons_self); have yaT_0 := (blk_cell hblk 0).trans (rfl : _ = some u_aT0); have yaT_1 := (blk_cell hblk 1).trans (rfl : _ = some u_aT1); have yaT_2 := (blk_cell hblk 2).trans (rfl : _ = some u_aT2); have yaT_3 := (blk_cell hblk 3).trans (rfl : _ = some u_aT3); have vaT_0 := fun o => (blk_cell (blk_old hblk o) 0).trans (rfl : _ = some u_aT0); have vaT_1 := fun o => (blk_cell (blk_old hblk o) 1).trans (rfl : _ = some u_aT1); have vaT_2 := fun o => (blk_cell (blk_old hblk o) 2).trans (rfl : _ = some u_aT2); have vaT_3 := fun o => (blk_cell (blk_old hblk o) 3).trans (rfl : _ = some u_aT3); clear hblk)
        | (go_at_call 33; have hal := (Below.refl w2.heap.size w2).alloc (Nat.le_refl _) (.cells #[.int .i64 0, .int .i64 0, .string ⟨#[]⟩, .slice none 0 0] 30); have HS := Lib.hid (HS.out.below hal); have HB := Lib.hid (HB.out.trans (hal.mono HB.out.size)); have HZ := Lib.hid (blk_new w2 (.cells #[.int .i64 0, .int .i64 0, .string ⟨#[]⟩, .slice none 0 0] 30)); have hsz0 := alloc_sz w2 (.cells #[.int .i64 0, .int .i64 0, .string ⟨#[]⟩, .slice none 0 0] 30); clear hal; have HB := Lib.hid HB.out.drew; have HS := Lib.hid HS.out.drew; have HZ := Lib.hid (blk_drew HZ.out); have CT := (HTO_aBinds.out _ _ (RI_aBinds.out.below HB.out)); (with_reducible refine CT.mono ?_); clear CT; rintro e w3 ⟨vt1, rfl, hfr, hb⟩; have HS := Lib.hid (HS.out.below hb); have SZ3 := Lib.hid (show w2.heap.size + 1 ≤ w3.heap.size from lt_of_alloc hb.size); have HB := Lib.hid (HB.out.trans (hb.mono HB.out.size)); have HS := Lib.hid (HS.out.add (a := (.dat w2.heap.size w3.heap.size x_aBinds [vt1])) (FrR.lower hfr.range (alloc_le w2 _))); (try (have HZ := Lib.hid (blk_below HZ.out hb))); clear hb hfr; have hblk := HS.out.blk (g := w.heap.size) (o := .cells #[u_aT0, u_aT1, u_aT2, u_aT3] 24 (0, 0)) (List.mem_cons_of_mem _ List.mem_cons_self); have yaT_0 := (blk_cell hblk 0).trans (rfl : _ = some u_aT0); have yaT_1 := (blk_cell hblk 1).trans (rfl : _ = some u_aT1); have yaT_2 := (blk_cell hblk 2).trans (rfl : _ = some u_aT2); have yaT_3 := (blk_cell hblk 3).trans (rfl : _ = some u_aT3); have vaT_0 := fun o => (blk_cell (blk_old hblk o) 0).trans (rfl : _ = some u_aT0); have vaT_1 := fun o => (blk_cell (blk_old hblk o) 1).trans (rfl : _ = some u_aT1); have vaT_2 := fun o => (blk_cell (blk_old hblk o) 2).trans (rfl : _ = some u_aT2); have vaT_3 := fun o => (blk_cell (blk_old hblk o) 3).trans (rfl : _ = some u_aT3); clear hblk)
        | (go_at_call 14; have CT := (HTO_aT.out _ _ (RI_aT.out.below HB.out)); (with_reducible refine CT.mono ?_); clear CT; rintro e w4 ⟨cs, rfl, hfr, hb⟩; obtain ⟨t2_0, t2_1, t2_2, t2_3, rfl⟩ := cells4 (hfr.len.trans hn_aT); have HS := Lib.hid (HS.out.below hb); have SZ4 := Lib.hid (show w3.heap.size ≤ w4.heap.size from hb.size); have HB := Lib.hid (HB.out.trans (hb.mono HB.out.size)); have HS := Lib.hid (HS.out.add (a := (.dat w3.heap.size w4.heap.size x_aT [t2_0, t2_1, t2_2, t2_3])) hfr.range); (try (have HZ := Lib.hid (blk_below HZ.out hb))); clear hb hfr; have hblk := HS.out.blk (g := w.heap.size) (o := .cells #[u_aT0, u_aT1, u_aT2, u_aT3] 24 (0, 0)) (List.mem_cons_of_mem _ (List.mem_cons_of_mem _ List.mem_cons_self)); have yaT_0 := (blk_cell hblk 0).trans (rfl : _ = some u_aT0); have yaT_1 := (blk_cell hblk 1).trans (rfl : _ = some u_aT1); have yaT_2 := (blk_cell hblk 2).trans (rfl : _ = some u_aT2); have yaT_3 := (blk_cell hblk 3).trans (rfl : _ = some u_aT3); have vaT_0 := fun o => (blk_cell (blk_old hblk o) 0).trans (rfl : _ = some u_aT0); have vaT_1 := fun o => (blk_cell (blk_old hblk o) 1).trans (rfl : _ = some u_aT1); have vaT_2 := fun o => (blk_cell (blk_old hblk o) 2).trans (rfl : _ = some u_aT2); have vaT_3 := fun o => (blk_cell (blk_old hblk o) 3).trans (rfl : _ = some u_aT3); clear hblk)
        | (go_at_call 14; have hal := (Below.refl w3.heap.size w3).alloc (Nat.le_refl _) (.cells #[.int .i64 0, .int .i64 0, .string ⟨#[]⟩, .slice none 0 0] 30); have HS := Lib.hid (HS.out.below hal); have HB := Lib.hid (HB.out.trans (hal.mono HB.out.size)); have HZ := Lib.hid (blk_new w3 (.cells #[.int .i64 0, .int .i64 0, .string ⟨#[]⟩, .slice none 0 0] 30)); have hsz1 := alloc_sz w3 (.cells #[.int .i64 0, .int .i64 0, .string ⟨#[]⟩, .slice none 0 0] 30); clear hal; have CT := (HTO_aT.out _ _ (RI_aT.out.below HB.out)); (with_reducible refine CT.mono ?_); clear CT; rintro e w4 ⟨cs, rfl, hfr, hb⟩; obtain ⟨t2_0, t2_1, t2_2, t2_3, rfl⟩ := cells4 (hfr.len.trans hn_aT); have HS := Lib.hid (HS.out.below hb); have SZ4 := Lib.hid (show w3.heap.size + 1 ≤ w4.heap.size from lt_of_alloc hb.size); have HB := Lib.hid (HB.out.trans (hb.mono HB.out.size)); have HS := Lib.hid (HS.out.add (a := (.dat w3.heap.size w4.heap.size x_aT [t2_0, t2_1, t2_2, t2_3])) (FrR.lower hfr.range (alloc_le w3 _))); (try (have HZ := Lib.hid (blk_below HZ.out hb))); clear hb hfr; have hblk := HS.out.blk (g := w.heap.size) (o := .cells #[u_aT0, u_aT1, u_aT2, u_aT3] 24 (0, 0)) (List.mem_cons_of_mem _ (List.mem_cons_of_mem _ List.mem_cons_self)); have yaT_0 := (blk_cell hblk 0).trans (rfl : _ = some u_aT0); have yaT_1 := (blk_cell hblk 1).trans (rfl : _ = some u_aT1); have yaT_2 := (blk_cell hblk 2).trans (rfl : _ = some u_aT2); have yaT_3 := (blk_cell hblk 3).trans (rfl : _ = some u_aT3); have vaT_0 := fun o => (blk_cell (blk_old hblk o) 0).trans (rfl : _ = some u_aT0); have vaT_1 := fun o => (blk_cell (blk_old hblk o) 1).trans (rfl : _ = some u_aT1); have vaT_2 := fun o => (blk_cell (blk_old hblk o) 2).trans (rfl : _ = some u_aT2); have vaT_3 := fun o => (blk_cell (blk_old hblk o) 3).trans (rfl : _ = some u_aT3); clear hblk)
        | (go_at_call 32; have CT := (HSP.out _ _ _ (HS.out.dat (x := x_aBinds) (B := w2.heap.size) (C := w3.heap.size) (cs := [vt1]) (List.mem_cons_of_mem _ List.mem_cons_self)).rd (HS.out.dat (x := x_aT) (B := w3.heap.size) (C := w4.heap.size) (cs := [t2_0, t2_1, t2_2, t2_3]) List.mem_cons_self).rd); (with_reducible refine CT.mono ?_); clear CT; rintro e w5 ⟨cs, rfl, hfr, hb⟩; obtain ⟨q3_0, q3_1, q3_2, q3_3, rfl⟩ := cells4 (hfr.len.trans hn_r); have st0 := run_store_one (P := Try.prog) (hfr.one q3_0 (by simp)); have st1 := run_store_one (P := Try.prog) (hfr.one q3_1 (by simp)); have st2 := run_store_one (P := Try.prog) (hfr.one q3_2 (by simp)); have st3 := run_store_one (P := Try.prog) (hfr.one q3_3 (by simp)); have HS := Lib.hid (HS.out.below hb); have SZ5 := Lib.hid (show w4.heap.size ≤ w5.heap.size from hb.size); have HB := Lib.hid (HB.out.trans (hb.mono HB.out.size)); have HQ := Lib.hid hfr.range; (try (have HZ := Lib.hid (blk_below HZ.out hb); have x0 := (blk_cell HZ.out 0).trans (rfl : (_ : Option Value) = some (.int .i64 0)); have f0 := blk_frozen HZ.out 0; have x1 := (blk_cell HZ.out 1).trans (rfl : (_ : Option Value) = some (.int .i64 0)); have f1 := blk_frozen HZ.out 1; have x2 := (blk_cell HZ.out 2).trans (rfl : (_ : Option Value) = some (.string ⟨#[]⟩)); have f2 := blk_frozen HZ.out 2; have x3 := (blk_cell HZ.out 3).trans (rfl : (_ : Option Value) = some (.slice none 0 0)); have f3 := blk_frozen HZ.out 3; have hblk := HS.out.blk (g := w.heap.size) (o := .cells #[u_aT0, u_aT1, u_aT2, u_aT3] 24 (0, 0)) (List.mem_cons_of_mem _ (List.mem_cons_of_mem _ List.mem_cons_self)); have hneaT := net_FnExactApply hblk HZ.out (by decide); clear hblk)); clear hb hfr; have hblk := HS.out.blk (g := w.heap.size) (o := .cells #[u_aT0, u_aT1, u_aT2, u_aT3] 24 (0, 0)) (List.mem_cons_of_mem _ (List.mem_cons_of_mem _ List.mem_cons_self)); have yaT_0 := (blk_cell hblk 0).trans (rfl : _ = some u_aT0); have yaT_1 := (blk_cell hblk 1).trans (rfl : _ = some u_aT1); have yaT_2 := (blk_cell hblk 2).trans (rfl : _ = some u_aT2); have yaT_3 := (blk_cell hblk 3).trans (rfl : _ = some u_aT3); have vaT_0 := fun o => (blk_cell (blk_old hblk o) 0).trans (rfl : _ = some u_aT0); have vaT_1 := fun o => (blk_cell (blk_old hblk o) 1).trans (rfl : _ = some u_aT1); have vaT_2 := fun o => (blk_cell (blk_old hblk o) 2).trans (rfl : _ = some u_aT2); have vaT_3 := fun o => (blk_cell (blk_old hblk o) 3).trans (rfl : _ = some u_aT3); clear hblk)
        | (go_at_call 32; have hal := (Below.refl w4.heap.size w4).alloc (Nat.le_refl _) (.cells #[.int .i64 0, .int .i64 0, .string ⟨#[]⟩, .slice none 0 0] 30); have HS := Lib.hid (HS.out.below hal); have HB := Lib.hid (HB.out.trans (hal.mono HB.out.size)); have HZ := Lib.hid (blk_new w4 (.cells #[.int .i64 0, .int .i64 0, .string ⟨#[]⟩, .slice none 0 0] 30)); have hsz2 := alloc_sz w4 (.cells #[.int .i64 0, .int .i64 0, .string ⟨#[]⟩, .slice none 0 0] 30); clear hal; have CT := (HSP.out _ _ _ (HS.out.dat (x := x_aBinds) (B := w2.heap.size) (C := w3.heap.size) (cs := [vt1]) (List.mem_cons_of_mem _ List.mem_cons_self)).rd (HS.out.dat (x := x_aT) (B := w3.heap.size) (C := w4.heap.size) (cs := [t2_0, t2_1, t2_2, t2_3]) List.mem_cons_self).rd); (with_reducible refine CT.mono ?_); clear CT; rintro e w5 ⟨cs, rfl, hfr, hb⟩; obtain ⟨q3_0, q3_1, q3_2, q3_3, rfl⟩ := cells4 (hfr.len.trans hn_r); have st0 := run_store_one (P := Try.prog) (hfr.one q3_0 (by simp)); have st1 := run_store_one (P := Try.prog) (hfr.one q3_1 (by simp)); have st2 := run_store_one (P := Try.prog) (hfr.one q3_2 (by simp)); have st3 := run_store_one (P := Try.prog) (hfr.one q3_3 (by simp)); have HS := Lib.hid (HS.out.below hb); have SZ5 := Lib.hid (show w4.heap.size + 1 ≤ w5.heap.size from lt_of_alloc hb.size); have HB := Lib.hid (HB.out.trans (hb.mono HB.out.size)); have HQ := Lib.hid hfr.range; (try (have HZ := Lib.hid (blk_below HZ.out hb); have x0 := (blk_cell HZ.out 0).trans (rfl : (_ : Option Value) = some (.int .i64 0)); have f0 := blk_frozen HZ.out 0; have x1 := (blk_cell HZ.out 1).trans (rfl : (_ : Option Value) = some (.int .i64 0)); have f1 := blk_frozen HZ.out 1; have x2 := (blk_cell HZ.out 2).trans (rfl : (_ : Option Value) = some (.string ⟨#[]⟩)); have f2 := blk_frozen HZ.out 2; have x3 := (blk_cell HZ.out 3).trans (rfl : (_ : Option Value) = some (.slice none 0 0)); have f3 := blk_frozen HZ.out 3; have hblk := HS.out.blk (g := w.heap.size) (o := .cells #[u_aT0, u_aT1, u_aT2, u_aT3] 24 (0, 0)) (List.mem_cons_of_mem _ (List.mem_cons_of_mem _ List.mem_cons_self)); have hneaT := net_FnExactApply hblk HZ.out (by decide); clear hblk)); clear hb hfr; have hblk := HS.out.blk (g := w.heap.size) (o := .cells #[u_aT0, u_aT1, u_aT2, u_aT3] 24 (0, 0)) (List.mem_cons_of_mem _ (List.mem_cons_of_mem _ List.mem_cons_self)); have yaT_0 := (blk_cell hblk 0).trans (rfl : _ = some u_aT0); have yaT_1 := (blk_cell hblk 1).trans (rfl : _ = some u_aT1); have yaT_2 := (blk_cell hblk 2).trans (rfl : _ = some u_aT2); have yaT_3 := (blk_cell hblk 3).trans (rfl : _ = some u_aT3); have vaT_0 := fun o => (blk_cell (blk_old hblk o) 0).trans (rfl : _ = some u_aT0); have vaT_1 := fun o => (blk_cell (blk_old hblk o) 1).trans (rfl : _ = some u_aT1); have vaT_2 := fun o => (blk_cell (blk_old hblk o) 2).trans (rfl : _ = some u_aT2); have vaT_3 := fun o => (blk_cell (blk_old hblk o) 3).trans (rfl : _ = some u_aT3); clear hblk))
    all_goals (go_wp2_with fail; go_meet)
    all_goals (have sSZ0 := SZ0.out; have sSZ1 := SZ1.out; have sSZ2 := SZ2.out; have sSZ3 := SZ3.out; have sSZ4 := SZ4.out; have sSZ5 := SZ5.out)
    all_goals first
      | ((with_reducible refine boxR_new' (cs := [q3_0, q3_1, q3_2, q3_3]) ?_); exact ⟨_, _, HS.out.tail.tail, HQ.out, HB.out, by omega, by omega, by omega⟩)
      | (have szq := blk_lt HZ.out; refine boxR_set' (w := w5) (cs := [q3_0, q3_1, q3_2, q3_3]) rfl ?_; exact ⟨_, _, _, HS.out.tail.tail, ap_cons (show _ ∨ _ by omega) (ap_nil), HZ.out, rfl, HQ.out, HB.out, by omega, by omega, by omega, by omega, by omega⟩)
  case rest =>
    obtain ⟨g8, cs, B8, C8, rfl, ho, hl, hs, hb, hz1, hz2, hz3, hz4, hz5⟩ := hcut
    obtain ⟨q3_0, q3_1, q3_2, q3_3, rfl⟩ := cells4 (hl.trans hn_r)
    obtain ⟨w3, rfl⟩ : ∃ v, v = wc := ⟨_, rfl⟩
    have HS : Hid (Has [(.blk (g8) (.cells #[q3_0, q3_1, q3_2, q3_3] 30 (0, 0))), (.dat B8 C8 r [q3_0, q3_1, q3_2, q3_3]), (.blk (w.heap.size) (.cells #[u_aT0, u_aT1, u_aT2, u_aT3] 24 (0, 0)))] w3) := hs
    have HB := Lib.hid hb
    have SZ3 : Hid (w2.heap.size ≤ g8 ∧ g8 < w3.heap.size ∧ w2.heap.size ≤ B8 ∧ C8 ≤ w3.heap.size ∧ (g8 < B8 ∨ C8 ≤ g8)) := ⟨hz1, hz2, hz3, hz4, hz5⟩
    have ONEq3 := Lib.hid ho
    clear ho hl hs hb hz1 hz2 hz3 hz4 hz5
    clear zaT_0 zaT_1 zaT_2 zaT_3
    go_wp2_with fail
    refine ((HTO_aBinds.out _ _ (RI_aBinds.out.below HB.out))).mono ?_
    rintro e w4 ⟨vt4, rfl, hfr, hb⟩
    have HS := Lib.hid (HS.out.below hb)
    have SZ4 := Lib.hid (show w3.heap.size ≤ w4.heap.size from hb.size)
    have HB := Lib.hid (HB.out.trans (hb.mono HB.out.size))
    have HS := Lib.hid (HS.out.add (a := (.dat w3.heap.size w4.heap.size x_aBinds [vt4])) hfr.range)
    clear hb hfr
    have hblk := HS.out.blk (g := w.heap.size) (o := .cells #[u_aT0, u_aT1, u_aT2, u_aT3] 24 (0, 0)) (List.mem_cons_of_mem _ (List.mem_cons_of_mem _ (List.mem_cons_of_mem _ List.mem_cons_self)))
    have zaT_0 := (blk_cell hblk 0).trans (rfl : _ = some u_aT0)
    have zaT_1 := (blk_cell hblk 1).trans (rfl : _ = some u_aT1)
    have zaT_2 := (blk_cell hblk 2).trans (rfl : _ = some u_aT2)
    have zaT_3 := (blk_cell hblk 3).trans (rfl : _ = some u_aT3)
    clear hblk
    go_wp2_with fail
    refine ((HTO_aT.out _ _ (RI_aT.out.below HB.out))).mono ?_
    rintro e w5 ⟨cs, rfl, hfr, hb⟩
    obtain ⟨t5_0, t5_1, t5_2, t5_3, rfl⟩ := cells4 (hfr.len.trans hn_aT)
    have HS := Lib.hid (HS.out.below hb)
    have SZ5 := Lib.hid (show w4.heap.size ≤ w5.heap.size from hb.size)
    have HB := Lib.hid (HB.out.trans (hb.mono HB.out.size))
    have HS := Lib.hid (HS.out.add (a := (.dat w4.heap.size w5.heap.size x_aT [t5_0, t5_1, t5_2, t5_3])) hfr.range)
    have ONEt5 := Lib.hid hfr.all
    clear hb hfr
    go_wp2_with (refine wpl_store_new' rfl 30 (.tmp 8) (.tmp 32) rfl _ #[t5_0, t5_1, t5_2, t5_3] rfl rfl (infoSzType) rfl ONEt5.out ?_; intro w6 hbk hbl hsz; have HS := Lib.hid ((HS.out.below hbl)); have HS := Lib.hid (HS.out.add (a := (.blk (w5.heap.size) (.cells #[t5_0, t5_1, t5_2, t5_3] 30 (0, 0)))) hbk); have SZ6 := Lib.hid hsz; have HB := Lib.hid (HB.out.trans (hbl.mono HB.out.size)); clear hbk hbl hsz; clear zaT_0 zaT_1 zaT_2 zaT_3; have hblk := HS.out.blk (g := w5.heap.size) (o := .cells #[t5_0, t5_1, t5_2, t5_3] 30 (0, 0)) List.mem_cons_self; have zbt5_0 := (blk_cell hblk 0).trans (rfl : _ = some t5_0); have zbt5_1 := (blk_cell hblk 1).trans (rfl : _ = some t5_1); have zbt5_2 := (blk_cell hblk 2).trans (rfl : _ = some t5_2); have zbt5_3 := (blk_cell hblk 3).trans (rfl : _ = some t5_3); clear hblk)
    refine ((HIM.out _ _ _ (HS.out.dat (x := x_aBinds) (B := w3.heap.size) (C := w4.heap.size) (cs := [vt4]) (List.mem_cons_of_mem _ (List.mem_cons_of_mem _ List.mem_cons_self))).rd (HS.out.dat (x := x_aT) (B := w4.heap.size) (C := w5.heap.size) (cs := [t5_0, t5_1, t5_2, t5_3]) (List.mem_cons_of_mem _ List.mem_cons_self)).rd)).mono ?_
    rintro e w7 ⟨cs, rfl, hfr, hb⟩
    obtain ⟨q6_0, q6_1, q6_2, q6_3, rfl⟩ := cells4 (hfr.len.trans hn_r)
    have HS := Lib.hid (HS.out.below hb)
    have SZ7 := Lib.hid (show w6.heap.size ≤ w7.heap.size from hb.size)
    have HB := Lib.hid (HB.out.trans (hb.mono HB.out.size))
    have HS := Lib.hid (HS.out.add (a := (.dat w6.heap.size w7.heap.size r [q6_0, q6_1, q6_2, q6_3])) hfr.range)
    have ONEq6 := Lib.hid hfr.all
    clear hb hfr
    go_wp2_with (refine wpl_store_new' rfl 30 (.tmp 9) (.tmp 35) rfl _ #[q6_0, q6_1, q6_2, q6_3] rfl rfl (infoSzType) rfl ONEq6.out ?_; intro w8 hbk hbl hsz; have HS := Lib.hid ((HS.out.below hbl)); have HS := Lib.hid (HS.out.add (a := (.blk (w7.heap.size) (.cells #[q6_0, q6_1, q6_2, q6_3] 30 (0, 0)))) hbk); have SZ8 := Lib.hid hsz; have HB := Lib.hid (HB.out.trans (hbl.mono HB.out.size)); clear hbk hbl hsz; clear zbt5_0 zbt5_1 zbt5_2 zbt5_3; have hblk := HS.out.blk (g := w7.heap.size) (o := .cells #[q6_0, q6_1, q6_2, q6_3] 30 (0, 0)) List.mem_cons_self; have zbq6_0 := (blk_cell hblk 0).trans (rfl : _ = some q6_0); have zbq6_1 := (blk_cell hblk 1).trans (rfl : _ = some q6_1); have zbq6_2 := (blk_cell hblk 2).trans (rfl : _ = some q6_2); have zbq6_3 := (blk_cell hblk 3).trans (rfl : _ = some q6_3); clear hblk; have hblk := HS.out.blk (g := g8) (o := .cells #[q3_0, q3_1, q3_2, q3_3] 30 (0, 0)) (List.mem_cons_of_mem _ (List.mem_cons_of_mem _ (List.mem_cons_of_mem _ (List.mem_cons_of_mem _ (List.mem_cons_of_mem _ List.mem_cons_self))))); have zbq3_0 := (blk_cell hblk 0).trans (rfl : _ = some q3_0); have zbq3_1 := (blk_cell hblk 1).trans (rfl : _ = some q3_1); have zbq3_2 := (blk_cell hblk 2).trans (rfl : _ = some q3_2); have zbq3_3 := (blk_cell hblk 3).trans (rfl : _ = some q3_3); clear hblk)
    refine ((HEQ_r.out _ _ _ (HS.out.dat (x := r) (B := w6.heap.size) (C := w7.heap.size) (cs := [q6_0, q6_1, q6_2, q6_3]) (List.mem_cons_of_mem _ List.mem_cons_self)).rd (HS.out.dat (x := r) (B := B8) (C := C8) (cs := [q3_0, q3_1, q3_2, q3_3]) (List.mem_cons_of_mem _ (List.mem_cons_of_mem _ (List.mem_cons_of_mem _ (List.mem_cons_of_mem _ (List.mem_cons_of_mem _ (List.mem_cons_of_mem _ List.mem_cons_self))))))).rd)).mono ?_
    rintro e w9 ⟨rfl, hb⟩
    have HS := Lib.hid (HS.out.below hb)
    have SZ9 := Lib.hid (show w8.heap.size ≤ w9.heap.size from hb.size)
    have HB := Lib.hid (HB.out.trans (hb.mono HB.out.size))
    clear hb
    clear zbq6_0 zbq6_1 zbq6_2 zbq6_3 zbq3_0 zbq3_1 zbq3_2 zbq3_3
    go_wp2_with fail
    refine ((HTO_aBinds.out _ _ (RI_aBinds.out.below HB.out))).mono ?_
    rintro e w10 ⟨vt7, rfl, hfr, hb⟩
    have HS := Lib.hid (HS.out.below hb)
    have SZ10 := Lib.hid (show w9.heap.size ≤ w10.heap.size from hb.size)
    have HB := Lib.hid (HB.out.trans (hb.mono HB.out.size))
    have HS := Lib.hid (HS.out.add (a := (.dat w9.heap.size w10.heap.size x_aBinds [vt7])) hfr.range)
    clear hb hfr
    go_wp2_with fail
    refine ((HEQ_aBinds.out _ _ _ (HS.out.dat (x := x_aBinds) (B := w3.heap.size) (C := w4.heap.size) (cs := [vt4]) (List.mem_cons_of_mem _ (List.mem_cons_of_mem _ (List.mem_cons_of_mem _ (List.mem_cons_of_mem _ (List.mem_cons_of_mem _ List.mem_cons_self)))))).rd (HS.out.dat (x := x_aBinds) (B := w9.heap.size) (C := w10.heap.size) (cs := [vt7]) List.mem_cons_self).rd)).mono ?_
    rintro e w11 ⟨rfl, hb⟩
    have HS := Lib.hid (HS.out.below hb)
    have SZ11 := Lib.hid (show w10.heap.size ≤ w11.heap.size from hb.size)
    have HB := Lib.hid (HB.out.trans (hb.mono HB.out.size))
    clear hb
    have hblk := HS.out.blk (g := w5.heap.size) (o := .cells #[t5_0, t5_1, t5_2, t5_3] 30 (0, 0)) (List.mem_cons_of_mem _ (List.mem_cons_of_mem _ (List.mem_cons_of_mem _ List.mem_cons_self)))
    have zbt5_0 := (blk_cell hblk 0).trans (rfl : _ = some t5_0)
    have zbt5_1 := (blk_cell hblk 1).trans (rfl : _ = some t5_1)
    have zbt5_2 := (blk_cell hblk 2).trans (rfl : _ = some t5_2)
    have zbt5_3 := (blk_cell hblk 3).trans (rfl : _ = some t5_3)
    clear hblk
    have hblk := HS.out.blk (g := w.heap.size) (o := .cells #[u_aT0, u_aT1, u_aT2, u_aT3] 24 (0, 0)) (List.mem_cons_of_mem _ (List.mem_cons_of_mem _ (List.mem_cons_of_mem _ (List.mem_cons_of_mem _ (List.mem_cons_of_mem _ (List.mem_cons_of_mem _ (List.mem_cons_of_mem _ (List.mem_cons_of_mem _ List.mem_cons_self))))))))
    have zaT_0 := (blk_cell hblk 0).trans (rfl : _ = some u_aT0)
    have zaT_1 := (blk_cell hblk 1).trans (rfl : _ = some u_aT1)
    have zaT_2 := (blk_cell hblk 2).trans (rfl : _ = some u_aT2)
    have zaT_3 := (blk_cell hblk 3).trans (rfl : _ = some u_aT3)
    clear hblk
    go_wp2_with fail
    go_region_held3 (fun w' => w'.cell? ⟨w5.heap.size, 0, none⟩ = some t5_0 ∧ w'.cell? ⟨w5.heap.size, 1, none⟩ = some t5_1 ∧ w'.cell? ⟨w5.heap.size, 2, none⟩ = some t5_2 ∧ w'.cell? ⟨w5.heap.size, 3, none⟩ = some t5_3 ∧ w'.cell? ⟨w.heap.size, 0, none⟩ = some u_aT0 ∧ w'.cell? ⟨w.heap.size, 1, none⟩ = some u_aT1 ∧ w'.cell? ⟨w.heap.size, 2, none⟩ = some u_aT2 ∧ w'.cell? ⟨w.heap.size, 3, none⟩ = some u_aT3)
      (first | exact ⟨zbt5_0, zbt5_1, zbt5_2, zbt5_3, zaT_0, zaT_1, zaT_2, zaT_3⟩ | exact ⟨by simpa using blk_cell (HS.out.blk (g := w5.heap.size) (o := .cells #[t5_0, t5_1, t5_2, t5_3] 30 (0, 0)) (by simp)) 0, by simpa using blk_cell (HS.out.blk (g := w5.heap.size) (o := .cells #[t5_0, t5_1, t5_2, t5_3] 30 (0, 0)) (by simp)) 1, by simpa using blk_cell (HS.out.blk (g := w5.heap.size) (o := .cells #[t5_0, t5_1, t5_2, t5_3] 30 (0, 0)) (by simp)) 2, by simpa using blk_cell (HS.out.blk (g := w5.heap.size) (o := .cells #[t5_0, t5_1, t5_2, t5_3] 30 (0, 0)) (by simp)) 3, by simpa using blk_cell (HS.out.blk (g := w.heap.size) (o := .cells #[u_aT0, u_aT1, u_aT2, u_aT3] 24 (0, 0)) (by simp)) 0, by simpa using blk_cell (HS.out.blk (g := w.heap.size) (o := .cells #[u_aT0, u_aT1, u_aT2, u_aT3] 24 (0, 0)) (by simp)) 1, by simpa using blk_cell (HS.out.blk (g := w.heap.size) (o := .cells #[u_aT0, u_aT1, u_aT2, u_aT3] 24 (0, 0)) (by simp)) 2, by simpa using blk_cell (HS.out.blk (g := w.heap.size) (o := .cells #[u_aT0, u_aT1, u_aT2, u_aT3] 24 (0, 0)) (by simp)) 3⟩ | exact ⟨by simpa using blk_cell (blk_old (HS.out.blk (g := w5.heap.size) (o := .cells #[t5_0, t5_1, t5_2, t5_3] 30 (0, 0)) (by simp)) _) 0, by simpa using blk_cell (blk_old (HS.out.blk (g := w5.heap.size) (o := .cells #[t5_0, t5_1, t5_2, t5_3] 30 (0, 0)) (by simp)) _) 1, by simpa using blk_cell (blk_old (HS.out.blk (g := w5.heap.size) (o := .cells #[t5_0, t5_1, t5_2, t5_3] 30 (0, 0)) (by simp)) _) 2, by simpa using blk_cell (blk_old (HS.out.blk (g := w5.heap.size) (o := .cells #[t5_0, t5_1, t5_2, t5_3] 30 (0, 0)) (by simp)) _) 3, by simpa using blk_cell (blk_old (HS.out.blk (g := w.heap.size) (o := .cells #[u_aT0, u_aT1, u_aT2, u_aT3] 24 (0, 0)) (by simp)) _) 0, by simpa using blk_cell (blk_old (HS.out.blk (g := w.heap.size) (o := .cells #[u_aT0, u_aT1, u_aT2, u_aT3] 24 (0, 0)) (by simp)) _) 1, by simpa using blk_cell (blk_old (HS.out.blk (g := w.heap.size) (o := .cells #[u_aT0, u_aT1, u_aT2, u_aT3] 24 (0, 0)) (by simp)) _) 2, by simpa using blk_cell (blk_old (HS.out.blk (g := w.heap.size) (o := .cells #[u_aT0, u_aT1, u_aT2, u_aT3] 24 (0, 0)) (by simp)) _) 3⟩)
      (first
        | (go_at_call 14; have HB := Lib.hid HB.out.drew; have HS := Lib.hid HS.out.drew; have CT := (HTO_aT.out _ _ (RI_aT.out.below HB.out)); (with_reducible refine CT.mono ?_); clear CT; rintro e w12 ⟨cs, rfl, hfr, hb⟩; obtain ⟨t8_0, t8_1, t8_2, t8_3, rfl⟩ := cells4 (hfr.len.trans hn_aT); have HS := Lib.hid (HS.out.below hb); have SZ12 := Lib.hid (show w11.heap.size ≤ w12.heap.size from hb.size); have HB := Lib.hid (HB.out.trans (hb.mono HB.out.size)); have HS := Lib.hid (HS.out.add (a := (.dat w11.heap.size w12.heap.size x_aT [t8_0, t8_1, t8_2, t8_3])) hfr.range); have ONEt8 := Lib.hid hfr.all; clear hb hfr)
        | (go_at_call 17; have CT := (HEQ_aT.out _ _ _ (HS.out.dat (x := x_aT) (B := w4.heap.size) (C := w5.heap.size) (cs := [t5_0, t5_1, t5_2, t5_3]) (List.mem_cons_of_mem _ (List.mem_cons_of_mem _ (List.mem_cons_of_mem _ (List.mem_cons_of_mem _ (List.mem_cons_of_mem _ List.mem_cons_self)))))).rd (HS.out.dat (x := x_aT) (B := w11.heap.size) (C := w12.heap.size) (cs := [t8_0, t8_1, t8_2, t8_3]) List.mem_cons_self).rd); (with_reducible refine CT.mono ?_); clear CT; rintro e w13 ⟨rfl, hb⟩; have HS := Lib.hid (HS.out.below hb); have SZ13 := Lib.hid (show w12.heap.size ≤ w13.heap.size from hb.size); have HB := Lib.hid (HB.out.trans (hb.mono HB.out.size)); clear hb))
    clear zbt5_0 zbt5_1 zbt5_2 zbt5_3 zaT_0 zaT_1 zaT_2 zaT_3
    go_wp2_with fail
    have sSZ0 := SZ0.out
    have sSZ1 := SZ1.out
    have sSZ2 := SZ2.out
    have sSZ3 := SZ3.out
    have sSZ4 := SZ4.out
    have sSZ5 := SZ5.out
    have sSZ6 := SZ6.out
    have sSZ7 := SZ7.out
    have sSZ8 := SZ8.out
    have sSZ9 := SZ9.out
    have sSZ10 := SZ10.out
    have sSZ11 := SZ11.out
    have sSZ12 := SZ12.out
    have sSZ13 := SZ13.out
    have hcn := HMK_aBinds.out.1
    refine (HMK_aBinds.out.2.one (HS.out.dat (x := x_aBinds) (B := w3.heap.size) (C := w4.heap.size) (cs := [vt4]) (List.mem_cons_of_mem _ (List.mem_cons_of_mem _ (List.mem_cons_of_mem _ (List.mem_cons_of_mem _ (List.mem_cons_of_mem _ (List.mem_cons_of_mem _ List.mem_cons_self))))))) (by omega)).mono ?_
    rintro e w14 ⟨n1, hn1, rfl, hf, ht⟩
    have HS := Lib.hid (Has.touch (Has.mid (l1 := [(.dat w11.heap.size w12.heap.size x_aT [t8_0, t8_1, t8_2, t8_3]), (.dat w9.heap.size w10.heap.size x_aBinds [vt7]), (.blk (w7.heap.size) (.cells #[q6_0, q6_1, q6_2, q6_3] 30 (0, 0))), (.dat w6.heap.size w7.heap.size r [q6_0, q6_1, q6_2, q6_3]), (.blk (w5.heap.size) (.cells #[t5_0, t5_1, t5_2, t5_3] 30 (0, 0))), (.dat w4.heap.size w5.heap.size x_aT [t5_0, t5_1, t5_2, t5_3])]) (l2 := [(.blk (g8) (.cells #[q3_0, q3_1, q3_2, q3_3] 30 (0, 0))), (.dat B8 C8 r [q3_0, q3_1, q3_2, q3_3]), (.blk (w.heap.size) (.cells #[u_aT0, u_aT1, u_aT2, u_aT3] 24 (0, 0)))]) HS.out) ht (ap_cons (show _ ∨ _ by omega) (ap_cons (show _ ∨ _ by omega) (ap_cons (show _ ∨ _ by omega) (ap_cons (show _ ∨ _ by omega) (ap_cons (show _ ∨ _ by omega) (ap_cons (show _ ∨ _ by omega) (ap_cons (show _ ∨ _ by omega) (ap_cons (show _ ∨ _ by omega) (ap_cons (show _ ∨ _ by omega) (ap_nil)))))))))))
    have SZ14 := Lib.hid (show w13.heap.size ≤ w14.heap.size from ht.size)
    have HS := Lib.hid (HS.out.add (a := (.dat w3.heap.size w4.heap.size (x_aBinds.top 1) [vt4])) hf)
    have HB := Lib.hid (ht.below HB.out (by omega) HB.out.size)
    have NNn1 : Hid (n1 = 1 + x_aBinds.tcnt ∧ n1 ≤ 1099511627777) := ⟨hn1, by omega⟩
    clear hf ht hn1 hcn sSZ0 sSZ1 sSZ2 sSZ3 sSZ4 sSZ5 sSZ6 sSZ7 sSZ8 sSZ9 sSZ10 sSZ11 sSZ12 sSZ13
    have hng : decide ((n1 : Int) < 0) = false := decide_eq_false (by omega)
    have hblk := HS.out.blk (g := w5.heap.size) (o := .cells #[t5_0, t5_1, t5_2, t5_3] 30 (0, 0)) (List.mem_cons_of_mem _ (List.mem_cons_of_mem _ (List.mem_cons_of_mem _ (List.mem_cons_of_mem _ (List.mem_cons_of_mem _ List.mem_cons_self)))))
    have zbt5_0 := (blk_cell hblk 0).trans (rfl : _ = some t5_0)
    have zbt5_1 := (blk_cell hblk 1).trans (rfl : _ = some t5_1)
    have zbt5_2 := (blk_cell hblk 2).trans (rfl : _ = some t5_2)
    have zbt5_3 := (blk_cell hblk 3).trans (rfl : _ = some t5_3)
    clear hblk
    go_wp2_with fail
    have sSZ0 := SZ0.out
    have sSZ1 := SZ1.out
    have sSZ2 := SZ2.out
    have sSZ3 := SZ3.out
    have sSZ4 := SZ4.out
    have sSZ5 := SZ5.out
    have sSZ6 := SZ6.out
    have sSZ7 := SZ7.out
    have sSZ8 := SZ8.out
    have sSZ9 := SZ9.out
    have sSZ10 := SZ10.out
    have sSZ11 := SZ11.out
    have sSZ12 := SZ12.out
    have sSZ13 := SZ13.out
    have sSZ14 := SZ14.out
    have hcn := HMK_aT.out.1
    have hk0 := NNn1.out
    refine (HMK_aT.out.2.at_ (k := n1) (HS.out.dat (x := x_aT) (B := w4.heap.size) (C := w5.heap.size) (cs := [t5_0, t5_1, t5_2, t5_3]) (List.mem_cons_of_mem _ (List.mem_cons_of_mem _ (List.mem_cons_of_mem _ (List.mem_cons_of_mem _ (List.mem_cons_of_mem _ (List.mem_cons_of_mem _ List.mem_cons_self))))))) (by omega)).mono ?_
    rintro e w15 ⟨n2, hn2, rfl, hf, ht⟩
    have HS := Lib.hid (Has.touch (Has.mid (l1 := [(.dat w3.heap.size w4.heap.size (x_aBinds.top 1) [vt4]), (.dat w11.heap.size w12.heap.size x_aT [t8_0, t8_1, t8_2, t8_3]), (.dat w9.heap.size w10.heap.size x_aBinds [vt7]), (.blk (w7.heap.size) (.cells #[q6_0, q6_1, q6_2, q6_3] 30 (0, 0))), (.dat w6.heap.size w7.heap.size r [q6_0, q6_1, q6_2, q6_3]), (.blk (w5.heap.size) (.cells #[t5_0, t5_1, t5_2, t5_3] 30 (0, 0)))]) (l2 := [(.blk (g8) (.cells #[q3_0, q3_1, q3_2, q3_3] 30 (0, 0))), (.dat B8 C8 r [q3_0, q3_1, q3_2, q3_3]), (.blk (w.heap.size) (.cells #[u_aT0, u_aT1, u_aT2, u_aT3] 24 (0, 0)))]) HS.out) ht (ap_cons (show _ ∨ _ by omega) (ap_cons (show _ ∨ _ by omega) (ap_cons (show _ ∨ _ by omega) (ap_cons (show _ ∨ _ by omega) (ap_cons (show _ ∨ _ by omega) (ap_cons (show _ ∨ _ by omega) (ap_cons (show _ ∨ _ by omega) (ap_cons (show _ ∨ _ by omega) (ap_cons (show _ ∨ _ by omega) (ap_nil)))))))))))
    have SZ15 := Lib.hid (show w14.heap.size ≤ w15.heap.size from ht.size)
    have HS := Lib.hid (HS.out.add (a := (.dat w4.heap.size w5.heap.size (x_aT.top n1) [t5_0, t5_1, t5_2, t5_3])) hf)
    have HB := Lib.hid (ht.below HB.out (by omega) HB.out.size)
    have NNn2 : Hid (n2 = n1 + x_aT.tcnt ∧ n2 ≤ 2199023255553) := ⟨hn2, by omega⟩
    clear hf ht hn2 hcn hk0 sSZ0 sSZ1 sSZ2 sSZ3 sSZ4 sSZ5 sSZ6 sSZ7 sSZ8 sSZ9 sSZ10 sSZ11 sSZ12 sSZ13 sSZ14
    have hng : decide ((n2 : Int) < 0) = false := decide_eq_false (by omega)
    clear zbt5_0 zbt5_1 zbt5_2 zbt5_3
    have hblk := HS.out.blk (g := w7.heap.size) (o := .cells #[q6_0, q6_1, q6_2, q6_3] 30 (0, 0)) (List.mem_cons_of_mem _ (List.mem_cons_of_mem _ (List.mem_cons_of_mem _ (List.mem_cons_of_mem _ List.mem_cons_self))))
    have zbq6_0 := (blk_cell hblk 0).trans (rfl : _ = some q6_0)
    have zbq6_1 := (blk_cell hblk 1).trans (rfl : _ = some q6_1)
    have zbq6_2 := (blk_cell hblk 2).trans (rfl : _ = some q6_2)
    have zbq6_3 := (blk_cell hblk 3).trans (rfl : _ = some q6_3)
    clear hblk
    have hblk := HS.out.blk (g := g8) (o := .cells #[q3_0, q3_1, q3_2, q3_3] 30 (0, 0)) (List.mem_cons_of_mem _ (List.mem_cons_of_mem _ (List.mem_cons_of_mem _ (List.mem_cons_of_mem _ (List.mem_cons_of_mem _ (List.mem_cons_of_mem _ (List.mem_cons_of_mem _ List.mem_cons_self)))))))
    have zbq3_0 := (blk_cell hblk 0).trans (rfl : _ = some q3_0)
    have zbq3_1 := (blk_cell hblk 1).trans (rfl : _ = some q3_1)
    have zbq3_2 := (blk_cell hblk 2).trans (rfl : _ = some q3_2)
    have zbq3_3 := (blk_cell hblk 3).trans (rfl : _ = some q3_3)
    clear hblk
    go_wp2_with fail
    refine ((HEQ_r.out _ _ _ (HS.out.dat (x := r) (B := w6.heap.size) (C := w7.heap.size) (cs := [q6_0, q6_1, q6_2, q6_3]) (List.mem_cons_of_mem _ (List.mem_cons_of_mem _ (List.mem_cons_of_mem _ (List.mem_cons_of_mem _ (List.mem_cons_of_mem _ List.mem_cons_self)))))).rd (HS.out.dat (x := r) (B := B8) (C := C8) (cs := [q3_0, q3_1, q3_2, q3_3]) (List.mem_cons_of_mem _ (List.mem_cons_of_mem _ (List.mem_cons_of_mem _ (List.mem_cons_of_mem _ (List.mem_cons_of_mem _ (List.mem_cons_of_mem _ (List.mem_cons_of_mem _ (List.mem_cons_of_mem _ List.mem_cons_self))))))))).rd)).mono ?_
    rintro e w16 ⟨rfl, hb⟩
    have HS := Lib.hid (HS.out.below hb)
    have SZ16 := Lib.hid (show w15.heap.size ≤ w16.heap.size from hb.size)
    have HB := Lib.hid (HB.out.trans (hb.mono HB.out.size))
    clear hb
    clear zbq6_0 zbq6_1 zbq6_2 zbq6_3 zbq3_0 zbq3_1 zbq3_2 zbq3_3
    have hblk := HS.out.blk (g := w7.heap.size) (o := .cells #[q6_0, q6_1, q6_2, q6_3] 30 (0, 0)) (List.mem_cons_of_mem _ (List.mem_cons_of_mem _ (List.mem_cons_of_mem _ (List.mem_cons_of_mem _ List.mem_cons_self))))
    have zbq6_0 := (blk_cell hblk 0).trans (rfl : _ = some q6_0)
    have zbq6_1 := (blk_cell hblk 1).trans (rfl : _ = some q6_1)
    have zbq6_2 := (blk_cell hblk 2).trans (rfl : _ = some q6_2)
    have zbq6_3 := (blk_cell hblk 3).trans (rfl : _ = some q6_3)
    clear hblk
    go_wp2_with fail
    have sSZ0 := SZ0.out
    have sSZ1 := SZ1.out
    have sSZ2 := SZ2.out
    have sSZ3 := SZ3.out
    have sSZ4 := SZ4.out
    have sSZ5 := SZ5.out
    have sSZ6 := SZ6.out
    have sSZ7 := SZ7.out
    have sSZ8 := SZ8.out
    have sSZ9 := SZ9.out
    have sSZ10 := SZ10.out
    have sSZ11 := SZ11.out
    have sSZ12 := SZ12.out
    have sSZ13 := SZ13.out
    have sSZ14 := SZ14.out
    have sSZ15 := SZ15.out
    have sSZ16 := SZ16.out
    have hcn := HMK_r.out.1
    refine (HMK_r.out.2.1.one (HS.out.dat (x := r) (B := w6.heap.size) (C := w7.heap.size) (cs := [q6_0, q6_1, q6_2, q6_3]) (List.mem_cons_of_mem _ (List.mem_cons_of_mem _ (List.mem_cons_of_mem _ (List.mem_cons_of_mem _ (List.mem_cons_of_mem _ List.mem_cons_self)))))) (by omega)).mono ?_
    rintro e w17 ⟨n3, hn3, rfl, hf, ht⟩
    have HS := Lib.hid (Has.touch (Has.mid (l1 := [(.dat w4.heap.size w5.heap.size (x_aT.top n1) [t5_0, t5_1, t5_2, t5_3]), (.dat w3.heap.size w4.heap.size (x_aBinds.top 1) [vt4]), (.dat w11.heap.size w12.heap.size x_aT [t8_0, t8_1, t8_2, t8_3]), (.dat w9.heap.size w10.heap.size x_aBinds [vt7]), (.blk (w7.heap.size) (.cells #[q6_0, q6_1, q6_2, q6_3] 30 (0, 0)))]) (l2 := [(.blk (w5.heap.size) (.cells #[t5_0, t5_1, t5_2, t5_3] 30 (0, 0))), (.blk (g8) (.cells #[q3_0, q3_1, q3_2, q3_3] 30 (0, 0))), (.dat B8 C8 r [q3_0, q3_1, q3_2, q3_3]), (.blk (w.heap.size) (.cells #[u_aT0, u_aT1, u_aT2, u_aT3] 24 (0, 0)))]) HS.out) ht (ap_cons (show _ ∨ _ by omega) (ap_cons (show _ ∨ _ by omega) (ap_cons (show _ ∨ _ by omega) (ap_cons (show _ ∨ _ by omega) (ap_cons (show _ ∨ _ by omega) (ap_cons (show _ ∨ _ by omega) (ap_cons (show _ ∨ _ by omega) (ap_cons (show _ ∨ _ by omega) (ap_cons (show _ ∨ _ by omega) (ap_nil)))))))))))
    have SZ17 := Lib.hid (show w16.heap.size ≤ w17.heap.size from ht.size)
    have HS := Lib.hid (HS.out.add (a := (.dat w6.heap.size w7.heap.size (r.top 1) [q6_0, q6_1, q6_2, q6_3])) hf)
    have HB := Lib.hid (ht.below HB.out (by omega) HB.out.size)
    have NNn3 : Hid (n3 = 1 + r.tcnt ∧ n3 ≤ 1099511627777) := ⟨hn3, by omega⟩
    clear hf ht hn3 hcn sSZ0 sSZ1 sSZ2 sSZ3 sSZ4 sSZ5 sSZ6 sSZ7 sSZ8 sSZ9 sSZ10 sSZ11 sSZ12 sSZ13 sSZ14 sSZ15 sSZ16
    have hng : decide ((n3 : Int) < 0) = false := decide_eq_false (by omega)
    clear zbq6_0 zbq6_1 zbq6_2 zbq6_3
    have hblk := HS.out.blk (g := w7.heap.size) (o := .cells #[q6_0, q6_1, q6_2, q6_3] 30 (0, 0)) (List.mem_cons_of_mem _ (List.mem_cons_of_mem _ (List.mem_cons_of_mem _ (List.mem_cons_of_mem _ (List.mem_cons_of_mem _ List.mem_cons_self)))))
    have zbq6_0 := (blk_cell hblk 0).trans (rfl : _ = some q6_0)
    have zbq6_1 := (blk_cell hblk 1).trans (rfl : _ = some q6_1)
    have zbq6_2 := (blk_cell hblk 2).trans (rfl : _ = some q6_2)
    have zbq6_3 := (blk_cell hblk 3).trans (rfl : _ = some q6_3)
    clear hblk
    go_wp2_with fail
    have sSZ0 := SZ0.out
    have sSZ1 := SZ1.out
    have sSZ2 := SZ2.out
    have sSZ3 := SZ3.out
    have sSZ4 := SZ4.out
    have sSZ5 := SZ5.out
    have sSZ6 := SZ6.out
    have sSZ7 := SZ7.out
    have sSZ8 := SZ8.out
    have sSZ9 := SZ9.out
    have sSZ10 := SZ10.out
    have sSZ11 := SZ11.out
    have sSZ12 := SZ12.out
    have sSZ13 := SZ13.out
    have sSZ14 := SZ14.out
    have sSZ15 := SZ15.out
    have sSZ16 := SZ16.out
    have sSZ17 := SZ17.out
    have hcn := HMK_r.out.1
    refine (HMK_r.out.2.2.one (HS.out.dat (x := (r.top 1)) (B := w6.heap.size) (C := w7.heap.size) (cs := [q6_0, q6_1, q6_2, q6_3]) List.mem_cons_self).rd (by omega)).mono ?_
    rintro e w18 ⟨n4, hn4, rfl, hb⟩
    have HS := Lib.hid (HS.out.below hb)
    have SZ18 := Lib.hid (show w17.heap.size ≤ w18.heap.size from hb.size)
    have HB := Lib.hid (HB.out.trans (hb.mono HB.out.size))
    have NNn4 : Hid (n4 = 1 + r.tcnt ∧ n4 ≤ 1099511627777) := ⟨hn4, by omega⟩
    clear hb hn4 hcn sSZ0 sSZ1 sSZ2 sSZ3 sSZ4 sSZ5 sSZ6 sSZ7 sSZ8 sSZ9 sSZ10 sSZ11 sSZ12 sSZ13 sSZ14 sSZ15 sSZ16 sSZ17
    obtain rfl : n3 = n4 := by have h1 := NNn4.out; have h2 := NNn3.out; omega
    have hng : decide ((n3 : Int) < 0) = false := decide_eq_false (by omega)
    clear zbq6_0 zbq6_1 zbq6_2 zbq6_3
    have hblk := HS.out.blk (g := w.heap.size) (o := .cells #[u_aT0, u_aT1, u_aT2, u_aT3] 24 (0, 0)) (List.mem_cons_of_mem _ (List.mem_cons_of_mem _ (List.mem_cons_of_mem _ (List.mem_cons_of_mem _ (List.mem_cons_of_mem _ (List.mem_cons_of_mem _ (List.mem_cons_of_mem _ (List.mem_cons_of_mem _ (List.mem_cons_of_mem _ List.mem_cons_self)))))))))
    have zaT_0 := (blk_cell hblk 0).trans (rfl : _ = some u_aT0)
    have zaT_1 := (blk_cell hblk 1).trans (rfl : _ = some u_aT1)
    have zaT_2 := (blk_cell hblk 2).trans (rfl : _ = some u_aT2)
    have zaT_3 := (blk_cell hblk 3).trans (rfl : _ = some u_aT3)
    clear hblk
    go_upto_region 31 with fail
    go_cut [13] from 19 (fun v wx => BoxR 30 w18.heap.size r [(.dat w6.heap.size w7.heap.size (r.top 1) [q6_0, q6_1, q6_2, q6_3]), (.dat w4.heap.size w5.heap.size (x_aT.top n1) [t5_0, t5_1, t5_2, t5_3]), (.dat w3.heap.size w4.heap.size (x_aBinds.top 1) [vt4]), (.dat w11.heap.size w12.heap.size x_aT [t8_0, t8_1, t8_2, t8_3]), (.dat w9.heap.size w10.heap.size x_aBinds [vt7]), (.blk (w7.heap.size) (.cells #[q6_0, q6_1, q6_2, q6_3] 30 (0, 0))), (.blk (w5.heap.size) (.cells #[t5_0, t5_1, t5_2, t5_3] 30 (0, 0))), (.blk (g8) (.cells #[q3_0, q3_1, q3_2, q3_3] 30 (0, 0))), (.dat B8 C8 r [q3_0, q3_1, q3_2, q3_3]), (.blk (w.heap.size) (.cells #[u_aT0, u_aT1, u_aT2, u_aT3] 24 (0, 0)))] w v wx)
    case first =>
      have hblk := HS.out.blk (g := w.heap.size) (o := .cells #[u_aT0, u_aT1, u_aT2, u_aT3] 24 (0, 0)) (List.mem_cons_of_mem _ (List.mem_cons_of_mem _ (List.mem_cons_of_mem _ (List.mem_cons_of_mem _ (List.mem_cons_of_mem _ (List.mem_cons_of_mem _ (List.mem_cons_of_mem _ (List.mem_cons_of_mem _ (List.mem_cons_of_mem _ List.mem_cons_self)))))))))
      have yaT_0 := (blk_cell hblk 0).trans (rfl : _ = some u_aT0)
      have yaT_1 := (blk_cell hblk 1).trans (rfl : _ = some u_aT1)
      have yaT_2 := (blk_cell hblk 2).trans (rfl : _ = some u_aT2)
      have yaT_3 := (blk_cell hblk 3).trans (rfl : _ = some u_aT3)
      have vaT_0 := fun o => (blk_cell (blk_old hblk o) 0).trans (rfl : _ = some u_aT0)
      have vaT_1 := fun o => (blk_cell (blk_old hblk o) 1).trans (rfl : _ = some u_aT1)
      have vaT_2 := fun o => (blk_cell (blk_old hblk o) 2).trans (rfl : _ = some u_aT2)
      have vaT_3 := fun o => (blk_cell (blk_old hblk o) 3).trans (rfl : _ = some u_aT3)
      clear hblk
      go_region_held3 (fun w' => w'.cell? ⟨w.heap.size, 0, none⟩ = some u_aT0 ∧ w'.cell? ⟨w.heap.size, 1, none⟩ = some u_aT1 ∧ w'.cell? ⟨w.heap.size, 2, none⟩ = some u_aT2 ∧ w'.cell? ⟨w.heap.size, 3, none⟩ = some u_aT3)
        (first | (with_reducible exact ⟨bs1_FnExactApply (bs1_FnExactApply (bs1_FnExactApply (bs1_FnExactApply (yaT_0) hneaT) hneaT) hneaT) hneaT, bs1_FnExactApply (bs1_FnExactApply (bs1_FnExactApply (bs1_FnExactApply (yaT_1) hneaT) hneaT) hneaT) hneaT, bs1_FnExactApply (bs1_FnExactApply (bs1_FnExactApply (bs1_FnExactApply (yaT_2) hneaT) hneaT) hneaT) hneaT, bs1_FnExactApply (bs1_FnExactApply (bs1_FnExactApply (bs1_FnExactApply (yaT_3) hneaT) hneaT) hneaT) hneaT⟩) | exact ⟨yaT_0, yaT_1, yaT_2, yaT_3⟩ | exact ⟨vaT_0 _, vaT_1 _, vaT_2 _, vaT_3 _⟩)
        (first
          | (go_at_call 33; have HB := Lib.hid HB.out.drew; have HS := Lib.hid HS.out.drew; have CT := (HTO_aBinds.out _ _ (RI_aBinds.out.below HB.out)); (with_reducible refine CT.mono ?_); clear CT; rintro e w19 ⟨vt9, rfl, hfr, hb⟩; have HS := Lib.hid (HS.out.below hb); have SZ19 := Lib.hid (show w18.heap.size ≤ w19.heap.size from hb.size); have HB := Lib.hid (HB.out.trans (hb.mono HB.out.size)); have HS := Lib.hid (HS.out.add (a := (.dat w18.heap.size w19.heap.size x_aBinds [vt9])) hfr.range); (try (have HZ := Lib.hid (blk_below HZ.out hb))); clear hb hfr; have hblk := HS.out.blk (g := w.heap.size) (o := .cells #[u_aT0, u_aT1, u_aT2, u_aT3] 24 (0, 0)) (List.mem_cons_of_mem _ (List.mem_cons_of_mem _ (List.mem_cons_of_mem _ (List.mem_cons_of_mem _ (List.mem_cons_of_mem _ (List.mem_cons_of_mem _ (List.mem_cons_of_mem _ (List.mem_cons_of_mem _ (List.mem_cons_of_mem _ (List.mem_cons_of_mem _ List.mem_cons_self)))))))))); have yaT_0 := (blk_cell hblk 0).trans (rfl : _ = some u_aT0); have yaT_1 := (blk_cell hblk 1).trans (rfl : _ = some u_aT1); have yaT_2 := (blk_cell hblk 2).trans (rfl : _ = some u_aT2); have yaT_3 := (blk_cell hblk 3).trans (rfl : _ = some u_aT3); have vaT_0 := fun o => (blk_cell (blk_old hblk o) 0).trans (rfl : _ = some u_aT0); have vaT_1 := fun o => (blk_cell (blk_old hblk o) 1).trans (rfl : _ = some u_aT1); have vaT_2 := fun o => (blk_cell (blk_old hblk o) 2).trans (rfl : _ = some u_aT2); have vaT_3 := fun o => (blk_cell (blk_old hblk o) 3).trans (rfl : _ = some u_aT3); clear hblk)
          | (go_at_call 33; have hal := (Below.refl w18.heap.size w18).alloc (Nat.le_refl _) (.cells #[.int .i64 0, .int .i64 0, .string ⟨#[]⟩, .slice none 0 0] 30); have HS := Lib.hid (HS.out.below hal); have HB := Lib.hid (HB.out.trans (hal.mono HB.out.size)); have HZ := Lib.hid (blk_new w18 (.cells #[.int .i64 0, .int .i64 0, .string ⟨#[]⟩, .slice none 0 0] 30)); have hsz0 := alloc_sz w18 (.cells #[.int .i64 0, .int .i64 0, .string ⟨#[]⟩, .slice none 0 0] 30); clear hal; have HB := Lib.hid HB.out.drew; have HS := Lib.hid HS.out.drew; have HZ := Lib.hid (blk_drew HZ.out); have CT := (HTO_aBinds.out _ _ (RI_aBinds.out.below HB.out)); (with_reducible refine CT.mono ?_); clear CT; rintro e w19 ⟨vt9, rfl, hfr, hb⟩; have HS := Lib.hid (HS.out.below hb); have SZ19 := Lib.hid (show w18.heap.size + 1 ≤ w19.heap.size from lt_of_alloc hb.size); have HB := Lib.hid (HB.out.trans (hb.mono HB.out.size)); have HS := Lib.hid (HS.out.add (a := (.dat w18.heap.size w19.heap.size x_aBinds [vt9])) (FrR.lower hfr.range (alloc_le w18 _))); (try (have HZ := Lib.hid (blk_below HZ.out hb))); clear hb hfr; have hblk := HS.out.blk (g := w.heap.size) (o := .cells #[u_aT0, u_aT1, u_aT2, u_aT3] 24 (0, 0)) (List.mem_cons_of_mem _ (List.mem_cons_of_mem _ (List.mem_cons_of_mem _ (List.mem_cons_of_mem _ (List.mem_cons_of_mem _ (List.mem_cons_of_mem _ (List.mem_cons_of_mem _ (List.mem_cons_of_mem _ (List.mem_cons_of_mem _ (List.mem_cons_of_mem _ List.mem_cons_self)))))))))); have yaT_0 := (blk_cell hblk 0).trans (rfl : _ = some u_aT0); have yaT_1 := (blk_cell hblk 1).trans (rfl : _ = some u_aT1); have yaT_2 := (blk_cell hblk 2).trans (rfl : _ = some u_aT2); have yaT_3 := (blk_cell hblk 3).trans (rfl : _ = some u_aT3); have vaT_0 := fun o => (blk_cell (blk_old hblk o) 0).trans (rfl : _ = some u_aT0); have vaT_1 := fun o => (blk_cell (blk_old hblk o) 1).trans (rfl : _ = some u_aT1); have vaT_2 := fun o => (blk_cell (blk_old hblk o) 2).trans (rfl : _ = some u_aT2); have vaT_3 := fun o => (blk_cell (blk_old hblk o) 3).trans (rfl : _ = some u_aT3); clear hblk)
          | (go_at_call 14; have CT := (HTO_aT.out _ _ (RI_aT.out.below HB.out)); (with_reducible refine CT.mono ?_); clear CT; rintro e w20 ⟨cs, rfl, hfr, hb⟩; obtain ⟨t10_0, t10_1, t10_2, t10_3, rfl⟩ := cells4 (hfr.len.trans hn_aT); have HS := Lib.hid (HS.out.below hb); have SZ20 := Lib.hid (show w19.heap.size ≤ w20.heap.size from hb.size); have HB := Lib.hid (HB.out.trans (hb.mono HB.out.size)); have HS := Lib.hid (HS.out.add (a := (.dat w19.heap.size w20.heap.size x_aT [t10_0, t10_1, t10_2, t10_3])) hfr.range); (try (have HZ := Lib.hid (blk_below HZ.out hb))); clear hb hfr; have hblk := HS.out.blk (g := w.heap.size) (o := .cells #[u_aT0, u_aT1, u_aT2, u_aT3] 24 (0, 0)) (List.mem_cons_of_mem _ (List.mem_cons_of_mem _ (List.mem_cons_of_mem _ (List.mem_cons_of_mem _ (List.mem_cons_of_mem _ (List.mem_cons_of_mem _ (List.mem_cons_of_mem _ (List.mem_cons_of_mem _ (List.mem_cons_of_mem _ (List.mem_cons_of_mem _ (List.mem_cons_of_mem _ List.mem_cons_self))))))))))); have yaT_0 := (blk_cell hblk 0).trans (rfl : _ = some u_aT0); have yaT_1 := (blk_cell hblk 1).trans (rfl : _ = some u_aT1); have yaT_2 := (blk_cell hblk 2).trans (rfl : _ = some u_aT2); have yaT_3 := (blk_cell hblk 3).trans (rfl : _ = some u_aT3); have vaT_0 := fun o => (blk_cell (blk_old hblk o) 0).trans (rfl : _ = some u_aT0); have vaT_1 := fun o => (blk_cell (blk_old hblk o) 1).trans (rfl : _ = some u_aT1); have vaT_2 := fun o => (blk_cell (blk_old hblk o) 2).trans (rfl : _ = some u_aT2); have vaT_3 := fun o => (blk_cell (blk_old hblk o) 3).trans (rfl : _ = some u_aT3); clear hblk)
          | (go_at_call 14; have hal := (Below.refl w19.heap.size w19).alloc (Nat.le_refl _) (.cells #[.int .i64 0, .int .i64 0, .string ⟨#[]⟩, .slice none 0 0] 30); have HS := Lib.hid (HS.out.below hal); have HB := Lib.hid (HB.out.trans (hal.mono HB.out.size)); have HZ := Lib.hid (blk_new w19 (.cells #[.int .i64 0, .int .i64 0, .string ⟨#[]⟩, .slice none 0 0] 30)); have hsz1 := alloc_sz w19 (.cells #[.int .i64 0, .int .i64 0, .string ⟨#[]⟩, .slice none 0 0] 30); clear hal; have CT := (HTO_aT.out _ _ (RI_aT.out.below HB.out)); (with_reducible refine CT.mono ?_); clear CT; rintro e w20 ⟨cs, rfl, hfr, hb⟩; obtain ⟨t10_0, t10_1, t10_2, t10_3, rfl⟩ := cells4 (hfr.len.trans hn_aT); have HS := Lib.hid (HS.out.below hb); have SZ20 := Lib.hid (show w19.heap.size + 1 ≤ w20.heap.size from lt_of_alloc hb.size); have HB := Lib.hid (HB.out.trans (hb.mono HB.out.size)); have HS := Lib.hid (HS.out.add (a := (.dat w19.heap.size w20.heap.size x_aT [t10_0, t10_1, t10_2, t10_3])) (FrR.lower hfr.range (alloc_le w19 _))); (try (have HZ := Lib.hid (blk_below HZ.out hb))); clear hb hfr; have hblk := HS.out.blk (g := w.heap.size) (o := .cells #[u_aT0, u_aT1, u_aT2, u_aT3] 24 (0, 0)) (List.mem_cons_of_mem _ (List.mem_cons_of_mem _ (List.mem_cons_of_mem _ (List.mem_cons_of_mem _ (List.mem_cons_of_mem _ (List.mem_cons_of_mem _ (List.mem_cons_of_mem _ (List.mem_cons_of_mem _ (List.mem_cons_of_mem _ (List.mem_cons_of_mem _ (List.mem_cons_of_mem _ List.mem_cons_self))))))))))); have yaT_0 := (blk_cell hblk 0).trans (rfl : _ = some u_aT0); have yaT_1 := (blk_cell hblk 1).trans (rfl : _ = some u_aT1); have yaT_2 := (blk_cell hblk 2).trans (rfl : _ = some u_aT2); have yaT_3 := (blk_cell hblk 3).trans (rfl : _ = some u_aT3); have vaT_0 := fun o => (blk_cell (blk_old hblk o) 0).trans (rfl : _ = some u_aT0); have vaT_1 := fun o => (blk_cell (blk_old hblk o) 1).trans (rfl : _ = some u_aT1); have vaT_2 := fun o => (blk_cell (blk_old hblk o) 2).trans (rfl : _ = some u_aT2); have vaT_3 := fun o => (blk_cell (blk_old hblk o) 3).trans (rfl : _ = some u_aT3); clear hblk)
          | (go_at_call 34; have CT := (HIM.out _ _ _ (HS.out.dat (x := x_aBinds) (B := w18.heap.size) (C := w19.heap.size) (cs := [vt9]) (List.mem_cons_of_mem _ List.mem_cons_self)).rd (HS.out.dat (x := x_aT) (B := w19.heap.size) (C := w20.heap.size) (cs := [t10_0, t10_1, t10_2, t10_3]) List.mem_cons_self).rd); (with_reducible refine CT.mono ?_); clear CT; rintro e w21 ⟨cs, rfl, hfr, hb⟩; obtain ⟨q11_0, q11_1, q11_2, q11_3, rfl⟩ := cells4 (hfr.len.trans hn_r); have st0 := run_store_one (P := Try.prog) (hfr.one q11_0 (by simp)); have st1 := run_store_one (P := Try.prog) (hfr.one q11_1 (by simp)); have st2 := run_store_one (P := Try.prog) (hfr.one q11_2 (by simp)); have st3 := run_store_one (P := Try.prog) (hfr.one q11_3 (by simp)); have HS := Lib.hid (HS.out.below hb); have SZ21 := Lib.hid (show w20.heap.size ≤ w21.heap.size from hb.size); have HB := Lib.hid (HB.out.trans (hb.mono HB.out.size)); have HQ := Lib.hid hfr.range; (try (have HZ := Lib.hid (blk_below HZ.out hb); have x0 := (blk_cell HZ.out 0).trans (rfl : (_ : Option Value) = some (.int .i64 0)); have f0 := blk_frozen HZ.out 0; have x1 := (blk_cell HZ.out 1).trans (rfl : (_ : Option Value) = some (.int .i64 0)); have f1 := blk_frozen HZ.out 1; have x2 := (blk_cell HZ.out 2).trans (rfl : (_ : Option Value) = some (.string ⟨#[]⟩)); have f2 := blk_frozen HZ.out 2; have x3 := (blk_cell HZ.out 3).trans (rfl : (_ : Option Value) = some (.slice none 0 0)); have f3 := blk_frozen HZ.out 3; have hblk := HS.out.blk (g := w.heap.size) (o := .cells #[u_aT0, u_aT1, u_aT2, u_aT3] 24 (0, 0)) (List.mem_cons_of_mem _ (List.mem_cons_of_mem _ (List.mem_cons_of_mem _ (List.mem_cons_of_mem _ (List.mem_cons_of_mem _ (List.mem_cons_of_mem _ (List.mem_cons_of_mem _ (List.mem_cons_of_mem _ (List.mem_cons_of_mem _ (List.mem_cons_of_mem _ (List.mem_cons_of_mem _ List.mem_cons_self))))))))))); have hneaT := net_FnExactApply hblk HZ.out (by decide); clear hblk)); clear hb hfr; have hblk := HS.out.blk (g := w.heap.size) (o := .cells #[u_aT0, u_aT1, u_aT2, u_aT3] 24 (0, 0)) (List.mem_cons_of_mem _ (List.mem_cons_of_mem _ (List.mem_cons_of_mem _ (List.mem_cons_of_mem _ (List.mem_cons_of_mem _ (List.mem_cons_of_mem _ (List.mem_cons_of_mem _ (List.mem_cons_of_mem _ (List.mem_cons_of_mem _ (List.mem_cons_of_mem _ (List.mem_cons_of_mem _ List.mem_cons_self))))))))))); have yaT_0 := (blk_cell hblk 0).trans (rfl : _ = some u_aT0); have yaT_1 := (blk_cell hblk 1).trans (rfl : _ = some u_aT1); have yaT_2 := (blk_cell hblk 2).trans (rfl : _ = some u_aT2); have yaT_3 := (blk_cell hblk 3).trans (rfl : _ = some u_aT3); have vaT_0 := fun o => (blk_cell (blk_old hblk o) 0).trans (rfl : _ = some u_aT0); have vaT_1 := fun o => (blk_cell (blk_old hblk o) 1).trans (rfl : _ = some u_aT1); have vaT_2 := fun o => (blk_cell (blk_old hblk o) 2).trans (rfl : _ = some u_aT2); have vaT_3 := fun o => (blk_cell (blk_old hblk o) 3).trans (rfl : _ = some u_aT3); clear hblk)
          | (go_at_call 34; have hal := (Below.refl w20.heap.size w20).alloc (Nat.le_refl _) (.cells #[.int .i64 0, .int .i64 0, .string ⟨#[]⟩, .slice none 0 0] 30); have HS := Lib.hid (HS.out.below hal); have HB := Lib.hid (HB.out.trans (hal.mono HB.out.size)); have HZ := Lib.hid (blk_new w20 (.cells #[.int .i64 0, .int .i64 0, .string ⟨#[]⟩, .slice none 0 0] 30)); have hsz2 := alloc_sz w20 (.cells #[.int .i64 0, .int .i64 0, .string ⟨#[]⟩, .slice none 0 0] 30); clear hal; have CT := (HIM.out _ _ _ (HS.out.dat (x := x_aBinds) (B := w18.heap.size) (C := w19.heap.size) (cs := [vt9]) (List.mem_cons_of_mem _ List.mem_cons_self)).rd (HS.out.dat (x := x_aT) (B := w19.heap.size) (C := w20.heap.size) (cs := [t10_0, t10_1, t10_2, t10_3]) List.mem_cons_self).rd); (with_reducible refine CT.mono ?_); clear CT; rintro e w21 ⟨cs, rfl, hfr, hb⟩; obtain ⟨q11_0, q11_1, q11_2, q11_3, rfl⟩ := cells4 (hfr.len.trans hn_r); have st0 := run_store_one (P := Try.prog) (hfr.one q11_0 (by simp)); have st1 := run_store_one (P := Try.prog) (hfr.one q11_1 (by simp)); have st2 := run_store_one (P := Try.prog) (hfr.one q11_2 (by simp)); have st3 := run_store_one (P := Try.prog) (hfr.one q11_3 (by simp)); have HS := Lib.hid (HS.out.below hb); have SZ21 := Lib.hid (show w20.heap.size + 1 ≤ w21.heap.size from lt_of_alloc hb.size); have HB := Lib.hid (HB.out.trans (hb.mono HB.out.size)); have HQ := Lib.hid hfr.range; (try (have HZ := Lib.hid (blk_below HZ.out hb); have x0 := (blk_cell HZ.out 0).trans (rfl : (_ : Option Value) = some (.int .i64 0)); have f0 := blk_frozen HZ.out 0; have x1 := (blk_cell HZ.out 1).trans (rfl : (_ : Option Value) = some (.int .i64 0)); have f1 := blk_frozen HZ.out 1; have x2 := (blk_cell HZ.out 2).trans (rfl : (_ : Option Value) = some (.string ⟨#[]⟩)); have f2 := blk_frozen HZ.out 2; have x3 := (blk_cell HZ.out 3).trans (rfl : (_ : Option Value) = some (.slice none 0 0)); have f3 := blk_frozen HZ.out 3; have hblk := HS.out.blk (g := w.heap.size) (o := .cells #[u_aT0, u_aT1, u_aT2, u_aT3] 24 (0, 0)) (List.mem_cons_of_mem _ (List.mem_cons_of_mem _ (List.mem_cons_of_mem _ (List.mem_cons_of_mem _ (List.mem_cons_of_mem _ (List.mem_cons_of_mem _ (List.mem_cons_of_mem _ (List.mem_cons_of_mem _ (List.mem_cons_of_mem _ (List.mem_cons_of_mem _ (List.mem_cons_of_mem _ List.mem_cons_self))))))))))); have hneaT := net_FnExactApply hblk HZ.out (by decide); clear hblk)); clear hb hfr; have hblk := HS.out.blk (g := w.heap.size) (o := .cells #[u_aT0, u_aT1, u_aT2, u_aT3] 24 (0, 0)) (List.mem_cons_of_mem _ (List.mem_cons_of_mem _ (List.mem_cons_of_mem _ (List.mem_cons_of_mem _ (List.mem_cons_of_mem _ (List.mem_cons_of_mem _ (List.mem_cons_of_mem _ (List.mem_cons_of_mem _ (List.mem_cons_of_mem _ (List.mem_cons_of_mem _ (List.mem_cons_of_mem _ List.mem_cons_self))))))))))); have yaT_0 := (blk_cell hblk 0).trans (rfl : _ = some u_aT0); have yaT_1 := (blk_cell hblk 1).trans (rfl : _ = some u_aT1); have yaT_2 := (blk_cell hblk 2).trans (rfl : _ = some u_aT2); have yaT_3 := (blk_cell hblk 3).trans (rfl : _ = some u_aT3); have vaT_0 := fun o => (blk_cell (blk_old hblk o) 0).trans (rfl : _ = some u_aT0); have vaT_1 := fun o => (blk_cell (blk_old hblk o) 1).trans (rfl : _ = some u_aT1); have vaT_2 := fun o => (blk_cell (blk_old hblk o) 2).trans (rfl : _ = some u_aT2); have vaT_3 := fun o => (blk_cell (blk_old hblk o) 3).trans (rfl : _ = some u_aT3); clear hblk))
      all_goals (go_wp2_with fail; go_meet)
      all_goals (have sSZ0 := SZ0.out; have sSZ1 := SZ1.out; have sSZ2 := SZ2.out; have sSZ3 := SZ3.out; have sSZ4 := SZ4.out; have sSZ5 := SZ5.out; have sSZ6 := SZ6.out; have sSZ7 := SZ7.out; have sSZ8 := SZ8.out; have sSZ9 := SZ9.out; have sSZ10 := SZ10.out; have sSZ11 := SZ11.out; have sSZ12 := SZ12.out; have sSZ13 := SZ13.out; have sSZ14 := SZ14.out; have sSZ15 := SZ15.out; have sSZ16 := SZ16.out; have sSZ17 := SZ17.out; have sSZ18 := SZ18.out; have sSZ19 := SZ19.out; have sSZ20 := SZ20.out; have sSZ21 := SZ21.out)
      all_goals first
        | ((with_reducible refine boxR_new' (cs := [q11_0, q11_1, q11_2, q11_3]) ?_); exact ⟨_, _, HS.out.tail.tail, HQ.out, HB.out, by omega, by omega, by omega⟩)
        | (have szq := blk_lt HZ.out; refine boxR_set' (w := w21) (cs := [q11_0, q11_1, q11_2, q11_3]) rfl ?_; exact ⟨_, _, _, HS.out.tail.tail, ap_cons (show _ ∨ _ by omega) (ap_cons (show _ ∨ _ by omega) (ap_cons (show _ ∨ _ by omega) (ap_cons (show _ ∨ _ by omega) (ap_cons (show _ ∨ _ by omega) (ap_cons (show _ ∨ _ by omega) (ap_cons (show _ ∨ _ by omega) (ap_cons (show _ ∨ _ by omega) (ap_cons (show _ ∨ _ by omega) (ap_cons (show _ ∨ _ by omega) (ap_nil)))))))))), HZ.out, rfl, HQ.out, HB.out, by omega, by omega, by omega, by omega, by omega⟩)
    case rest =>
      obtain ⟨g31, cs, B31, C31, rfl, ho, hl, hs, hb, hz1, hz2, hz3, hz4, hz5⟩ := hcut
      obtain ⟨q11_0, q11_1, q11_2, q11_3, rfl⟩ := cells4 (hl.trans hn_r)
      obtain ⟨w19, rfl⟩ : ∃ v, v = wc := ⟨_, rfl⟩
      have HS : Hid (Has [(.blk (g31) (.cells #[q11_0, q11_1, q11_2, q11_3] 30 (0, 0))), (.dat B31 C31 r [q11_0, q11_1, q11_2, q11_3]), (.dat w6.heap.size w7.heap.size (r.top 1) [q6_0, q6_1, q6_2, q6_3]), (.dat w4.heap.size w5.heap.size (x_aT.top n1) [t5_0, t5_1, t5_2, t5_3]), (.dat w3.heap.size w4.heap.size (x_aBinds.top 1) [vt4]), (.dat w11.heap.size w12.heap.size x_aT [t8_0, t8_1, t8_2, t8_3]), (.dat w9.heap.size w10.heap.size x_aBinds [vt7]), (.blk (w7.heap.size) (.cells #[q6_0, q6_1, q6_2, q6_3] 30 (0, 0))), (.blk (w5.heap.size) (.cells #[t5_0, t5_1, t5_2, t5_3] 30 (0, 0))), (.blk (g8) (.cells #[q3_0, q3_1, q3_2, q3_3] 30 (0, 0))), (.dat B8 C8 r [q3_0, q3_1, q3_2, q3_3]), (.blk (w.heap.size) (.cells #[u_aT0, u_aT1, u_aT2, u_aT3] 24 (0, 0)))] w19) := hs
      have HB := Lib.hid hb
      have SZ19 : Hid (w18.heap.size ≤ g31 ∧ g31 < w19.heap.size ∧ w18.heap.size ≤ B31 ∧ C31 ≤ w19.heap.size ∧ (g31 < B31 ∨ C31 ≤ g31)) := ⟨hz1, hz2, hz3, hz4, hz5⟩
      have ONEq11 := Lib.hid ho
      clear ho hl hs hb hz1 hz2 hz3 hz4 hz5
      clear zaT_0 zaT_1 zaT_2 zaT_3
      have hblk := HS.out.blk (g := g31) (o := .cells #[q11_0, q11_1, q11_2, q11_3] 30 (0, 0)) List.mem_cons_self
      have zbq11_0 := (blk_cell hblk 0).trans (rfl : _ = some q11_0)
      have zbq11_1 := (blk_cell hblk 1).trans (rfl : _ = some q11_1)
      have zbq11_2 := (blk_cell hblk 2).trans (rfl : _ = some q11_2)
      have zbq11_3 := (blk_cell hblk 3).trans (rfl : _ = some q11_3)
      clear hblk
      have hblk := HS.out.blk (g := g8) (o := .cells #[q3_0, q3_1, q3_2, q3_3] 30 (0, 0)) (List.mem_cons_of_mem _ (List.mem_cons_of_mem _ (List.mem_cons_of_mem _ (List.mem_cons_of_mem _ (List.mem_cons_of_mem _ (List.mem_cons_of_mem _ (List.mem_cons_of_mem _ (List.mem_cons_of_mem _ (List.mem_cons_of_mem _ List.mem_cons_self)))))))))
      have zbq3_0 := (blk_cell hblk 0).trans (rfl : _ = some q3_0)
      have zbq3_1 := (blk_cell hblk 1).trans (rfl : _ = some q3_1)
      have zbq3_2 := (blk_cell hblk 2).trans (rfl : _ = some q3_2)
      have zbq3_3 := (blk_cell hblk 3).trans (rfl : _ = some q3_3)
      clear hblk
      go_wp2_with fail
      refine ((HEQ_r.out _ _ _ (HS.out.dat (x := r) (B := B31) (C := C31) (cs := [q11_0, q11_1, q11_2, q11_3]) (List.mem_cons_of_mem _ List.mem_cons_self)).rd (HS.out.dat (x := r) (B := B8) (C := C8) (cs := [q3_0, q3_1, q3_2, q3_3]) (List.mem_cons_of_mem _ (List.mem_cons_of_mem _ (List.mem_cons_of_mem _ (List.mem_cons_of_mem _ (List.mem_cons_of_mem _ (List.mem_cons_of_mem _ (List.mem_cons_of_mem _ (List.mem_cons_of_mem _ (List.mem_cons_of_mem _ (List.mem_cons_of_mem _ List.mem_cons_self))))))))))).rd)).mono ?_
      rintro e w20 ⟨rfl, hb⟩
      have HS := Lib.hid (HS.out.below hb)
      have SZ20 := Lib.hid (show w19.heap.size ≤ w20.heap.size from hb.size)
      have HB := Lib.hid (HB.out.trans (hb.mono HB.out.size))
      clear hb
      clear zbq11_0 zbq11_1 zbq11_2 zbq11_3 zbq3_0 zbq3_1 zbq3_2 zbq3_3
      have hblk := HS.out.blk (g := w7.heap.size) (o := .cells #[q6_0, q6_1, q6_2, q6_3] 30 (0, 0)) (List.mem_cons_of_mem _ (List.mem_cons_of_mem _ (List.mem_cons_of_mem _ (List.mem_cons_of_mem _ (List.mem_cons_of_mem _ (List.mem_cons_of_mem _ (List.mem_cons_of_mem _ List.mem_cons_self)))))))
      have zbq6_0 := (blk_cell hblk 0).trans (rfl : _ = some q6_0)
      have zbq6_1 := (blk_cell hblk 1).trans (rfl : _ = some q6_1)
      have zbq6_2 := (blk_cell hblk 2).trans (rfl : _ = some q6_2)
      have zbq6_3 := (blk_cell hblk 3).trans (rfl : _ = some q6_3)
      clear hblk
      go_wp2_with fail
      have sSZ0 := SZ0.out
      have sSZ1 := SZ1.out
      have sSZ2 := SZ2.out
      have sSZ3 := SZ3.out
      have sSZ4 := SZ4.out
      have sSZ5 := SZ5.out
      have sSZ6 := SZ6.out
      have sSZ7 := SZ7.out
      have sSZ8 := SZ8.out
      have sSZ9 := SZ9.out
      have sSZ10 := SZ10.out
      have sSZ11 := SZ11.out
      have sSZ12 := SZ12.out
      have sSZ13 := SZ13.out
      have sSZ14 := SZ14.out
      have sSZ15 := SZ15.out
      have sSZ16 := SZ16.out
      have sSZ17 := SZ17.out
      have sSZ18 := SZ18.out
      have sSZ19 := SZ19.out
      have sSZ20 := SZ20.out
      have hcn := HMK_r.out.1
      refine (HMK_r.out.2.2.one (HS.out.dat (x := (r.top 1)) (B := w6.heap.size) (C := w7.heap.size) (cs := [q6_0, q6_1, q6_2, q6_3]) (List.mem_cons_of_mem _ (List.mem_cons_of_mem _ List.mem_cons_self))).rd (by omega)).mono ?_
      rintro e w21 ⟨n5, hn5, rfl, hb⟩
      have HS := Lib.hid (HS.out.below hb)
      have SZ21 := Lib.hid (show w20.heap.size ≤ w21.heap.size from hb.size)
      have HB := Lib.hid (HB.out.trans (hb.mono HB.out.size))
      have NNn5 : Hid (n5 = 1 + r.tcnt ∧ n5 ≤ 1099511627777) := ⟨hn5, by omega⟩
      clear hb hn5 hcn sSZ0 sSZ1 sSZ2 sSZ3 sSZ4 sSZ5 sSZ6 sSZ7 sSZ8 sSZ9 sSZ10 sSZ11 sSZ12 sSZ13 sSZ14 sSZ15 sSZ16 sSZ17 sSZ18 sSZ19 sSZ20
      obtain rfl : n3 = n5 := by have h1 := NNn5.out; have h2 := NNn3.out; omega
      have hng : decide ((n3 : Int) < 0) = false := decide_eq_false (by omega)
      go_wp2
      go_ret
      exact ⟨rfl, HB.out⟩

end Go.Proofs.Ytbbpkjcmbakfeaa
