/- The law 'FnExactBigDivMod' walked: over whatever both functions answer alike; no condition. -/
import Derived.Test.YtajmeeppigdjnaaFmBig
import Derived.Test.YtajmeeppigdjnaaFamBig
import Derived.Test.YtajmeeppigdjnaaFamBigRes
import Derived.Deep.RegionHeld3
import Derived.Deep.RegionWith
import Derived.Deep.DeepCutAuto
import Derived.Deep.CutBlock
namespace Go.Proofs.Ytajmeeppigdjnaa
open Go.RowKit
set_option linter.unusedVariables false
set_option linter.unusedSimpArgs false

theorem infoSzBig : (Try.prog.info? 24).map (·.size) = some 2 := by kernel_rfl
theorem infoSzBigPair : (Try.prog.info? 48).map (·.size) = some 5 := by kernel_rfl
theorem bs1_FnExactBigDivMod {w : World} {g i : Nat} {q : Addr} {v u : Value} (h : w.cell? q = some v) (hne : q.block ≠ g) : (w.setCell ⟨g, i, none⟩ u).cell? q = some v := (World.cell?_of_block (a := q) (Below.heap_setCell w ⟨g, i, none⟩ u q.block hne)).trans h
theorem net_FnExactBigDivMod {w : World} {a b : Nat} {c1 c2 : Array Value} {T1 T2 : TypeId} {f1 f2 : Nat × Nat} (h1 : w.heap[a]? = some (.cells c1 T1 f1)) (h2 : w.heap[b]? = some (.cells c2 T2 f2)) (hT : T2 ≠ T1) : a ≠ b := fun e => by
  subst e
  rw [h1] at h2
  injection h2 with h2
  injection h2 with _ h2 _
  exact hT h2.symm
set_option maxRecDepth 100000 in
set_option maxHeartbeats 40000000 in
theorem lawFnExactBigDivMod (x_aA : D) (x_aB : D) (r : D) (hn_aA : x_aA.n = 2)
    (SZ_aA : SzA Try.prog 20 x_aA)
    (TO_aA : x_aA.bulk ≤ 1048576 → ToA Try.prog 22 x_aA)
    (EQ_aA : EqA Try.prog 17 x_aA)
    (MK_aA : x_aA.bulk ≤ 1048576 → x_aA.tcnt ≤ 1099511627776 ∧ MkA Try.prog 18 x_aA)
    (hn_aB : x_aB.n = 2)
    (SZ_aB : SzA Try.prog 20 x_aB)
    (TO_aB : x_aB.bulk ≤ 1048576 → ToA Try.prog 22 x_aB)
    (EQ_aB : EqA Try.prog 17 x_aB)
    (MK_aB : x_aB.bulk ≤ 1048576 → x_aB.tcnt ≤ 1099511627776 ∧ MkA Try.prog 18 x_aB)
    (hn_r : r.n = 5)
    (EQ_r : EqA Try.prog 42 r)
    (MK_r : x_aA.bulk + x_aB.bulk ≤ 1048576 → r.tcnt ≤ 1099511627776 ∧ MkA Try.prog 43 r ∧ HdA Try.prog 44 r)
    (SP : x_aA.bulk + x_aB.bulk ≤ 1048576 → ∀ (w : World) (c_aA : List Value) (c_aB : List Value), Rd w x_aA c_aA → Rd w x_aB c_aB → Calls Try.prog 40 #[.agg c_aA.toArray, .agg c_aB.toArray] w fun e w' => ∃ cs', e = .returned (.agg cs'.toArray) ∧ Fr w.heap.size w' r cs' ∧ Below w.heap.size w w')
    (IM : x_aA.bulk + x_aB.bulk ≤ 1048576 → ∀ (w : World) (c_aA : List Value) (c_aB : List Value), Rd w x_aA c_aA → Rd w x_aB c_aB → Calls Try.prog 41 #[.agg c_aA.toArray, .agg c_aB.toArray] w fun e w' => ∃ cs', e = .returned (.agg cs'.toArray) ∧ Fr w.heap.size w' r cs' ∧ Below w.heap.size w w') (w : World) (c_aA : List Value) (c_aB : List Value) (rd_aA : Rd w x_aA c_aA) (rd_aB : Rd w x_aB c_aB) :
    Calls Try.prog 11 #[.agg c_aA.toArray, .agg c_aB.toArray] w fun e w' => e = .returned (.bool true) ∧ Below w.heap.size w w' := by
  obtain ⟨u_aA0, u_aA1, rfl⟩ := cells2 (rd_aA.len.trans hn_aA)
  obtain ⟨u_aB0, u_aB1, rfl⟩ := cells2 (rd_aB.len.trans hn_aB)
  have HSZ_aA := Lib.hid SZ_aA
  have HTO_aA := Lib.hid TO_aA
  have HEQ_aA := Lib.hid EQ_aA
  have HMK_aA := Lib.hid MK_aA
  have HSZ_aB := Lib.hid SZ_aB
  have HTO_aB := Lib.hid TO_aB
  have HEQ_aB := Lib.hid EQ_aB
  have HMK_aB := Lib.hid MK_aB
  have HEQ_r := Lib.hid EQ_r
  have HMK_r := Lib.hid MK_r
  have HSP := Lib.hid SP
  have HIM := Lib.hid IM
  have RI_aA := Lib.hid rd_aA
  have RI_aB := Lib.hid rd_aB
  clear SZ_aA TO_aA EQ_aA MK_aA SZ_aB TO_aB EQ_aB MK_aB EQ_r MK_r SP IM rd_aA rd_aB
  have HB := Lib.hid (show Below w.heap.size w ((w.alloc (.cells #[u_aA0, u_aA1] 29)).alloc (.cells #[u_aB0, u_aB1] 29)) from (((Below.refl w.heap.size w).alloc (by simp) (.cells #[u_aA0, u_aA1] 29)).alloc (by simp <;> omega) (.cells #[u_aB0, u_aB1] 29)))
  have HS := Lib.hid (((((Has.nil w).below ((Below.refl _ _).alloc (Nat.le_refl _) (.cells #[u_aA0, u_aA1] 29))).add (a := .blk w.heap.size (.cells #[u_aA0, u_aA1] 29 (0, 0))) (blk_new w (.cells #[u_aA0, u_aA1] 29))).below ((Below.refl _ _).alloc (Nat.le_refl _) (.cells #[u_aB0, u_aB1] 29))).add (a := .blk (w.heap.size + 1) (.cells #[u_aB0, u_aB1] 29 (0, 0))) (blk_new_at (by simp)))
  have SZ0 := Lib.hid (show ((w.alloc (.cells #[u_aA0, u_aA1] 29)).alloc (.cells #[u_aB0, u_aB1] 29)).heap.size = w.heap.size + 2 by simp)
  go_enter Try.func11, Try.ntmps11
  go_wp2_with fail
  generalize hw0 : ((w.alloc (.cells #[u_aA0, u_aA1] 29)).alloc (.cells #[u_aB0, u_aB1] 29)) = w0 at *
  clear hw0
  refine ((HSZ_aA.out _ _ (1048576) (RI_aA.out.below HB.out) (by omega) (by omega))).mono ?_
  rintro e w1 ⟨rfl, hb⟩
  have HS := Lib.hid (HS.out.below hb)
  have SZ1 := Lib.hid (show w0.heap.size ≤ w1.heap.size from hb.size)
  have HB := Lib.hid (HB.out.trans (hb.mono HB.out.size))
  clear hb
  by_cases hzaA : (1048576 : Int) < x_aA.bulk
  · rw [szR_neg' hzaA]
    go_wp2
    go_ret
    exact ⟨rfl, HB.out⟩
  rw [szR_fit (by omega)]
  have hblk := HS.out.blk (g := w.heap.size + 1) (o := .cells #[u_aB0, u_aB1] 29 (0, 0)) List.mem_cons_self
  have zaB_0 := (blk_cell hblk 0).trans (rfl : _ = some u_aB0)
  have zaB_1 := (blk_cell hblk 1).trans (rfl : _ = some u_aB1)
  clear hblk
  go_wp2_with fail
  refine ((HSZ_aB.out _ _ (1048576 - (x_aA.bulk : Int)) (RI_aB.out.below HB.out) (by omega) (by omega))).mono ?_
  rintro e w2 ⟨rfl, hb⟩
  have HS := Lib.hid (HS.out.below hb)
  have SZ2 := Lib.hid (show w1.heap.size ≤ w2.heap.size from hb.size)
  have HB := Lib.hid (HB.out.trans (hb.mono HB.out.size))
  clear hb
  by_cases hzaB : (1048576 - (x_aA.bulk : Int) : Int) < x_aB.bulk
  · rw [szR_neg' hzaB]
    go_wp2
    go_ret
    exact ⟨rfl, HB.out⟩
  rw [szR_fit (by omega)]
  have HTO_aA := Lib.hid (HTO_aA.out (by omega))
  have HMK_aA := Lib.hid (HMK_aA.out (by omega))
  have HTO_aB := Lib.hid (HTO_aB.out (by omega))
  have HMK_aB := Lib.hid (HMK_aB.out (by omega))
  have HSP := Lib.hid (HSP.out (by omega))
  have HIM := Lib.hid (HIM.out (by omega))
  have HMK_r := Lib.hid (HMK_r.out (by omega))
  clear zaB_0 zaB_1
  have hblk := HS.out.blk (g := w.heap.size) (o := .cells #[u_aA0, u_aA1] 29 (0, 0)) (List.mem_cons_of_mem _ List.mem_cons_self)
  have zaA_0 := (blk_cell hblk 0).trans (rfl : _ = some u_aA0)
  have zaA_1 := (blk_cell hblk 1).trans (rfl : _ = some u_aA1)
  clear hblk
  have hblk := HS.out.blk (g := w.heap.size + 1) (o := .cells #[u_aB0, u_aB1] 29 (0, 0)) List.mem_cons_self
  have zaB_0 := (blk_cell hblk 0).trans (rfl : _ = some u_aB0)
  have zaB_1 := (blk_cell hblk 1).trans (rfl : _ = some u_aB1)
  clear hblk
  go_upto_region 8 with fail
  go_cut [6] from 14 (fun v wx => BoxR 48 w2.heap.size r [(.blk (w.heap.size + 1) (.cells #[u_aB0, u_aB1] 29 (0, 0))), (.blk (w.heap.size) (.cells #[u_aA0, u_aA1] 29 (0, 0)))] w v wx)
  case first =>
    have hblk := HS.out.blk (g := w.heap.size) (o := .cells #[u_aA0, u_aA1] 29 (0, 0)) (List.mem_cons_of_mem _ List.mem_cons_self)
    have yaA_0 := (blk_cell hblk 0).trans (rfl : _ = some u_aA0)
    have yaA_1 := (blk_cell hblk 1).trans (rfl : _ = some u_aA1)
    have vaA_0 := fun o => (blk_cell (blk_old hblk o) 0).trans (rfl : _ = some u_aA0)
    have vaA_1 := fun o => (blk_cell (blk_old hblk o) 1).trans (rfl : _ = some u_aA1)
    clear hblk
    have hblk := HS.out.blk (g := w.heap.size + 1) (o := .cells #[u_aB0, u_aB1] 29 (0, 0)) List.mem_cons_self
    have yaB_0 := (blk_cell hblk 0).trans (rfl : _ = some u_aB0)
    have yaB_1 := (blk_cell hblk 1).trans (rfl : _ = some u_aB1)
    have vaB_0 := fun o => (blk_cell (blk_old hblk o) 0).trans (rfl : _ = some u_aB0)
    have vaB_1 := fun o => (blk_cell (blk_old hblk o) 1).trans (rfl : _ = some u_aB1)
    clear hblk
    go_region_held3 (fun w' => w'.cell? ⟨w.heap.size, 0, none⟩ = some u_aA0 ∧ w'.cell? ⟨w.heap.size, 1, none⟩ = some u_aA1 ∧ w'.cell? ⟨w.heap.size + 1, 0, none⟩ = some u_aB0 ∧ w'.cell? ⟨w.heap.size + 1, 1, none⟩ = some u_aB1)
      (first | (with_reducible exact ⟨bs1_FnExactBigDivMod (bs1_FnExactBigDivMod (bs1_FnExactBigDivMod (bs1_FnExactBigDivMod (bs1_FnExactBigDivMod (yaA_0) hneaA) hneaA) hneaA) hneaA) hneaA, bs1_FnExactBigDivMod (bs1_FnExactBigDivMod (bs1_FnExactBigDivMod (bs1_FnExactBigDivMod (bs1_FnExactBigDivMod (yaA_1) hneaA) hneaA) hneaA) hneaA) hneaA, bs1_FnExactBigDivMod (bs1_FnExactBigDivMod (bs1_FnExactBigDivMod (bs1_FnExactBigDivMod (bs1_FnExactBigDivMod (yaB_0) hneaB) hneaB) hneaB) hneaB) hneaB, bs1_FnExactBigDivMod (bs1_FnExactBigDivMod (bs1_FnExactBigDivMod (bs1_FnExactBigDivMod (bs1_FnExactBigDivMod (yaB_1) hneaB) hneaB) hneaB) hneaB) hneaB⟩) | exact ⟨yaA_0, yaA_1, yaB_0, yaB_1⟩ | exact ⟨vaA_0 _, vaA_1 _, vaB_0 _, vaB_1 _⟩)
      (first
        | (go_at_call 22; have HB := Lib.hid HB.out.drew; have HS := Lib.hid HS.out.drew; have CT := (HTO_aA.out _ _ (RI_aA.out.below HB.out)); (with_reducible refine CT.mono ?_); clear CT; rintro e w3 ⟨cs, rfl, hfr, hb⟩; obtain ⟨t1_0, t1_1, rfl⟩ := cells2 (hfr.len.trans hn_aA); have HS := Lib.hid (HS.out.below hb); have SZ3 := Lib.hid (show w2.heap.size ≤ w3.heap.size from hb.size); have HB := Lib.hid (HB.out.trans (hb.mono HB.out.size)); have HS := Lib.hid (HS.out.add (a := (.dat w2.heap.size w3.heap.size x_aA [t1_0, t1_1])) hfr.range); (try (have HZ := Lib.hid (blk_below HZ.out hb))); clear hb hfr; have hblk := HS.out.blk (g := w.heap.size) (o := .cells #[u_aA0, u_aA1] 29 (0, 0)) (List.mem_cons_of_mem _ (List.mem_cons_of_mem _ List.mem_cons_self)); have yaA_0 := (blk_cell hblk 0).trans (rfl : _ = some u_aA0); have yaA_1 := (blk_cell hblk 1).trans (rfl : _ = some u_aA1); have vaA_0 := fun o => (blk_cell (blk_old hblk o) 0).trans (rfl : _ = some u_aA0); have vaA_1 := fun o => (blk_cell (blk_old hblk o) 1).trans (rfl : _ = some u_aA1); clear hblk; have hblk := HS.out.blk (g := w.heap.size + 1) (o := .cells #[u_aB0, u_aB1] 29 (0, 0)) (List.mem_cons_of_mem _ List.mem_cons_self); have yaB_0 := (blk_cell hblk 0).trans (rfl : _ = some u_aB0); have yaB_1 := (blk_cell hblk 1).trans (rfl : _ = some u_aB1); have vaB_0 := fun o => (blk_cell (blk_old hblk o) 0).trans (rfl : _ = some u_aB0); have vaB_1 := fun o => (blk_cell (blk_old hblk o) 1).trans (rfl : _ = some u_aB1); clear hblk)
        | (go_at_call 22; have hal := (Below.refl w2.heap.size w2).alloc (Nat.le_refl _) (.cells #[.int .i64 0, .bool false, .slice none 0 0, .bool false, .slice none 0 0] 48); have HS := Lib.hid (HS.out.below hal); have HB := Lib.hid (HB.out.trans (hal.mono HB.out.size)); have HZ := Lib.hid (blk_new w2 (.cells #[.int .i64 0, .bool false, .slice none 0 0, .bool false, .slice none 0 0] 48)); have hsz0 := alloc_sz w2 (.cells #[.int .i64 0, .bool false, .slice none 0 0, .bool false, .slice none 0 0] 48); clear hal; have HB := Lib.hid HB.out.drew; have HS := Lib.hid HS.out.drew; have HZ := Lib.hid (blk_drew HZ.out); have CT := (HTO_aA.out _ _ (RI_aA.out.below HB.out)); (with_reducible refine CT.mono ?_); clear CT; rintro e w3 ⟨cs, rfl, hfr, hb⟩; obtain ⟨t1_0, t1_1, rfl⟩ := cells2 (hfr.len.trans hn_aA); have HS := Lib.hid (HS.out.below hb); have SZ3 := Lib.hid (show w2.heap.size + 1 ≤ w3.heap.size from lt_of_alloc hb.size); have HB := Lib.hid (HB.out.trans (hb.mono HB.out.size)); have HS := Lib.hid (HS.out.add (a := (.dat w2.heap.size w3.heap.size x_aA [t1_0, t1_1])) (FrR.lower hfr.range (alloc_le w2 _))); (try (have HZ := Lib.hid (blk_below HZ.out hb))); clear hb hfr; have hblk := HS.out.blk (g := w.heap.size) (o := .cells #[u_aA0, u_aA1] 29 (0, 0)) (List.mem_cons_of_mem _ (List.mem_cons_of_mem _ List.mem_cons_self)); have yaA_0 := (blk_cell hblk 0).trans (rfl : _ = some u_aA0); have yaA_1 := (blk_cell hblk 1).trans (rfl : _ = some u_aA1); have vaA_0 := fun o => (blk_cell (blk_old hblk o) 0).trans (rfl : _ = some u_aA0); have vaA_1 := fun o => (blk_cell (blk_old hblk o) 1).trans (rfl : _ = some u_aA1); clear hblk; have hblk := HS.out.blk (g := w.heap.size + 1) (o := .cells #[u_aB0, u_aB1] 29 (0, 0)) (List.mem_cons_of_mem _ List.mem_cons_self); have yaB_0 := (blk_cell hblk 0).trans (rfl : _ = some u_aB0); have yaB_1 := (blk_cell hblk 1).trans (rfl : _ = some u_aB1); have vaB_0 := fun o => (blk_cell (blk_old hblk o) 0).trans (rfl : _ = some u_aB0); have vaB_1 := fun o => (blk_cell (blk_old hblk o) 1).trans (rfl : _ = some u_aB1); clear hblk)
        | (go_at_call 22; have CT := (HTO_aB.out _ _ (RI_aB.out.below HB.out)); (with_reducible refine CT.mono ?_); clear CT; rintro e w4 ⟨cs, rfl, hfr, hb⟩; obtain ⟨t2_0, t2_1, rfl⟩ := cells2 (hfr.len.trans hn_aB); have HS := Lib.hid (HS.out.below hb); have SZ4 := Lib.hid (show w3.heap.size ≤ w4.heap.size from hb.size); have HB := Lib.hid (HB.out.trans (hb.mono HB.out.size)); have HS := Lib.hid (HS.out.add (a := (.dat w3.heap.size w4.heap.size x_aB [t2_0, t2_1])) hfr.range); (try (have HZ := Lib.hid (blk_below HZ.out hb))); clear hb hfr; have hblk := HS.out.blk (g := w.heap.size) (o := .cells #[u_aA0, u_aA1] 29 (0, 0)) (List.mem_cons_of_mem _ (List.mem_cons_of_mem _ (List.mem_cons_of_mem _ List.mem_cons_self))); have yaA_0 := (blk_cell hblk 0).trans (rfl : _ = some u_aA0); have yaA_1 := (blk_cell hblk 1).trans (rfl : _ = some u_aA1); have vaA_0 := fun o => (blk_cell (blk_old hblk o) 0).trans (rfl : _ = some u_aA0); have vaA_1 := fun o => (blk_cell (blk_old hblk o) 1).trans (rfl : _ = some u_aA1); clear hblk; have hblk := HS.out.blk (g := w.heap.size + 1) (o := .cells #[u_aB0, u_aB1] 29 (0, 0)) (List.mem_cons_of_mem _ (List.mem_cons_of_mem _ List.mem_cons_self)); have yaB_0 := (blk_cell hblk 0).trans (rfl : _ = some u_aB0); have yaB_1 := (blk_cell hblk 1).trans (rfl : _ = some u_aB1); have vaB_0 := fun o => (blk_cell (blk_old hblk o) 0).trans (rfl : _ = some u_aB0); have vaB_1 := fun o => (blk_cell (blk_old hblk o) 1).trans (rfl : _ = some u_aB1); clear hblk)
        | (go_at_call 22; have hal := (Below.refl w3.heap.size w3).alloc (Nat.le_refl _) (.cells #[.int .i64 0, .bool false, .slice none 0 0, .bool false, .slice none 0 0] 48); have HS := Lib.hid (HS.out.below hal); have HB := Lib.hid (HB.out.trans (hal.mono HB.out.size)); have HZ := Lib.hid (blk_new w3 (.cells #[.int .i64 0, .bool false, .slice none 0 0, .bool false, .slice none 0 0] 48)); have hsz1 := alloc_sz w3 (.cells #[.int .i64 0, .bool false, .slice none 0 0, .bool false, .slice none 0 0] 48); clear hal; have CT := (HTO_aB.out _ _ (RI_aB.out.below HB.out)); (with_reducible refine CT.mono ?_); clear CT; rintro e w4 ⟨cs, rfl, hfr, hb⟩; obtain ⟨t2_0, t2_1, rfl⟩ := cells2 (hfr.len.trans hn_aB); have HS := Lib.hid (HS.out.below hb); have SZ4 := Lib.hid (show w3.heap.size + 1 ≤ w4.heap.size from lt_of_alloc hb.size); have HB := Lib.hid (HB.out.trans (hb.mono HB.out.size)); have HS := Lib.hid (HS.out.add (a := (.dat w3.heap.size w4.heap.size x_aB [t2_0, t2_1])) (FrR.lower hfr.range (alloc_le w3 _))); (try (have HZ := Lib.hid (blk_below HZ.out hb))); clear hb hfr; have hblk := HS.out.blk (g := w.heap.size) (o := .cells #[u_aA0, u_aA1] 29 (0, 0)) (List.mem_cons_of_mem _ (List.mem_cons_of_mem _ (List.mem_cons_of_mem _ List.mem_cons_self))); have yaA_0 := (blk_cell hblk 0).trans (rfl : _ = some u_aA0); have yaA_1 := (blk_cell hblk 1).trans (rfl : _ = some u_aA1); have vaA_0 := fun o => (blk_cell (blk_old hblk o) 0).trans (rfl : _ = some u_aA0); have vaA_1 := fun o => (blk_cell (blk_old hblk o) 1).trans (rfl : _ = some u_aA1); clear hblk; have hblk := HS.out.blk (g := w.heap.size + 1) (o := .cells #[u_aB0, u_aB1] 29 (0, 0)) (List.mem_cons_of_mem _ (List.mem_cons_of_mem _ List.mem_cons_self)); have yaB_0 := (blk_cell hblk 0).trans (rfl : _ = some u_aB0); have yaB_1 := (blk_cell hblk 1).trans (rfl : _ = some u_aB1); have vaB_0 := fun o => (blk_cell (blk_old hblk o) 0).trans (rfl : _ = some u_aB0); have vaB_1 := fun o => (blk_cell (blk_old hblk o) 1).trans (rfl : _ = some u_aB1); clear hblk)
        | (go_at_call 40; have CT := (HSP.out _ _ _ (HS.out.dat (x := x_aA) (B := w2.heap.size) (C := w3.heap.size) (cs := [t1_0, t1_1]) (List.mem_cons_of_mem _ List.mem_cons_self)).rd (HS.out.dat (x := x_aB) (B := w3.heap.size) (C := w4.heap.size) (cs := [t2_0, t2_1]) List.mem_cons_self).rd); (with_reducible refine CT.mono ?_); clear CT; rintro e w5 ⟨cs, rfl, hfr, hb⟩; obtain ⟨q3_0, q3_1, q3_2, q3_3, q3_4, rfl⟩ := cells5 (hfr.len.trans hn_r); have st0 := run_store_one (P := Try.prog) (hfr.one q3_0 (by simp)); have st1 := run_store_one (P := Try.prog) (hfr.one q3_1 (by simp)); have st2 := run_store_one (P := Try.prog) (hfr.one q3_2 (by simp)); have st3 := run_store_one (P := Try.prog) (hfr.one q3_3 (by simp)); have st4 := run_store_one (P := Try.prog) (hfr.one q3_4 (by simp)); have HS := Lib.hid (HS.out.below hb); have SZ5 := Lib.hid (show w4.heap.size ≤ w5.heap.size from hb.size); have HB := Lib.hid (HB.out.trans (hb.mono HB.out.size)); have HQ := Lib.hid hfr.range; (try (have HZ := Lib.hid (blk_below HZ.out hb); have x0 := (blk_cell HZ.out 0).trans (rfl : (_ : Option Value) = some (.int .i64 0)); have f0 := blk_frozen HZ.out 0; have x1 := (blk_cell HZ.out 1).trans (rfl : (_ : Option Value) = some (.bool false)); have f1 := blk_frozen HZ.out 1; have x2 := (blk_cell HZ.out 2).trans (rfl : (_ : Option Value) = some (.slice none 0 0)); have f2 := blk_frozen HZ.out 2; have x3 := (blk_cell HZ.out 3).trans (rfl : (_ : Option Value) = some (.bool false)); have f3 := blk_frozen HZ.out 3; have x4 := (blk_cell HZ.out 4).trans (rfl : (_ : Option Value) = some (.slice none 0 0)); have f4 := blk_frozen HZ.out 4; have hblk := HS.out.blk (g := w.heap.size) (o := .cells #[u_aA0, u_aA1] 29 (0, 0)) (List.mem_cons_of_mem _ (List.mem_cons_of_mem _ (List.mem_cons_of_mem _ List.mem_cons_self))); have hneaA := net_FnExactBigDivMod hblk HZ.out (by decide); clear hblk; have hblk := HS.out.blk (g := w.heap.size + 1) (o := .cells #[u_aB0, u_aB1] 29 (0, 0)) (List.mem_cons_of_mem _ (List.mem_cons_of_mem _ List.mem_cons_self)); have hneaB := net_FnExactBigDivMod hblk HZ.out (by decide); clear hblk)); clear hb hfr; have hblk := HS.out.blk (g := w.heap.size) (o := .cells #[u_aA0, u_aA1] 29 (0, 0)) (List.mem_cons_of_mem _ (List.mem_cons_of_mem _ (List.mem_cons_of_mem _ List.mem_cons_self))); have yaA_0 := (blk_cell hblk 0).trans (rfl : _ = some u_aA0); have yaA_1 := (blk_cell hblk 1).trans (rfl : _ = some u_aA1); have vaA_0 := fun o => (blk_cell (blk_old hblk o) 0).trans (rfl : _ = some u_aA0); have vaA_1 := fun o => (blk_cell (blk_old hblk o) 1).trans (rfl : _ = some u_aA1); clear hblk; have hblk := HS.out.blk (g := w.heap.size + 1) (o := .cells #[u_aB0, u_aB1] 29 (0, 0)) (List.mem_cons_of_mem _ (List.mem_cons_of_mem _ List.mem_cons_self)); have yaB_0 := (blk_cell hblk 0).trans (rfl : _ = some u_aB0); have yaB_1 := (blk_cell hblk 1).trans (rfl : _ = some u_aB1); have vaB_0 := fun o => (blk_cell (blk_old hblk o) 0).trans (rfl : _ = some u_aB0); have vaB_1 := fun o => (blk_cell (blk_old hblk o) 1).trans (rfl : _ = some u_aB1); clear hblk)
        | (go_at_call 40; have hal := (Below.refl w4.heap.size w4).alloc (Nat.le_refl _) (.cells #[.int .i64 0, .bool false, .slice none 0 0, .bool false, .slice none 0 0] 48); have HS := Lib.hid (HS.out.below hal); have HB := Lib.hid (HB.out.trans (hal.mono HB.out.size)); have HZ := Lib.hid (blk_new w4 (.cells #[.int .i64 0, .bool false, .slice none 0 0, .bool false, .slice none 0 0] 48)); have hsz2 := alloc_sz w4 (.cells #[.int .i64 0, .bool false, .slice none 0 0, .bool false, .slice none 0 0] 48); clear hal; have CT := (HSP.out _ _ _ (HS.out.dat (x := x_aA) (B := w2.heap.size) (C := w3.heap.size) (cs := [t1_0, t1_1]) (List.mem_cons_of_mem _ List.mem_cons_self)).rd (HS.out.dat (x := x_aB) (B := w3.heap.size) (C := w4.heap.size) (cs := [t2_0, t2_1]) List.mem_cons_self).rd); (with_reducible refine CT.mono ?_); clear CT; rintro e w5 ⟨cs, rfl, hfr, hb⟩; obtain ⟨q3_0, q3_1, q3_2, q3_3, q3_4, rfl⟩ := cells5 (hfr.len.trans hn_r); have st0 := run_store_one (P := Try.prog) (hfr.one q3_0 (by simp)); have st1 := run_store_one (P := Try.prog) (hfr.one q3_1 (by simp)); have st2 := run_store_one (P := Try.prog) (hfr.one q3_2 (by simp)); have st3 := run_store_one (P := Try.prog) (hfr.one q3_3 (by simp)); have st4 := run_store_one (P := Try.prog) (hfr.one q3_4 (by simp)); have HS := Lib.hid (HS.out.below hb); have SZ5 := Lib.hid (show w4.heap.size + 1 ≤ w5.heap.size from lt_of_alloc hb.size); have HB := Lib.hid (HB.out.trans (hb.mono HB.out.size)); have HQ := Lib.hid hfr.range; (try (have HZ := Lib.hid (blk_below HZ.out hb); have x0 := (blk_cell HZ.out 0).trans (rfl : (_ : Option Value) = some (.int .i64 0)); have f0 := blk_frozen HZ.out 0; have x1 := (blk_cell HZ.out 1).trans (rfl : (_ : Option Value) = some (.bool false)); have f1 := blk_frozen HZ.out 1; have x2 := (blk_cell HZ.out 2).trans (rfl : (_ : Option Value) = some (.slice none 0 0)); have f2 := blk_frozen HZ.out 2; have x3 := (blk_cell HZ.out 3).trans (rfl : (_ : Option Value) = some (.bool false)); have f3 := blk_frozen HZ.out 3; have x4 := (blk_cell HZ.out 4).trans (rfl : (_ : Option Value) = some (.slice none 0 0)); have f4 := blk_frozen HZ.out 4; have hblk := HS.out.blk (g := w.heap.size) (o := .cells #[u_aA0, u_aA1] 29 (0, 0)) (List.mem_cons_of_mem _ (List.mem_cons_of_mem _ (List.mem_cons_of_mem _ List.mem_cons_self))); have hneaA := net_FnExactBigDivMod hblk HZ.out (by decide); clear hblk; have hblk := HS.out.blk (g := w.heap.size + 1) (o := .cells #[u_aB0, u_aB1] 29 (0, 0)) (List.mem_cons_of_mem _ (List.mem_cons_of_mem _ List.mem_cons_self)); have hneaB := net_FnExactBigDivMod hblk HZ.out (by decide); clear hblk)); clear hb hfr; have hblk := HS.out.blk (g := w.heap.size) (o := .cells #[u_aA0, u_aA1] 29 (0, 0)) (List.mem_cons_of_mem _ (List.mem_cons_of_mem _ (List.mem_cons_of_mem _ List.mem_cons_self))); have yaA_0 := (blk_cell hblk 0).trans (rfl : _ = some u_aA0); have yaA_1 := (blk_cell hblk 1).trans (rfl : _ = some u_aA1); have vaA_0 := fun o => (blk_cell (blk_old hblk o) 0).trans (rfl : _ = some u_aA0); have vaA_1 := fun o => (blk_cell (blk_old hblk o) 1).trans (rfl : _ = some u_aA1); clear hblk; have hblk := HS.out.blk (g := w.heap.size + 1) (o := .cells #[u_aB0, u_aB1] 29 (0, 0)) (List.mem_cons_of_mem _ (List.mem_cons_of_mem _ List.mem_cons_self)); have yaB_0 := (blk_cell hblk 0).trans (rfl : _ = some u_aB0); have yaB_1 := (blk_cell hblk 1).trans (rfl : _ = some u_aB1); have vaB_0 := fun o => (blk_cell (blk_old hblk o) 0).trans (rfl : _ = some u_aB0); have vaB_1 := fun o => (blk_cell (blk_old hblk o) 1).trans (rfl : _ = some u_aB1); clear hblk))
    all_goals (go_wp2_with fail; go_meet)
    all_goals (have sSZ0 := SZ0.out; have sSZ1 := SZ1.out; have sSZ2 := SZ2.out; have sSZ3 := SZ3.out; have sSZ4 := SZ4.out; have sSZ5 := SZ5.out)
    all_goals first
      | ((with_reducible refine boxR_new' (cs := [q3_0, q3_1, q3_2, q3_3, q3_4]) ?_); exact ⟨_, _, HS.out.tail.tail, HQ.out, HB.out, by omega, by omega, by omega⟩)
      | (have szq := blk_lt HZ.out; refine boxR_set' (w := w5) (cs := [q3_0, q3_1, q3_2, q3_3, q3_4]) rfl ?_; exact ⟨_, _, _, HS.out.tail.tail, ap_cons (show _ ∨ _ by omega) (ap_cons (show _ ∨ _ by omega) (ap_nil)), HZ.out, rfl, HQ.out, HB.out, by omega, by omega, by omega, by omega, by omega⟩)
  case rest =>
    obtain ⟨g8, cs, B8, C8, rfl, ho, hl, hs, hb, hz1, hz2, hz3, hz4, hz5⟩ := hcut
    obtain ⟨q3_0, q3_1, q3_2, q3_3, q3_4, rfl⟩ := cells5 (hl.trans hn_r)
    obtain ⟨w3, rfl⟩ : ∃ v, v = wc := ⟨_, rfl⟩
    have HS : Hid (Has [(.blk (g8) (.cells #[q3_0, q3_1, q3_2, q3_3, q3_4] 48 (0, 0))), (.dat B8 C8 r [q3_0, q3_1, q3_2, q3_3, q3_4]), (.blk (w.heap.size + 1) (.cells #[u_aB0, u_aB1] 29 (0, 0))), (.blk (w.heap.size) (.cells #[u_aA0, u_aA1] 29 (0, 0)))] w3) := hs
    have HB := Lib.hid hb
    have SZ3 : Hid (w2.heap.size ≤ g8 ∧ g8 < w3.heap.size ∧ w2.heap.size ≤ B8 ∧ C8 ≤ w3.heap.size ∧ (g8 < B8 ∨ C8 ≤ g8)) := ⟨hz1, hz2, hz3, hz4, hz5⟩
    have ONEq3 := Lib.hid ho
    clear ho hl hs hb hz1 hz2 hz3 hz4 hz5
    clear zaA_0 zaA_1 zaB_0 zaB_1
    have hblk := HS.out.blk (g := w.heap.size) (o := .cells #[u_aA0, u_aA1] 29 (0, 0)) (List.mem_cons_of_mem _ (List.mem_cons_of_mem _ (List.mem_cons_of_mem _ List.mem_cons_self)))
    have zaA_0 := (blk_cell hblk 0).trans (rfl : _ = some u_aA0)
    have zaA_1 := (blk_cell hblk 1).trans (rfl : _ = some u_aA1)
    clear hblk
    go_wp2_with fail
    refine ((HTO_aA.out _ _ (RI_aA.out.below HB.out))).mono ?_
    rintro e w4 ⟨cs, rfl, hfr, hb⟩
    obtain ⟨t4_0, t4_1, rfl⟩ := cells2 (hfr.len.trans hn_aA)
    have HS := Lib.hid (HS.out.below hb)
    have SZ4 := Lib.hid (show w3.heap.size ≤ w4.heap.size from hb.size)
    have HB := Lib.hid (HB.out.trans (hb.mono HB.out.size))
    have HS := Lib.hid (HS.out.add (a := (.dat w3.heap.size w4.heap.size x_aA [t4_0, t4_1])) hfr.range)
    have ONEt4 := Lib.hid hfr.all
    clear hb hfr
    go_wp2_with (refine wpl_store_new' rfl 24 (.tmp 7) (.tmp 30) rfl _ #[t4_0, t4_1] rfl rfl (infoSzBig) rfl ONEt4.out ?_; intro w5 hbk hbl hsz; have HS := Lib.hid ((HS.out.below hbl)); have HS := Lib.hid (HS.out.add (a := (.blk (w4.heap.size) (.cells #[t4_0, t4_1] 24 (0, 0)))) hbk); have SZ5 := Lib.hid hsz; have HB := Lib.hid (HB.out.trans (hbl.mono HB.out.size)); clear hbk hbl hsz; clear zaA_0 zaA_1; have hblk := HS.out.blk (g := w.heap.size + 1) (o := .cells #[u_aB0, u_aB1] 29 (0, 0)) (List.mem_cons_of_mem _ (List.mem_cons_of_mem _ (List.mem_cons_of_mem _ (List.mem_cons_of_mem _ List.mem_cons_self)))); have zaB_0 := (blk_cell hblk 0).trans (rfl : _ = some u_aB0); have zaB_1 := (blk_cell hblk 1).trans (rfl : _ = some u_aB1); clear hblk)
    refine ((HTO_aB.out _ _ (RI_aB.out.below HB.out))).mono ?_
    rintro e w6 ⟨cs, rfl, hfr, hb⟩
    obtain ⟨t5_0, t5_1, rfl⟩ := cells2 (hfr.len.trans hn_aB)
    have HS := Lib.hid (HS.out.below hb)
    have SZ6 := Lib.hid (show w5.heap.size ≤ w6.heap.size from hb.size)
    have HB := Lib.hid (HB.out.trans (hb.mono HB.out.size))
    have HS := Lib.hid (HS.out.add (a := (.dat w5.heap.size w6.heap.size x_aB [t5_0, t5_1])) hfr.range)
    have ONEt5 := Lib.hid hfr.all
    clear hb hfr
    go_wp2_with (refine wpl_store_new' rfl 24 (.tmp 8) (.tmp 32) rfl _ #[t5_0, t5_1] rfl rfl (infoSzBig) rfl ONEt5.out ?_; intro w7 hbk hbl hsz; have HS := Lib.hid ((HS.out.below hbl)); have HS := Lib.hid (HS.out.add (a := (.blk (w6.heap.size) (.cells #[t5_0, t5_1] 24 (0, 0)))) hbk); have SZ7 := Lib.hid hsz; have HB := Lib.hid (HB.out.trans (hbl.mono HB.out.size)); clear hbk hbl hsz; clear zaB_0 zaB_1; have hblk := HS.out.blk (g := w4.heap.size) (o := .cells #[t4_0, t4_1] 24 (0, 0)) (List.mem_cons_of_mem _ (List.mem_cons_of_mem _ List.mem_cons_self)); have zbt4_0 := (blk_cell hblk 0).trans (rfl : _ = some t4_0); have zbt4_1 := (blk_cell hblk 1).trans (rfl : _ = some t4_1); clear hblk; have hblk := HS.out.blk (g := w6.heap.size) (o := .cells #[t5_0, t5_1] 24 (0, 0)) List.mem_cons_self; have zbt5_0 := (blk_cell hblk 0).trans (rfl : _ = some t5_0); have zbt5_1 := (blk_cell hblk 1).trans (rfl : _ = some t5_1); clear hblk)
    refine ((HIM.out _ _ _ (HS.out.dat (x := x_aA) (B := w3.heap.size) (C := w4.heap.size) (cs := [t4_0, t4_1]) (List.mem_cons_of_mem _ (List.mem_cons_of_mem _ (List.mem_cons_of_mem _ List.mem_cons_self)))).rd (HS.out.dat (x := x_aB) (B := w5.heap.size) (C := w6.heap.size) (cs := [t5_0, t5_1]) (List.mem_cons_of_mem _ List.mem_cons_self)).rd)).mono ?_
    rintro e w8 ⟨cs, rfl, hfr, hb⟩
    obtain ⟨q6_0, q6_1, q6_2, q6_3, q6_4, rfl⟩ := cells5 (hfr.len.trans hn_r)
    have HS := Lib.hid (HS.out.below hb)
    have SZ8 := Lib.hid (show w7.heap.size ≤ w8.heap.size from hb.size)
    have HB := Lib.hid (HB.out.trans (hb.mono HB.out.size))
    have HS := Lib.hid (HS.out.add (a := (.dat w7.heap.size w8.heap.size r [q6_0, q6_1, q6_2, q6_3, q6_4])) hfr.range)
    have ONEq6 := Lib.hid hfr.all
    clear hb hfr
    go_wp2_with (refine wpl_store_new' rfl 48 (.tmp 9) (.tmp 35) rfl _ #[q6_0, q6_1, q6_2, q6_3, q6_4] rfl rfl (infoSzBigPair) rfl ONEq6.out ?_; intro w9 hbk hbl hsz; have HS := Lib.hid ((HS.out.below hbl)); have HS := Lib.hid (HS.out.add (a := (.blk (w8.heap.size) (.cells #[q6_0, q6_1, q6_2, q6_3, q6_4] 48 (0, 0)))) hbk); have SZ9 := Lib.hid hsz; have HB := Lib.hid (HB.out.trans (hbl.mono HB.out.size)); clear hbk hbl hsz; clear zbt4_0 zbt4_1 zbt5_0 zbt5_1; have hblk := HS.out.blk (g := w8.heap.size) (o := .cells #[q6_0, q6_1, q6_2, q6_3, q6_4] 48 (0, 0)) List.mem_cons_self; have zbq6_0 := (blk_cell hblk 0).trans (rfl : _ = some q6_0); have zbq6_1 := (blk_cell hblk 1).trans (rfl : _ = some q6_1); have zbq6_2 := (blk_cell hblk 2).trans (rfl : _ = some q6_2); have zbq6_3 := (blk_cell hblk 3).trans (rfl : _ = some q6_3); have zbq6_4 := (blk_cell hblk 4).trans (rfl : _ = some q6_4); clear hblk; have hblk := HS.out.blk (g := g8) (o := .cells #[q3_0, q3_1, q3_2, q3_3, q3_4] 48 (0, 0)) (List.mem_cons_of_mem _ (List.mem_cons_of_mem _ (List.mem_cons_of_mem _ (List.mem_cons_of_mem _ (List.mem_cons_of_mem _ (List.mem_cons_of_mem _ List.mem_cons_self)))))); have zbq3_0 := (blk_cell hblk 0).trans (rfl : _ = some q3_0); have zbq3_1 := (blk_cell hblk 1).trans (rfl : _ = some q3_1); have zbq3_2 := (blk_cell hblk 2).trans (rfl : _ = some q3_2); have zbq3_3 := (blk_cell hblk 3).trans (rfl : _ = some q3_3); have zbq3_4 := (blk_cell hblk 4).trans (rfl : _ = some q3_4); clear hblk)
    refine ((HEQ_r.out _ _ _ (HS.out.dat (x := r) (B := w7.heap.size) (C := w8.heap.size) (cs := [q6_0, q6_1, q6_2, q6_3, q6_4]) (List.mem_cons_of_mem _ List.mem_cons_self)).rd (HS.out.dat (x := r) (B := B8) (C := C8) (cs := [q3_0, q3_1, q3_2, q3_3, q3_4]) (List.mem_cons_of_mem _ (List.mem_cons_of_mem _ (List.mem_cons_of_mem _ (List.mem_cons_of_mem _ (List.mem_cons_of_mem _ (List.mem_cons_of_mem _ (List.mem_cons_of_mem _ List.mem_cons_self)))))))).rd)).mono ?_
    rintro e w10 ⟨rfl, hb⟩
    have HS := Lib.hid (HS.out.below hb)
    have SZ10 := Lib.hid (show w9.heap.size ≤ w10.heap.size from hb.size)
    have HB := Lib.hid (HB.out.trans (hb.mono HB.out.size))
    clear hb
    clear zbq6_0 zbq6_1 zbq6_2 zbq6_3 zbq6_4 zbq3_0 zbq3_1 zbq3_2 zbq3_3 zbq3_4
    have hblk := HS.out.blk (g := w4.heap.size) (o := .cells #[t4_0, t4_1] 24 (0, 0)) (List.mem_cons_of_mem _ (List.mem_cons_of_mem _ (List.mem_cons_of_mem _ (List.mem_cons_of_mem _ List.mem_cons_self))))
    have zbt4_0 := (blk_cell hblk 0).trans (rfl : _ = some t4_0)
    have zbt4_1 := (blk_cell hblk 1).trans (rfl : _ = some t4_1)
    clear hblk
    have hblk := HS.out.blk (g := w.heap.size) (o := .cells #[u_aA0, u_aA1] 29 (0, 0)) (List.mem_cons_of_mem _ (List.mem_cons_of_mem _ (List.mem_cons_of_mem _ (List.mem_cons_of_mem _ (List.mem_cons_of_mem _ (List.mem_cons_of_mem _ (List.mem_cons_of_mem _ (List.mem_cons_of_mem _ (List.mem_cons_of_mem _ List.mem_cons_self)))))))))
    have zaA_0 := (blk_cell hblk 0).trans (rfl : _ = some u_aA0)
    have zaA_1 := (blk_cell hblk 1).trans (rfl : _ = some u_aA1)
    clear hblk
    go_wp2_with fail
    go_region_held3 (fun w' => w'.cell? ⟨w4.heap.size, 0, none⟩ = some t4_0 ∧ w'.cell? ⟨w4.heap.size, 1, none⟩ = some t4_1 ∧ w'.cell? ⟨w.heap.size, 0, none⟩ = some u_aA0 ∧ w'.cell? ⟨w.heap.size, 1, none⟩ = some u_aA1)
      (first | exact ⟨zbt4_0, zbt4_1, zaA_0, zaA_1⟩ | exact ⟨by simpa using blk_cell (HS.out.blk (g := w4.heap.size) (o := .cells #[t4_0, t4_1] 24 (0, 0)) (by simp)) 0, by simpa using blk_cell (HS.out.blk (g := w4.heap.size) (o := .cells #[t4_0, t4_1] 24 (0, 0)) (by simp)) 1, by simpa using blk_cell (HS.out.blk (g := w.heap.size) (o := .cells #[u_aA0, u_aA1] 29 (0, 0)) (by simp)) 0, by simpa using blk_cell (HS.out.blk (g := w.heap.size) (o := .cells #[u_aA0, u_aA1] 29 (0, 0)) (by simp)) 1⟩ | exact ⟨by simpa using blk_cell (blk_old (HS.out.blk (g := w4.heap.size) (o := .cells #[t4_0, t4_1] 24 (0, 0)) (by simp)) _) 0, by simpa using blk_cell (blk_old (HS.out.blk (g := w4.heap.size) (o := .cells #[t4_0, t4_1] 24 (0, 0)) (by simp)) _) 1, by simpa using blk_cell (blk_old (HS.out.blk (g := w.heap.size) (o := .cells #[u_aA0, u_aA1] 29 (0, 0)) (by simp)) _) 0, by simpa using blk_cell (blk_old (HS.out.blk (g := w.heap.size) (o := .cells #[u_aA0, u_aA1] 29 (0, 0)) (by simp)) _) 1⟩)
      (first
        | (go_at_call 22; have HB := Lib.hid HB.out.drew; have HS := Lib.hid HS.out.drew; have CT := (HTO_aA.out _ _ (RI_aA.out.below HB.out)); (with_reducible refine CT.mono ?_); clear CT; rintro e w11 ⟨cs, rfl, hfr, hb⟩; obtain ⟨t7_0, t7_1, rfl⟩ := cells2 (hfr.len.trans hn_aA); have HS := Lib.hid (HS.out.below hb); have SZ11 := Lib.hid (show w10.heap.size ≤ w11.heap.size from hb.size); have HB := Lib.hid (HB.out.trans (hb.mono HB.out.size)); have HS := Lib.hid (HS.out.add (a := (.dat w10.heap.size w11.heap.size x_aA [t7_0, t7_1])) hfr.range); have ONEt7 := Lib.hid hfr.all; clear hb hfr)
        | (go_at_call 17; have CT := (HEQ_aA.out _ _ _ (HS.out.dat (x := x_aA) (B := w3.heap.size) (C := w4.heap.size) (cs := [t4_0, t4_1]) (List.mem_cons_of_mem _ (List.mem_cons_of_mem _ (List.mem_cons_of_mem _ (List.mem_cons_of_mem _ (List.mem_cons_of_mem _ (List.mem_cons_of_mem _ List.mem_cons_self))))))).rd (HS.out.dat (x := x_aA) (B := w10.heap.size) (C := w11.heap.size) (cs := [t7_0, t7_1]) List.mem_cons_self).rd); (with_reducible refine CT.mono ?_); clear CT; rintro e w12 ⟨rfl, hb⟩; have HS := Lib.hid (HS.out.below hb); have SZ12 := Lib.hid (show w11.heap.size ≤ w12.heap.size from hb.size); have HB := Lib.hid (HB.out.trans (hb.mono HB.out.size)); clear hb))
    clear zbt4_0 zbt4_1 zaA_0 zaA_1
    have hblk := HS.out.blk (g := w6.heap.size) (o := .cells #[t5_0, t5_1] 24 (0, 0)) (List.mem_cons_of_mem _ (List.mem_cons_of_mem _ (List.mem_cons_of_mem _ List.mem_cons_self)))
    have zbt5_0 := (blk_cell hblk 0).trans (rfl : _ = some t5_0)
    have zbt5_1 := (blk_cell hblk 1).trans (rfl : _ = some t5_1)
    clear hblk
    have hblk := HS.out.blk (g := w.heap.size + 1) (o := .cells #[u_aB0, u_aB1] 29 (0, 0)) (List.mem_cons_of_mem _ (List.mem_cons_of_mem _ (List.mem_cons_of_mem _ (List.mem_cons_of_mem _ (List.mem_cons_of_mem _ (List.mem_cons_of_mem _ (List.mem_cons_of_mem _ (List.mem_cons_of_mem _ (List.mem_cons_of_mem _ List.mem_cons_self)))))))))
    have zaB_0 := (blk_cell hblk 0).trans (rfl : _ = some u_aB0)
    have zaB_1 := (blk_cell hblk 1).trans (rfl : _ = some u_aB1)
    clear hblk
    go_wp2_with fail
    go_region_held3 (fun w' => w'.cell? ⟨w6.heap.size, 0, none⟩ = some t5_0 ∧ w'.cell? ⟨w6.heap.size, 1, none⟩ = some t5_1 ∧ w'.cell? ⟨w.heap.size + 1, 0, none⟩ = some u_aB0 ∧ w'.cell? ⟨w.heap.size + 1, 1, none⟩ = some u_aB1)
      (first | exact ⟨zbt5_0, zbt5_1, zaB_0, zaB_1⟩ | exact ⟨by simpa using blk_cell (HS.out.blk (g := w6.heap.size) (o := .cells #[t5_0, t5_1] 24 (0, 0)) (by simp)) 0, by simpa using blk_cell (HS.out.blk (g := w6.heap.size) (o := .cells #[t5_0, t5_1] 24 (0, 0)) (by simp)) 1, by simpa using blk_cell (HS.out.blk (g := w.heap.size + 1) (o := .cells #[u_aB0, u_aB1] 29 (0, 0)) (by simp)) 0, by simpa using blk_cell (HS.out.blk (g := w.heap.size + 1) (o := .cells #[u_aB0, u_aB1] 29 (0, 0)) (by simp)) 1⟩ | exact ⟨by simpa using blk_cell (blk_old (HS.out.blk (g := w6.heap.size) (o := .cells #[t5_0, t5_1] 24 (0, 0)) (by simp)) _) 0, by simpa using blk_cell (blk_old (HS.out.blk (g := w6.heap.size) (o := .cells #[t5_0, t5_1] 24 (0, 0)) (by simp)) _) 1, by simpa using blk_cell (blk_old (HS.out.blk (g := w.heap.size + 1) (o := .cells #[u_aB0, u_aB1] 29 (0, 0)) (by simp)) _) 0, by simpa using blk_cell (blk_old (HS.out.blk (g := w.heap.size + 1) (o := .cells #[u_aB0, u_aB1] 29 (0, 0)) (by simp)) _) 1⟩)
      (first
        | (go_at_call 22; have HB := Lib.hid HB.out.drew; have HS := Lib.hid HS.out.drew; have CT := (HTO_aB.out _ _ (RI_aB.out.below HB.out)); (with_reducible refine CT.mono ?_); clear CT; rintro e w13 ⟨cs, rfl, hfr, hb⟩; obtain ⟨t8_0, t8_1, rfl⟩ := cells2 (hfr.len.trans hn_aB); have HS := Lib.hid (HS.out.below hb); have SZ13 := Lib.hid (show w12.heap.size ≤ w13.heap.size from hb.size); have HB := Lib.hid (HB.out.trans (hb.mono HB.out.size)); have HS := Lib.hid (HS.out.add (a := (.dat w12.heap.size w13.heap.size x_aB [t8_0, t8_1])) hfr.range); have ONEt8 := Lib.hid hfr.all; clear hb hfr)
        | (go_at_call 17; have CT := (HEQ_aB.out _ _ _ (HS.out.dat (x := x_aB) (B := w5.heap.size) (C := w6.heap.size) (cs := [t5_0, t5_1]) (List.mem_cons_of_mem _ (List.mem_cons_of_mem _ (List.mem_cons_of_mem _ (List.mem_cons_of_mem _ (List.mem_cons_of_mem _ List.mem_cons_self)))))).rd (HS.out.dat (x := x_aB) (B := w12.heap.size) (C := w13.heap.size) (cs := [t8_0, t8_1]) List.mem_cons_self).rd); (with_reducible refine CT.mono ?_); clear CT; rintro e w14 ⟨rfl, hb⟩; have HS := Lib.hid (HS.out.below hb); have SZ14 := Lib.hid (show w13.heap.size ≤ w14.heap.size from hb.size); have HB := Lib.hid (HB.out.trans (hb.mono HB.out.size)); clear hb))
    clear zbt5_0 zbt5_1 zaB_0 zaB_1
    have hblk := HS.out.blk (g := w4.heap.size) (o := .cells #[t4_0, t4_1] 24 (0, 0)) (List.mem_cons_of_mem _ (List.mem_cons_of_mem _ (List.mem_cons_of_mem _ (List.mem_cons_of_mem _ (List.mem_cons_of_mem _ (List.mem_cons_of_mem _ List.mem_cons_self))))))
    have zbt4_0 := (blk_cell hblk 0).trans (rfl : _ = some t4_0)
    have zbt4_1 := (blk_cell hblk 1).trans (rfl : _ = some t4_1)
    clear hblk
    go_wp2_with fail
    have sSZ0 := SZ0.out
    have sSZ1 := SZ1.out
    have sSZ2 := SZ2.out
    have sSZ3 := SZ3.out
    have sSZ4 := SZ4.out
    have sSZ5 := SZ5.out
    have sSZ6 := SZ6.out
    have sSZ7 := SZ7.out
    have sSZ8 := SZ8.out
    have sSZ9 := SZ9.out
    have sSZ10 := SZ10.out
    have sSZ11 := SZ11.out
    have sSZ12 := SZ12.out
    have sSZ13 := SZ13.out
    have sSZ14 := SZ14.out
    have hcn := HMK_aA.out.1
    refine (HMK_aA.out.2.one (HS.out.dat (x := x_aA) (B := w3.heap.size) (C := w4.heap.size) (cs := [t4_0, t4_1]) (List.mem_cons_of_mem _ (List.mem_cons_of_mem _ (List.mem_cons_of_mem _ (List.mem_cons_of_mem _ (List.mem_cons_of_mem _ (List.mem_cons_of_mem _ (List.mem_cons_of_mem _ List.mem_cons_self)))))))) (by omega)).mono ?_
    rintro e w15 ⟨n1, hn1, rfl, hf, ht⟩
    have HS := Lib.hid (Has.touch (Has.mid (l1 := [(.dat w12.heap.size w13.heap.size x_aB [t8_0, t8_1]), (.dat w10.heap.size w11.heap.size x_aA [t7_0, t7_1]), (.blk (w8.heap.size) (.cells #[q6_0, q6_1, q6_2, q6_3, q6_4] 48 (0, 0))), (.dat w7.heap.size w8.heap.size r [q6_0, q6_1, q6_2, q6_3, q6_4]), (.blk (w6.heap.size) (.cells #[t5_0, t5_1] 24 (0, 0))), (.dat w5.heap.size w6.heap.size x_aB [t5_0, t5_1]), (.blk (w4.heap.size) (.cells #[t4_0, t4_1] 24 (0, 0)))]) (l2 := [(.blk (g8) (.cells #[q3_0, q3_1, q3_2, q3_3, q3_4] 48 (0, 0))), (.dat B8 C8 r [q3_0, q3_1, q3_2, q3_3, q3_4]), (.blk (w.heap.size + 1) (.cells #[u_aB0, u_aB1] 29 (0, 0))), (.blk (w.heap.size) (.cells #[u_aA0, u_aA1] 29 (0, 0)))]) HS.out) ht (ap_cons (show _ ∨ _ by omega) (ap_cons (show _ ∨ _ by omega) (ap_cons (show _ ∨ _ by omega) (ap_cons (show _ ∨ _ by omega) (ap_cons (show _ ∨ _ by omega) (ap_cons (show _ ∨ _ by omega) (ap_cons (show _ ∨ _ by omega) (ap_cons (show _ ∨ _ by omega) (ap_cons (show _ ∨ _ by omega) (ap_cons (show _ ∨ _ by omega) (ap_cons (show _ ∨ _ by omega) (ap_nil)))))))))))))
    have SZ15 := Lib.hid (show w14.heap.size ≤ w15.heap.size from ht.size)
    have HS := Lib.hid (HS.out.add (a := (.dat w3.heap.size w4.heap.size (x_aA.top 1) [t4_0, t4_1])) hf)
    have HB := Lib.hid (ht.below HB.out (by omega) HB.out.size)
    have NNn1 : Hid (n1 = 1 + x_aA.tcnt ∧ n1 ≤ 1099511627777) := ⟨hn1, by omega⟩
    clear hf ht hn1 hcn sSZ0 sSZ1 sSZ2 sSZ3 sSZ4 sSZ5 sSZ6 sSZ7 sSZ8 sSZ9 sSZ10 sSZ11 sSZ12 sSZ13 sSZ14
    have hng : decide ((n1 : Int) < 0) = false := decide_eq_false (by omega)
    clear zbt4_0 zbt4_1
    have hblk := HS.out.blk (g := w6.heap.size) (o := .cells #[t5_0, t5_1] 24 (0, 0)) (List.mem_cons_of_mem _ (List.mem_cons_of_mem _ (List.mem_cons_of_mem _ (List.mem_cons_of_mem _ (List.mem_cons_of_mem _ List.mem_cons_self)))))
    have zbt5_0 := (blk_cell hblk 0).trans (rfl : _ = some t5_0)
    have zbt5_1 := (blk_cell hblk 1).trans (rfl : _ = some t5_1)
    clear hblk
    go_wp2_with fail
    have sSZ0 := SZ0.out
    have sSZ1 := SZ1.out
    have sSZ2 := SZ2.out
    have sSZ3 := SZ3.out
    have sSZ4 := SZ4.out
    have sSZ5 := SZ5.out
    have sSZ6 := SZ6.out
    have sSZ7 := SZ7.out
    have sSZ8 := SZ8.out
    have sSZ9 := SZ9.out
    have sSZ10 := SZ10.out
    have sSZ11 := SZ11.out
    have sSZ12 := SZ12.out
    have sSZ13 := SZ13.out
    have sSZ14 := SZ14.out
    have sSZ15 := SZ15.out
    have hcn := HMK_aB.out.1
    have hk0 := NNn1.out
    refine (HMK_aB.out.2.at_ (k := n1) (HS.out.dat (x := x_aB) (B := w5.heap.size) (C := w6.heap.size) (cs := [t5_0, t5_1]) (List.mem_cons_of_mem _ (List.mem_cons_of_mem _ (List.mem_cons_of_mem _ (List.mem_cons_of_mem _ (List.mem_cons_of_mem _ (List.mem_cons_of_mem _ List.mem_cons_self))))))) (by omega)).mono ?_
    rintro e w16 ⟨n2, hn2, rfl, hf, ht⟩
    have HS := Lib.hid (Has.touch (Has.mid (l1 := [(.dat w3.heap.size w4.heap.size (x_aA.top 1) [t4_0, t4_1]), (.dat w12.heap.size w13.heap.size x_aB [t8_0, t8_1]), (.dat w10.heap.size w11.heap.size x_aA [t7_0, t7_1]), (.blk (w8.heap.size) (.cells #[q6_0, q6_1, q6_2, q6_3, q6_4] 48 (0, 0))), (.dat w7.heap.size w8.heap.size r [q6_0, q6_1, q6_2, q6_3, q6_4]), (.blk (w6.heap.size) (.cells #[t5_0, t5_1] 24 (0, 0)))]) (l2 := [(.blk (w4.heap.size) (.cells #[t4_0, t4_1] 24 (0, 0))), (.blk (g8) (.cells #[q3_0, q3_1, q3_2, q3_3, q3_4] 48 (0, 0))), (.dat B8 C8 r [q3_0, q3_1, q3_2, q3_3, q3_4]), (.blk (w.heap.size + 1) (.cells #[u_aB0, u_aB1] 29 (0, 0))), (.blk (w.heap.size) (.cells #[u_aA0, u_aA1] 29 (0, 0)))]) HS.out) ht (ap_cons (show _ ∨ _ by omega) (ap_cons (show _ ∨ _ by omega) (ap_cons (show _ ∨ _ by omega) (ap_cons (show _ ∨ _ by omega) (ap_cons (show _ ∨ _ by omega) (ap_cons (show _ ∨ _ by omega) (ap_cons (show _ ∨ _ by omega) (ap_cons (show _ ∨ _ by omega) (ap_cons (show _ ∨ _ by omega) (ap_cons (show _ ∨ _ by omega) (ap_cons (show _ ∨ _ by omega) (ap_nil)))))))))))))
    have SZ16 := Lib.hid (show w15.heap.size ≤ w16.heap.size from ht.size)
    have HS := Lib.hid (HS.out.add (a := (.dat w5.heap.size w6.heap.size (x_aB.top n1) [t5_0, t5_1])) hf)
    have HB := Lib.hid (ht.below HB.out (by omega) HB.out.size)
    have NNn2 : Hid (n2 = n1 + x_aB.tcnt ∧ n2 ≤ 2199023255553) := ⟨hn2, by omega⟩
    clear hf ht hn2 hcn hk0 sSZ0 sSZ1 sSZ2 sSZ3 sSZ4 sSZ5 sSZ6 sSZ7 sSZ8 sSZ9 sSZ10 sSZ11 sSZ12 sSZ13 sSZ14 sSZ15
    have hng : decide ((n2 : Int) < 0) = false := decide_eq_false (by omega)
    clear zbt5_0 zbt5_1
    have hblk := HS.out.blk (g := w8.heap.size) (o := .cells #[q6_0, q6_1, q6_2, q6_3, q6_4] 48 (0, 0)) (List.mem_cons_of_mem _ (List.mem_cons_of_mem _ (List.mem_cons_of_mem _ (List.mem_cons_of_mem _ List.mem_cons_self))))
    have zbq6_0 := (blk_cell hblk 0).trans (rfl : _ = some q6_0)
    have zbq6_1 := (blk_cell hblk 1).trans (rfl : _ = some q6_1)
    have zbq6_2 := (blk_cell hblk 2).trans (rfl : _ = some q6_2)
    have zbq6_3 := (blk_cell hblk 3).trans (rfl : _ = some q6_3)
    have zbq6_4 := (blk_cell hblk 4).trans (rfl : _ = some q6_4)
    clear hblk
    have hblk := HS.out.blk (g := g8) (o := .cells #[q3_0, q3_1, q3_2, q3_3, q3_4] 48 (0, 0)) (List.mem_cons_of_mem _ (List.mem_cons_of_mem _ (List.mem_cons_of_mem _ (List.mem_cons_of_mem _ (List.mem_cons_of_mem _ (List.mem_cons_of_mem _ (List.mem_cons_of_mem _ (List.mem_cons_of_mem _ List.mem_cons_self))))))))
    have zbq3_0 := (blk_cell hblk 0).trans (rfl : _ = some q3_0)
    have zbq3_1 := (blk_cell hblk 1).trans (rfl : _ = some q3_1)
    have zbq3_2 := (blk_cell hblk 2).trans (rfl : _ = some q3_2)
    have zbq3_3 := (blk_cell hblk 3).trans (rfl : _ = some q3_3)
    have zbq3_4 := (blk_cell hblk 4).trans (rfl : _ = some q3_4)
    clear hblk
    go_wp2_with fail
    refine ((HEQ_r.out _ _ _ (HS.out.dat (x := r) (B := w7.heap.size) (C := w8.heap.size) (cs := [q6_0, q6_1, q6_2, q6_3, q6_4]) (List.mem_cons_of_mem _ (List.mem_cons_of_mem _ (List.mem_cons_of_mem _ (List.mem_cons_of_mem _ (List.mem_cons_of_mem _ List.mem_cons_self)))))).rd (HS.out.dat (x := r) (B := B8) (C := C8) (cs := [q3_0, q3_1, q3_2, q3_3, q3_4]) (List.mem_cons_of_mem _ (List.mem_cons_of_mem _ (List.mem_cons_of_mem _ (List.mem_cons_of_mem _ (List.mem_cons_of_mem _ (List.mem_cons_of_mem _ (List.mem_cons_of_mem _ (List.mem_cons_of_mem _ (List.mem_cons_of_mem _ List.mem_cons_self)))))))))).rd)).mono ?_
    rintro e w17 ⟨rfl, hb⟩
    have HS := Lib.hid (HS.out.below hb)
    have SZ17 := Lib.hid (show w16.heap.size ≤ w17.heap.size from hb.size)
    have HB := Lib.hid (HB.out.trans (hb.mono HB.out.size))
    clear hb
    clear zbq6_0 zbq6_1 zbq6_2 zbq6_3 zbq6_4 zbq3_0 zbq3_1 zbq3_2 zbq3_3 zbq3_4
    have hblk := HS.out.blk (g := w8.heap.size) (o := .cells #[q6_0, q6_1, q6_2, q6_3, q6_4] 48 (0, 0)) (List.mem_cons_of_mem _ (List.mem_cons_of_mem _ (List.mem_cons_of_mem _ (List.mem_cons_of_mem _ List.mem_cons_self))))
    have zbq6_0 := (blk_cell hblk 0).trans (rfl : _ = some q6_0)
    have zbq6_1 := (blk_cell hblk 1).trans (rfl : _ = some q6_1)
    have zbq6_2 := (blk_cell hblk 2).trans (rfl : _ = some q6_2)
    have zbq6_3 := (blk_cell hblk 3).trans (rfl : _ = some q6_3)
    have zbq6_4 := (blk_cell hblk 4).trans (rfl : _ = some q6_4)
    clear hblk
    go_wp2_with fail
    have sSZ0 := SZ0.out
    have sSZ1 := SZ1.out
    have sSZ2 := SZ2.out
    have sSZ3 := SZ3.out
    have sSZ4 := SZ4.out
    have sSZ5 := SZ5.out
    have sSZ6 := SZ6.out
    have sSZ7 := SZ7.out
    have sSZ8 := SZ8.out
    have sSZ9 := SZ9.out
    have sSZ10 := SZ10.out
    have sSZ11 := SZ11.out
    have sSZ12 := SZ12.out
    have sSZ13 := SZ13.out
    have sSZ14 := SZ14.out
    have sSZ15 := SZ15.out
    have sSZ16 := SZ16.out
    have sSZ17 := SZ17.out
    have hcn := HMK_r.out.1
    refine (HMK_r.out.2.1.one (HS.out.dat (x := r) (B := w7.heap.size) (C := w8.heap.size) (cs := [q6_0, q6_1, q6_2, q6_3, q6_4]) (List.mem_cons_of_mem _ (List.mem_cons_of_mem _ (List.mem_cons_of_mem _ (List.mem_cons_of_mem _ (List.mem_cons_of_mem _ List.mem_cons_self)))))) (by omega)).mono ?_
    rintro e w18 ⟨n3, hn3, rfl, hf, ht⟩
    have HS := Lib.hid (Has.touch (Has.mid (l1 := [(.dat w5.heap.size w6.heap.size (x_aB.top n1) [t5_0, t5_1]), (.dat w3.heap.size w4.heap.size (x_aA.top 1) [t4_0, t4_1]), (.dat w12.heap.size w13.heap.size x_aB [t8_0, t8_1]), (.dat w10.heap.size w11.heap.size x_aA [t7_0, t7_1]), (.blk (w8.heap.size) (.cells #[q6_0, q6_1, q6_2, q6_3, q6_4] 48 (0, 0)))]) (l2 := [(.blk (w6.heap.size) (.cells #[t5_0, t5_1] 24 (0, 0))), (.blk (w4.heap.size) (.cells #[t4_0, t4_1] 24 (0, 0))), (.blk (g8) (.cells #[q3_0, q3_1, q3_2, q3_3, q3_4] 48 (0, 0))), (.dat B8 C8 r [q3_0, q3_1, q3_2, q3_3, q3_4]), (.blk (w.heap.size + 1) (.cells #[u_aB0, u_aB1] 29 (0, 0))), (.blk (w.heap.size) (.cells #[u_aA0, u_aA1] 29 (0, 0)))]) HS.out) ht (ap_cons (show _ ∨ _ by omega) (ap_cons (show _ ∨ _ by omega) (ap_cons (show _ ∨ _ by omega) (ap_cons (show _ ∨ _ by omega) (ap_cons (show _ ∨ _ by omega) (ap_cons (show _ ∨ _ by omega) (ap_cons (show _ ∨ _ by omega) (ap_cons (show _ ∨ _ by omega) (ap_cons (show _ ∨ _ by omega) (ap_cons (show _ ∨ _ by omega) (ap_cons (show _ ∨ _ by omega) (ap_nil)))))))))))))
    have SZ18 := Lib.hid (show w17.heap.size ≤ w18.heap.size from ht.size)
    have HS := Lib.hid (HS.out.add (a := (.dat w7.heap.size w8.heap.size (r.top 1) [q6_0, q6_1, q6_2, q6_3, q6_4])) hf)
    have HB := Lib.hid (ht.below HB.out (by omega) HB.out.size)
    have NNn3 : Hid (n3 = 1 + r.tcnt ∧ n3 ≤ 1099511627777) := ⟨hn3, by omega⟩
    clear hf ht hn3 hcn sSZ0 sSZ1 sSZ2 sSZ3 sSZ4 sSZ5 sSZ6 sSZ7 sSZ8 sSZ9 sSZ10 sSZ11 sSZ12 sSZ13 sSZ14 sSZ15 sSZ16 sSZ17
    have hng : decide ((n3 : Int) < 0) = false := decide_eq_false (by omega)
    clear zbq6_0 zbq6_1 zbq6_2 zbq6_3 zbq6_4
    have hblk := HS.out.blk (g := w8.heap.size) (o := .cells #[q6_0, q6_1, q6_2, q6_3, q6_4] 48 (0, 0)) (List.mem_cons_of_mem _ (List.mem_cons_of_mem _ (List.mem_cons_of_mem _ (List.mem_cons_of_mem _ (List.mem_cons_of_mem _ List.mem_cons_self)))))
    have zbq6_0 := (blk_cell hblk 0).trans (rfl : _ = some q6_0)
    have zbq6_1 := (blk_cell hblk 1).trans (rfl : _ = some q6_1)
    have zbq6_2 := (blk_cell hblk 2).trans (rfl : _ = some q6_2)
    have zbq6_3 := (blk_cell hblk 3).trans (rfl : _ = some q6_3)
    have zbq6_4 := (blk_cell hblk 4).trans (rfl : _ = some q6_4)
    clear hblk
    go_wp2_with fail
    have sSZ0 := SZ0.out
    have sSZ1 := SZ1.out
    have sSZ2 := SZ2.out
    have sSZ3 := SZ3.out
    have sSZ4 := SZ4.out
    have sSZ5 := SZ5.out
    have sSZ6 := SZ6.out
    have sSZ7 := SZ7.out
    have sSZ8 := SZ8.out
    have sSZ9 := SZ9.out
    have sSZ10 := SZ10.out
    have sSZ11 := SZ11.out
    have sSZ12 := SZ12.out
    have sSZ13 := SZ13.out
    have sSZ14 := SZ14.out
    have sSZ15 := SZ15.out
    have sSZ16 := SZ16.out
    have sSZ17 := SZ17.out
    have sSZ18 := SZ18.out
    have hcn := HMK_r.out.1
    refine (HMK_r.out.2.2.one (HS.out.dat (x := (r.top 1)) (B := w7.heap.size) (C := w8.heap.size) (cs := [q6_0, q6_1, q6_2, q6_3, q6_4]) List.mem_cons_self).rd (by omega)).mono ?_
    rintro e w19 ⟨n4, hn4, rfl, hb⟩
    have HS := Lib.hid (HS.out.below hb)
    have SZ19 := Lib.hid (show w18.heap.size ≤ w19.heap.size from hb.size)
    have HB := Lib.hid (HB.out.trans (hb.mono HB.out.size))
    have NNn4 : Hid (n4 = 1 + r.tcnt ∧ n4 ≤ 1099511627777) := ⟨hn4, by omega⟩
    clear hb hn4 hcn sSZ0 sSZ1 sSZ2 sSZ3 sSZ4 sSZ5 sSZ6 sSZ7 sSZ8 sSZ9 sSZ10 sSZ11 sSZ12 sSZ13 sSZ14 sSZ15 sSZ16 sSZ17 sSZ18
    obtain rfl : n3 = n4 := by have h1 := NNn4.out; have h2 := NNn3.out; omega
    have hng : decide ((n3 : Int) < 0) = false := decide_eq_false (by omega)
    clear zbq6_0 zbq6_1 zbq6_2 zbq6_3 zbq6_4
    have hblk := HS.out.blk (g := w.heap.size) (o := .cells #[u_aA0, u_aA1] 29 (0, 0)) (List.mem_cons_of_mem _ (List.mem_cons_of_mem _ (List.mem_cons_of_mem _ (List.mem_cons_of_mem _ (List.mem_cons_of_mem _ (List.mem_cons_of_mem _ (List.mem_cons_of_mem _ (List.mem_cons_of_mem _ (List.mem_cons_of_mem _ (List.mem_cons_of_mem _ (List.mem_cons_of_mem _ List.mem_cons_self)))))))))))
    have zaA_0 := (blk_cell hblk 0).trans (rfl : _ = some u_aA0)
    have zaA_1 := (blk_cell hblk 1).trans (rfl : _ = some u_aA1)
    clear hblk
    have hblk := HS.out.blk (g := w.heap.size + 1) (o := .cells #[u_aB0, u_aB1] 29 (0, 0)) (List.mem_cons_of_mem _ (List.mem_cons_of_mem _ (List.mem_cons_of_mem _ (List.mem_cons_of_mem _ (List.mem_cons_of_mem _ (List.mem_cons_of_mem _ (List.mem_cons_of_mem _ (List.mem_cons_of_mem _ (List.mem_cons_of_mem _ (List.mem_cons_of_mem _ List.mem_cons_self))))))))))
    have zaB_0 := (blk_cell hblk 0).trans (rfl : _ = some u_aB0)
    have zaB_1 := (blk_cell hblk 1).trans (rfl : _ = some u_aB1)
    clear hblk
    go_upto_region 31 with fail
    go_cut [13] from 14 (fun v wx => BoxR 48 w19.heap.size r [(.dat w7.heap.size w8.heap.size (r.top 1) [q6_0, q6_1, q6_2, q6_3, q6_4]), (.dat w5.heap.size w6.heap.size (x_aB.top n1) [t5_0, t5_1]), (.dat w3.heap.size w4.heap.size (x_aA.top 1) [t4_0, t4_1]), (.dat w12.heap.size w13.heap.size x_aB [t8_0, t8_1]), (.dat w10.heap.size w11.heap.size x_aA [t7_0, t7_1]), (.blk (w8.heap.size) (.cells #[q6_0, q6_1, q6_2, q6_3, q6_4] 48 (0, 0))), (.blk (w6.heap.size) (.cells #[t5_0, t5_1] 24 (0, 0))), (.blk (w4.heap.size) (.cells #[t4_0, t4_1] 24 (0, 0))), (.blk (g8) (.cells #[q3_0, q3_1, q3_2, q3_3, q3_4] 48 (0, 0))), (.dat B8 C8 r [q3_0, q3_1, q3_2, q3_3, q3_4]), (.blk (w.heap.size + 1) (.cells #[u_aB0, u_aB1] 29 (0, 0))), (.blk (w.heap.size) (.cells #[u_aA0, u_aA1] 29 (0, 0)))] w v wx)
    case first =>
      have hblk := HS.out.blk (g := w.heap.size) (o := .cells #[u_aA0, u_aA1] 29 (0, 0)) (List.mem_cons_of_mem _ (List.mem_cons_of_mem _ (List.mem_cons_of_mem _ (List.mem_cons_of_mem _ (List.mem_cons_of_mem _ (List.mem_cons_of_mem _ (List.mem_cons_of_mem _ (List.mem_cons_of_mem _ (List.mem_cons_of_mem _ (List.mem_cons_of_mem _ (List.mem_cons_of_mem _ List.mem_cons_self)))))))))))
      have yaA_0 := (blk_cell hblk 0).trans (rfl : _ = some u_aA0)
      have yaA_1 := (blk_cell hblk 1).trans (rfl : _ = some u_aA1)
      have vaA_0 := fun o => (blk_cell (blk_old hblk o) 0).trans (rfl : _ = some u_aA0)
      have vaA_1 := fun o => (blk_cell (blk_old hblk o) 1).trans (rfl : _ = some u_aA1)
      clear hblk
      have hblk := HS.out.blk (g := w.heap.size + 1) (o := .cells #[u_aB0, u_aB1] 29 (0, 0)) (List.mem_cons_of_mem _ (List.mem_cons_of_mem _ (List.mem_cons_of_mem _ (List.mem_cons_of_mem _ (List.mem_cons_of_mem _ (List.mem_cons_of_mem _ (List.mem_cons_of_mem _ (List.mem_cons_of_mem _ (List.mem_cons_of_mem _ (List.mem_cons_of_mem _ List.mem_cons_self))))))))))
      have yaB_0 := (blk_cell hblk 0).trans (rfl : _ = some u_aB0)
      have yaB_1 := (blk_cell hblk 1).trans (rfl : _ = some u_aB1)
      have vaB_0 := fun o => (blk_cell (blk_old hblk o) 0).trans (rfl : _ = some u_aB0)
      have vaB_1 := fun o => (blk_cell (blk_old hblk o) 1).trans (rfl : _ = some u_aB1)
      clear hblk
      go_region_held3 (fun w' => w'.cell? ⟨w.heap.size, 0, none⟩ = some u_aA0 ∧ w'.cell? ⟨w.heap.size, 1, none⟩ = some u_aA1 ∧ w'.cell? ⟨w.heap.size + 1, 0, none⟩ = some u_aB0 ∧ w'.cell? ⟨w.heap.size + 1, 1, none⟩ = some u_aB1)
        (first | (with_reducible exact ⟨bs1_FnExactBigDivMod (bs1_FnExactBigDivMod (bs1_FnExactBigDivMod (bs1_FnExactBigDivMod (bs1_FnExactBigDivMod (yaA_0) hneaA) hneaA) hneaA) hneaA) hneaA, bs1_FnExactBigDivMod (bs1_FnExactBigDivMod (bs1_FnExactBigDivMod (bs1_FnExactBigDivMod (bs1_FnExactBigDivMod (yaA_1) hneaA) hneaA) hneaA) hneaA) hneaA, bs1_FnExactBigDivMod (bs1_FnExactBigDivMod (bs1_FnExactBigDivMod (bs1_FnExactBigDivMod (bs1_FnExactBigDivMod (yaB_0) hneaB) hneaB) hneaB) hneaB) hneaB, bs1_FnExactBigDivMod (bs1_FnExactBigDivMod (bs1_FnExactBigDivMod (bs1_FnExactBigDivMod (bs1_FnExactBigDivMod (yaB_1) hneaB) hneaB) hneaB) hneaB) hneaB⟩) | exact ⟨yaA_0, yaA_1, yaB_0, yaB_1⟩ | exact ⟨vaA_0 _, vaA_1 _, vaB_0 _, vaB_1 _⟩)
        (first
          | (go_at_call 22; have HB := Lib.hid HB.out.drew; have HS := Lib.hid HS.out.drew; have CT := (HTO_aA.out _ _ (RI_aA.out.below HB.out)); (with_reducible refine CT.mono ?_); clear CT; rintro e w20 ⟨cs, rfl, hfr, hb⟩; obtain ⟨t9_0, t9_1, rfl⟩ := cells2 (hfr.len.trans hn_aA); have HS := Lib.hid (HS.out.below hb); have SZ20 := Lib.hid (show w19.heap.size ≤ w20.heap.size from hb.size); have HB := Lib.hid (HB.out.trans (hb.mono HB.out.size)); have HS := Lib.hid (HS.out.add (a := (.dat w19.heap.size w20.heap.size x_aA [t9_0, t9_1])) hfr.range); (try (have HZ := Lib.hid (blk_below HZ.out hb))); clear hb hfr; have hblk := HS.out.blk (g := w.heap.size) (o := .cells #[u_aA0, u_aA1] 29 (0, 0)) (List.mem_cons_of_mem _ (List.mem_cons_of_mem _ (List.mem_cons_of_mem _ (List.mem_cons_of_mem _ (List.mem_cons_of_mem _ (List.mem_cons_of_mem _ (List.mem_cons_of_mem _ (List.mem_cons_of_mem _ (List.mem_cons_of_mem _ (List.mem_cons_of_mem _ (List.mem_cons_of_mem _ (List.mem_cons_of_mem _ List.mem_cons_self)))))))))))); have yaA_0 := (blk_cell hblk 0).trans (rfl : _ = some u_aA0); have yaA_1 := (blk_cell hblk 1).trans (rfl : _ = some u_aA1); have vaA_0 := fun o => (blk_cell (blk_old hblk o) 0).trans (rfl : _ = some u_aA0); have vaA_1 := fun o => (blk_cell (blk_old hblk o) 1).trans (rfl : _ = some u_aA1); clear hblk; have hblk := HS.out.blk (g := w.heap.size + 1) (o := .cells #[u_aB0, u_aB1] 29 (0, 0)) (List.mem_cons_of_mem _ (List.mem_cons_of_mem _ (List.mem_cons_of_mem _ (List.mem_cons_of_mem _ (List.mem_cons_of_mem _ (List.mem_cons_of_mem _ (List.mem_cons_of_mem _ (List.mem_cons_of_mem _ (List.mem_cons_of_mem _ (List.mem_cons_of_mem _ (List.mem_cons_of_mem _ List.mem_cons_self))))))))))); have yaB_0 := (blk_cell hblk 0).trans (rfl : _ = some u_aB0); have yaB_1 := (blk_cell hblk 1).trans (rfl : _ = some u_aB1); have vaB_0 := fun o => (blk_cell (blk_old hblk o) 0).trans (rfl : _ = some u_aB0); have vaB_1 := fun o => (blk_cell (blk_old hblk o) 1).trans (rfl : _ = some u_aB1); clear hblk)
          | (go_at_call 22; have hal := (Below.refl w19.heap.size w19).alloc (Nat.le_refl _) (.cells #[.int .i64 0, .bool false, .slice none 0 0, .bool false, .slice none 0 0] 48); have HS := Lib.hid (HS.out.below hal); have HB := Lib.hid (HB.out.trans (hal.mono HB.out.size)); have HZ := Lib.hid (blk_new w19 (.cells #[.int .i64 0, .bool false, .slice none 0 0, .bool false, .slice none 0 0] 48)); have hsz0 := alloc_sz w19 (.cells #[.int .i64 0, .bool false, .slice none 0 0, .bool false, .slice none 0 0] 48); clear hal; have HB := Lib.hid HB.out.drew; have HS := Lib.hid HS.out.drew; have HZ := Lib.hid (blk_drew HZ.out); have CT := (HTO_aA.out _ _ (RI_aA.out.below HB.out)); (with_reducible refine CT.mono ?_); clear CT; rintro e w20 ⟨cs, rfl, hfr, hb⟩; obtain ⟨t9_0, t9_1, rfl⟩ := cells2 (hfr.len.trans hn_aA); have HS := Lib.hid (HS.out.below hb); have SZ20 := Lib.hid (show w19.heap.size + 1 ≤ w20.heap.size from lt_of_alloc hb.size); have HB := Lib.hid (HB.out.trans (hb.mono HB.out.size)); have HS := Lib.hid (HS.out.add (a := (.dat w19.heap.size w20.heap.size x_aA [t9_0, t9_1])) (FrR.lower hfr.range (alloc_le w19 _))); (try (have HZ := Lib.hid (blk_below HZ.out hb))); clear hb hfr; have hblk := HS.out.blk (g := w.heap.size) (o := .cells #[u_aA0, u_aA1] 29 (0, 0)) (List.mem_cons_of_mem _ (List.mem_cons_of_mem _ (List.mem_cons_of_mem _ (List.mem_cons_of_mem _ (List.mem_cons_of_mem _ (List.mem_cons_of_mem _ (List.mem_cons_of_mem _ (List.mem_cons_of_mem _ (List.mem_cons_of_mem _ (List.mem_cons_of_mem _ (List.mem_cons_of_mem _ (List.mem_cons_of_mem _ List.mem_cons_self)))))))))))); have yaA_0 := (blk_cell hblk 0).trans (rfl : _ = some u_aA0); have yaA_1 := (blk_cell hblk 1).trans (rfl : _ = some u_aA1); have vaA_0 := fun o => (blk_cell (blk_old hblk o) 0).trans (rfl : _ = some u_aA0); have vaA_1 := fun o => (blk_cell (blk_old hblk o) 1).trans (rfl : _ = some u_aA1); clear hblk; have hblk := HS.out.blk (g := w.heap.size + 1) (o := .cells #[u_aB0, u_aB1] 29 (0, 0)) (List.mem_cons_of_mem _ (List.mem_cons_of_mem _ (List.mem_cons_of_mem _ (List.mem_cons_of_mem _ (List.mem_cons_of_mem _ (List.mem_cons_of_mem _ (List.mem_cons_of_mem _ (List.mem_cons_of_mem _ (List.mem_cons_of_mem _ (List.mem_cons_of_mem _ (List.mem_cons_of_mem _ List.mem_cons_self))))))))))); have yaB_0 := (blk_cell hblk 0).trans (rfl : _ = some u_aB0); have yaB_1 := (blk_cell hblk 1).trans (rfl : _ = some u_aB1); have vaB_0 := fun o => (blk_cell (blk_old hblk o) 0).trans (rfl : _ = some u_aB0); have vaB_1 := fun o => (blk_cell (blk_old hblk o) 1).trans (rfl : _ = some u_aB1); clear hblk)
          | (go_at_call 22; have CT := (HTO_aB.out _ _ (RI_aB.out.below HB.out)); (with_reducible refine CT.mono ?_); clear CT; rintro e w21 ⟨cs, rfl, hfr, hb⟩; obtain ⟨t10_0, t10_1, rfl⟩ := cells2 (hfr.len.trans hn_aB); have HS := Lib.hid (HS.out.below hb); have SZ21 := Lib.hid (show w20.heap.size ≤ w21.heap.size from hb.size); have HB := Lib.hid (HB.out.trans (hb.mono HB.out.size)); have HS := Lib.hid (HS.out.add (a := (.dat w20.heap.size w21.heap.size x_aB [t10_0, t10_1])) hfr.range); (try (have HZ := Lib.hid (blk_below HZ.out hb))); clear hb hfr; have hblk := HS.out.blk (g := w.heap.size) (o := .cells #[u_aA0, u_aA1] 29 (0, 0)) (List.mem_cons_of_mem _ (List.mem_cons_of_mem _ (List.mem_cons_of_mem _ (List.mem_cons_of_mem _ (List.mem_cons_of_mem _ (List.mem_cons_of_mem _ (List.mem_cons_of_mem _ (List.mem_cons_of_mem _ (List.mem_cons_of_mem _ (List.mem_cons_of_mem _ (List.mem_cons_of_mem _ (List.mem_cons_of_mem _ (List.mem_cons_of_mem _ List.mem_cons_self))))))))))))); have yaA_0 := (blk_cell hblk 0).trans (rfl : _ = some u_aA0); have yaA_1 := (blk_cell hblk 1).trans (rfl : _ = some u_aA1); have vaA_0 := fun o => (blk_cell (blk_old hblk o) 0).trans (rfl : _ = some u_aA0); have vaA_1 := fun o => (blk_cell (blk_old hblk o) 1).trans (rfl : _ = some u_aA1); clear hblk; have hblk := HS.out.blk (g := w.heap.size + 1) (o := .cells #[u_aB0, u_aB1] 29 (0, 0)) (List.mem_cons_of_mem _ (List.mem_cons_of_mem _ (List.mem_cons_of_mem _ (List.mem_cons_of_mem _ (List.mem_cons_of_mem _ (List.mem_cons_of_mem _ (List.mem_cons_of_mem _ (List.mem_cons_of_mem _ (List.mem_cons_of_mem _ (List.mem_cons_of_mem _ (List.mem_cons_of_mem _ (List.mem_cons_of_mem _ List.mem_cons_self)))))))))))); have yaB_0 := (blk_cell hblk 0).trans (rfl : _ = some u_aB0); have yaB_1 := (blk_cell hblk 1).trans (rfl : _ = some u_aB1); have vaB_0 := fun o => (blk_cell (blk_old hblk o) 0).trans (rfl : _ = some u_aB0); have vaB_1 := fun o => (blk_cell (blk_old hblk o) 1).trans (rfl : _ = some u_aB1); clear hblk)
          | (go_at_call 22; have hal := (Below.refl w20.heap.size w20).alloc (Nat.le_refl _) (.cells #[.int .i64 0, .bool false, .slice none 0 0, .bool false, .slice none 0 0] 48); have HS := Lib.hid (HS.out.below hal); have HB := Lib.hid (HB.out.trans (hal.mono HB.out.size)); have HZ := Lib.hid (blk_new w20 (.cells #[.int .i64 0, .bool false, .slice none 0 0, .bool false, .slice none 0 0] 48)); have hsz1 := alloc_sz w20 (.cells #[.int .i64 0, .bool false, .slice none 0 0, .bool false, .slice none 0 0] 48); clear hal; have CT := (HTO_aB.out _ _ (RI_aB.out.below HB.out)); (with_reducible refine CT.mono ?_); clear CT; rintro e w21 ⟨cs, rfl, hfr, hb⟩; obtain ⟨t10_0, t10_1, rfl⟩ := cells2 (hfr.len.trans hn_aB); have HS := Lib.hid (HS.out.below hb); have SZ21 := Lib.hid (show w20.heap.size + 1 ≤ w21.heap.size from lt_of_alloc hb.size); have HB := Lib.hid (HB.out.trans (hb.mono HB.out.size)); have HS := Lib.hid (HS.out.add (a := (.dat w20.heap.size w21.heap.size x_aB [t10_0, t10_1])) (FrR.lower hfr.range (alloc_le w20 _))); (try (have HZ := Lib.hid (blk_below HZ.out hb))); clear hb hfr; have hblk := HS.out.blk (g := w.heap.size) (o := .cells #[u_aA0, u_aA1] 29 (0, 0)) (List.mem_cons_of_mem _ (List.mem_cons_of_mem _ (List.mem_cons_of_mem _ (List.mem_cons_of_mem _ (List.mem_cons_of_mem _ (List.mem_cons_of_mem _ (List.mem_cons_of_mem _ (List.mem_cons_of_mem _ (List.mem_cons_of_mem _ (List.mem_cons_of_mem _ (List.mem_cons_of_mem _ (List.mem_cons_of_mem _ (List.mem_cons_of_mem _ List.mem_cons_self))))))))))))); have yaA_0 := (blk_cell hblk 0).trans (rfl : _ = some u_aA0); have yaA_1 := (blk_cell hblk 1).trans (rfl : _ = some u_aA1); have vaA_0 := fun o => (blk_cell (blk_old hblk o) 0).trans (rfl : _ = some u_aA0); have vaA_1 := fun o => (blk_cell (blk_old hblk o) 1).trans (rfl : _ = some u_aA1); clear hblk; have hblk := HS.out.blk (g := w.heap.size + 1) (o := .cells #[u_aB0, u_aB1] 29 (0, 0)) (List.mem_cons_of_mem _ (List.mem_cons_of_mem _ (List.mem_cons_of_mem _ (List.mem_cons_of_mem _ (List.mem_cons_of_mem _ (List.mem_cons_of_mem _ (List.mem_cons_of_mem _ (List.mem_cons_of_mem _ (List.mem_cons_of_mem _ (List.mem_cons_of_mem _ (List.mem_cons_of_mem _ (List.mem_cons_of_mem _ List.mem_cons_self)))))))))))); have yaB_0 := (blk_cell hblk 0).trans (rfl : _ = some u_aB0); have yaB_1 := (blk_cell hblk 1).trans (rfl : _ = some u_aB1); have vaB_0 := fun o => (blk_cell (blk_old hblk o) 0).trans (rfl : _ = some u_aB0); have vaB_1 := fun o => (blk_cell (blk_old hblk o) 1).trans (rfl : _ = some u_aB1); clear hblk)
          | (go_at_call 41; have CT := (HIM.out _ _ _ (HS.out.dat (x := x_aA) (B := w19.heap.size) (C := w20.heap.size) (cs := [t9_0, t9_1]) (List.mem_cons_of_mem _ List.mem_cons_self)).rd (HS.out.dat (x := x_aB) (B := w20.heap.size) (C := w21.heap.size) (cs := [t10_0, t10_1]) List.mem_cons_self).rd); (with_reducible refine CT.mono ?_); clear CT; rintro e w22 ⟨cs, rfl, hfr, hb⟩; obtain ⟨q11_0, q11_1, q11_2, q11_3, q11_4, rfl⟩ := cells5 (hfr.len.trans hn_r); have st0 := run_store_one (P := Try.prog) (hfr.one q11_0 (by simp)); have st1 := run_store_one (P := Try.prog) (hfr.one q11_1 (by simp)); have st2 := run_store_one (P := Try.prog) (hfr.one q11_2 (by simp)); have st3 := run_store_one (P := Try.prog) (hfr.one q11_3 (by simp)); have st4 := run_store_one (P := Try.prog) (hfr.one q11_4 (by simp)); have HS := Lib.hid (HS.out.below hb); have SZ22 := Lib.hid (show w21.heap.size ≤ w22.heap.size from hb.size); have HB := Lib.hid (HB.out.trans (hb.mono HB.out.size)); have HQ := Lib.hid hfr.range; (try (have HZ := Lib.hid (blk_below HZ.out hb); have x0 := (blk_cell HZ.out 0).trans (rfl : (_ : Option Value) = some (.int .i64 0)); have f0 := blk_frozen HZ.out 0; have x1 := (blk_cell HZ.out 1).trans (rfl : (_ : Option Value) = some (.bool false)); have f1 := blk_frozen HZ.out 1; have x2 := (blk_cell HZ.out 2).trans (rfl : (_ : Option Value) = some (.slice none 0 0)); have f2 := blk_frozen HZ.out 2; have x3 := (blk_cell HZ.out 3).trans (rfl : (_ : Option Value) = some (.bool false)); have f3 := blk_frozen HZ.out 3; have x4 := (blk_cell HZ.out 4).trans (rfl : (_ : Option Value) = some (.slice none 0 0)); have f4 := blk_frozen HZ.out 4; have hblk := HS.out.blk (g := w.heap.size) (o := .cells #[u_aA0, u_aA1] 29 (0, 0)) (List.mem_cons_of_mem _ (List.mem_cons_of_mem _ (List.mem_cons_of_mem _ (List.mem_cons_of_mem _ (List.mem_cons_of_mem _ (List.mem_cons_of_mem _ (List.mem_cons_of_mem _ (List.mem_cons_of_mem _ (List.mem_cons_of_mem _ (List.mem_cons_of_mem _ (List.mem_cons_of_mem _ (List.mem_cons_of_mem _ (List.mem_cons_of_mem _ List.mem_cons_self))))))))))))); have hneaA := net_FnExactBigDivMod hblk HZ.out (by decide); clear hblk; have hblk := HS.out.blk (g := w.heap.size + 1) (o := .cells #[u_aB0, u_aB1] 29 (0, 0)) (List.mem_cons_of_mem _ (List.mem_cons_of_mem _ (List.mem_cons_of_mem _ (List.mem_cons_of_mem _ (List.mem_cons_of_mem _ (List.mem_cons_of_mem _ (List.mem_cons_of_mem _ (List.mem_cons_of_mem _ (List.mem_cons_of_mem _ (List.mem_cons_of_mem _ (List.mem_cons_of_mem _ (List.mem_cons_of_mem _ List.mem_cons_self)))))))))))); have hneaB := net_FnExactBigDivMod hblk HZ.out (by decide); clear hblk)); clear hb hfr; have hblk := HS.out.blk (g := w.heap.size) (o := .cells #[u_aA0, u_aA1] 29 (0, 0)) (List.mem_cons_of_mem _ (List.mem_cons_of_mem _ (List.mem_cons_of_mem _ (List.mem_cons_of_mem _ (List.mem_cons_of_mem _ (List.mem_cons_of_mem _ (List.mem_cons_of_mem _ (List.mem_cons_of_mem _ (List.mem_cons_of_mem _ (List.mem_cons_of_mem _ (List.mem_cons_of_mem _ (List.mem_cons_of_mem _ (List.mem_cons_of_mem _ List.mem_cons_self))))))))))))); have yaA_0 := (blk_cell hblk 0).trans (rfl : _ = some u_aA0); have yaA_1 := (blk_cell hblk 1).trans (rfl : _ = some u_aA1); have vaA_0 := fun o => (blk_cell (blk_old hblk o) 0).trans (rfl : _ = some u_aA0); have vaA_1 := fun o => (blk_cell (blk_old hblk o) 1).trans (rfl : _ = some u_aA1); clear hblk; have hblk := HS.out.blk (g := w.heap.size + 1) (o := .cells #[u_aB0, u_aB1] 29 (0, 0)) (List.mem_cons_of_mem _ (List.mem_cons_of_mem _ (List.mem_cons_of_mem _ (List.mem_cons_of_mem _ (List.mem_cons_of_mem _ (List.mem_cons_of_mem _ (List.mem_cons_of_mem _ (List.mem_cons_of_mem _ (List.mem_cons_of_mem _ (List.mem_cons_of_mem _ (List.mem_cons_of_mem _ (List.mem_cons_of_mem _ List.mem_cons_self)))))))))))); have yaB_0 := (blk_cell hblk 0).trans (rfl : _ = some u_aB0); have yaB_1 := (blk_cell hblk 1).trans (rfl : _ = some u_aB1); have vaB_0 := fun o => (blk_cell (blk_old hblk o) 0).trans (rfl : _ = some u_aB0); have vaB_1 := fun o => (blk_cell (blk_old hblk o) 1).trans (rfl : _ = some u_aB1); clear hblk)
          | (go_at_call 41; have hal := (Below.refl w21.heap.size w21).alloc (Nat.le_refl _) (.cells #[.int .i64 0, .bool false, .slice none 0 0, .bool false, .slice none 0 0] 48); have HS := Lib.hid (HS.out.below hal); have HB := Lib.hid (HB.out.trans (hal.mono HB.out.size)); have HZ := Lib.hid (blk_new w21 (.cells #[.int .i64 0, .bool false, .slice none 0 0, .bool false, .slice none 0 0] 48)); have hsz2 := alloc_sz w21 (.cells #[.int .i64 0, .bool false, .slice none 0 0, .bool false, .slice none 0 0] 48); clear hal; have CT := (HIM.out _ _ _ (HS.out.dat (x := x_aA) (B := w19.heap.size) (C := w20.heap.size) (cs := [t9_0, t9_1]) (List.mem_cons_of_mem _ List.mem_cons_self)).rd (HS.out.dat (x := x_aB) (B := w20.heap.size) (C := w21.heap.size) (cs := [t10_0, t10_1]) List.mem_cons_self).rd); (with_reducible refine CT.mono ?_); clear CT; rintro e w22 ⟨cs, rfl, hfr, hb⟩; obtain ⟨q11_0, q11_1, q11_2, q11_3, q11_4, rfl⟩ := cells5 (hfr.len.trans hn_r); have st0 := run_store_one (P := Try.prog) (hfr.one q11_0 (by simp)); have st1 := run_store_one (P := Try.prog) (hfr.one q11_1 (by simp)); have st2 := run_store_one (P := Try.prog) (hfr.one q11_2 (by simp)); have st3 := run_store_one (P := Try.prog) (hfr.one q11_3 (by simp)); have st4 := run_store_one (P := Try.prog) (hfr.one q11_4 (by simp)); have HS := Lib.hid (HS.out.below hb); have SZ22 := Lib.hid (show w21.heap.size + 1 ≤ w22.heap.size from lt_of_alloc hb.size); have HB := Lib.hid (HB.out.trans (hb.mono HB.out.size)); have HQ := Lib.hid hfr.range; (try (have HZ := Lib.hid (blk_below HZ.out hb); have x0 := (blk_cell HZ.out 0).trans (rfl : (_ : Option Value) = some (.int .i64 0)); have f0 := blk_frozen HZ.out 0; have x1 := (blk_cell HZ.out 1).trans (rfl : (_ : Option Value) = some (.bool false)); have f1 := blk_frozen HZ.out 1; have x2 := (blk_cell HZ.out 2).trans (rfl : (_ : Option Value) = some (.slice none 0 0)); have f2 := blk_frozen HZ.out 2; have x3 := (blk_cell HZ.out 3).trans (rfl : (_ : Option Value) = some (.bool false)); have f3 := blk_frozen HZ.out 3; have x4 := (blk_cell HZ.out 4).trans (rfl : (_ : Option Value) = some (.slice none 0 0)); have f4 := blk_frozen HZ.out 4; have hblk := HS.out.blk (g := w.heap.size) (o := .cells #[u_aA0, u_aA1] 29 (0, 0)) (List.mem_cons_of_mem _ (List.mem_cons_of_mem _ (List.mem_cons_of_mem _ (List.mem_cons_of_mem _ (List.mem_cons_of_mem _ (List.mem_cons_of_mem _ (List.mem_cons_of_mem _ (List.mem_cons_of_mem _ (List.mem_cons_of_mem _ (List.mem_cons_of_mem _ (List.mem_cons_of_mem _ (List.mem_cons_of_mem _ (List.mem_cons_of_mem _ List.mem_cons_self))))))))))))); have hneaA := net_FnExactBigDivMod hblk HZ.out (by decide); clear hblk; have hblk := HS.out.blk (g := w.heap.size + 1) (o := .cells #[u_aB0, u_aB1] 29 (0, 0)) (List.mem_cons_of_mem _ (List.mem_cons_of_mem _ (List.mem_cons_of_mem _ (List.mem_cons_of_mem _ (List.mem_cons_of_mem _ (List.mem_cons_of_mem _ (List.mem_cons_of_mem _ (List.mem_cons_of_mem _ (List.mem_cons_of_mem _ (List.mem_cons_of_mem _ (List.mem_cons_of_mem _ (List.mem_cons_of_mem _ List.mem_cons_self)))))))))))); have hneaB := net_FnExactBigDivMod hblk HZ.out (by decide); clear hblk)); clear hb hfr; have hblk := HS.out.blk (g := w.heap.size) (o := .cells #[u_aA0, u_aA1] 29 (0, 0)) (List.mem_cons_of_mem _ (List.mem_cons_of_mem _ (List.mem_cons_of_mem _ (List.mem_cons_of_mem _ (List.mem_cons_of_mem _ (List.mem_cons_of_mem _ (List.mem_cons_of_mem _ (List.mem_cons_of_mem _ (List.mem_cons_of_mem _ (List.mem_cons_of_mem _ (List.mem_cons_of_mem _ (List.mem_cons_of_mem _ (List.mem_cons_of_mem _ List.mem_cons_self))))))))))))); have yaA_0 := (blk_cell hblk 0).trans (rfl : _ = some u_aA0); have yaA_1 := (blk_cell hblk 1).trans (rfl : _ = some u_aA1); have vaA_0 := fun o => (blk_cell (blk_old hblk o) 0).trans (rfl : _ = some u_aA0); have vaA_1 := fun o => (blk_cell (blk_old hblk o) 1).trans (rfl : _ = some u_aA1); clear hblk; have hblk := HS.out.blk (g := w.heap.size + 1) (o := .cells #[u_aB0, u_aB1] 29 (0, 0)) (List.mem_cons_of_mem _ (List.mem_cons_of_mem _ (List.mem_cons_of_mem _ (List.mem_cons_of_mem _ (List.mem_cons_of_mem _ (List.mem_cons_of_mem _ (List.mem_cons_of_mem _ (List.mem_cons_of_mem _ (List.mem_cons_of_mem _ (List.mem_cons_of_mem _ (List.mem_cons_of_mem _ (List.mem_cons_of_mem _ List.mem_cons_self)))))))))))); have yaB_0 := (blk_cell hblk 0).trans (rfl : _ = some u_aB0); have yaB_1 := (blk_cell hblk 1).trans (rfl : _ = some u_aB1); have vaB_0 := fun o => (blk_cell (blk_old hblk o) 0).trans (rfl : _ = some u_aB0); have vaB_1 := fun o => (blk_cell (blk_old hblk o) 1).trans (rfl : _ = some u_aB1); clear hblk))
      all_goals (go_wp2_with fail; go_meet)
      all_goals (have sSZ0 := SZ0.out; have sSZ1 := SZ1.out; have sSZ2 := SZ2.out; have sSZ3 := SZ3.out; have sSZ4 := SZ4.out; have sSZ5 := SZ5.out; have sSZ6 := SZ6.out; have sSZ7 := SZ7.out; have sSZ8 := SZ8.out; have sSZ9 := SZ9.out; have sSZ10 := SZ10.out; have sSZ11 := SZ11.out; have sSZ12 := SZ12.out; have sSZ13 := SZ13.out; have sSZ14 := SZ14.out; have sSZ15 := SZ15.out; have sSZ16 := SZ16.out; have sSZ17 := SZ17.out; have sSZ18 := SZ18.out; have sSZ19 := SZ19.out; have sSZ20 := SZ20.out; have sSZ21 := SZ21.out; have sSZ22 := SZ22.out)
      all_goals first
        | ((with_reducible refine boxR_new' (cs := [q11_0, q11_1, q11_2, q11_3, q11_4]) ?_); exact ⟨_, _, HS.out.tail.tail, HQ.out, HB.out, by omega, by omega, by omega⟩)
        | (have szq := blk_lt HZ.out; refine boxR_set' (w := w22) (cs := [q11_0, q11_1, q11_2, q11_3, q11_4]) rfl ?_; exact ⟨_, _, _, HS.out.tail.tail, ap_cons (show _ ∨ _ by omega) (ap_cons (show _ ∨ _ by omega) (ap_cons (show _ ∨ _ by omega) (ap_cons (show _ ∨ _ by omega) (ap_cons (show _ ∨ _ by omega) (ap_cons (show _ ∨ _ by omega) (ap_cons (show _ ∨ _ by omega) (ap_cons (show _ ∨ _ by omega) (ap_cons (show _ ∨ _ by omega) (ap_cons (show _ ∨ _ by omega) (ap_cons (show _ ∨ _ by omega) (ap_cons (show _ ∨ _ by omega) (ap_nil)))))))))))), HZ.out, rfl, HQ.out, HB.out, by omega, by omega, by omega, by omega, by omega⟩)
    case rest =>
      obtain ⟨g31, cs, B31, C31, rfl, ho, hl, hs, hb, hz1, hz2, hz3, hz4, hz5⟩ := hcut
      obtain ⟨q11_0, q11_1, q11_2, q11_3, q11_4, rfl⟩ := cells5 (hl.trans hn_r)
      obtain ⟨w20, rfl⟩ : ∃ v, v = wc := ⟨_, rfl⟩
      have HS : Hid (Has [(.blk (g31) (.cells #[q11_0, q11_1, q11_2, q11_3, q11_4] 48 (0, 0))), (.dat B31 C31 r [q11_0, q11_1, q11_2, q11_3, q11_4]), (.dat w7.heap.size w8.heap.size (r.top 1) [q6_0, q6_1, q6_2, q6_3, q6_4]), (.dat w5.heap.size w6.heap.size (x_aB.top n1) [t5_0, t5_1]), (.dat w3.heap.size w4.heap.size (x_aA.top 1) [t4_0, t4_1]), (.dat w12.heap.size w13.heap.size x_aB [t8_0, t8_1]), (.dat w10.heap.size w11.heap.size x_aA [t7_0, t7_1]), (.blk (w8.heap.size) (.cells #[q6_0, q6_1, q6_2, q6_3, q6_4] 48 (0, 0))), (.blk (w6.heap.size) (.cells #[t5_0, t5_1] 24 (0, 0))), (.blk (w4.heap.size) (.cells #[t4_0, t4_1] 24 (0, 0))), (.blk (g8) (.cells #[q3_0, q3_1, q3_2, q3_3, q3_4] 48 (0, 0))), (.dat B8 C8 r [q3_0, q3_1, q3_2, q3_3, q3_4]), (.blk (w.heap.size + 1) (.cells #[u_aB0, u_aB1] 29 (0, 0))), (.blk (w.heap.size) (.cells #[u_aA0, u_aA1] 29 (0, 0)))] w20) := hs
      have HB := Lib.hid hb
      have SZ20 : Hid (w19.heap.size ≤ g31 ∧ g31 < w20.heap.size ∧ w19.heap.size ≤ B31 ∧ C31 ≤ w20.heap.size ∧ (g31 < B31 ∨ C31 ≤ g31)) := ⟨hz1, hz2, hz3, hz4, hz5⟩
      have ONEq11 := Lib.hid ho
      clear ho hl hs hb hz1 hz2 hz3 hz4 hz5
      clear zaA_0 zaA_1 zaB_0 zaB_1
      have hblk := HS.out.blk (g := g31) (o := .cells #[q11_0, q11_1, q11_2, q11_3, q11_4] 48 (0, 0)) List.mem_cons_self
      have zbq11_0 := (blk_cell hblk 0).trans (rfl : _ = some q11_0)
      have zbq11_1 := (blk_cell hblk 1).trans (rfl : _ = some q11_1)
      have zbq11_2 := (blk_cell hblk 2).trans (rfl : _ = some q11_2)
      have zbq11_3 := (blk_cell hblk 3).trans (rfl : _ = some q11_3)
      have zbq11_4 := (blk_cell hblk 4).trans (rfl : _ = some q11_4)
      clear hblk
      have hblk := HS.out.blk (g := g8) (o := .cells #[q3_0, q3_1, q3_2, q3_3, q3_4] 48 (0, 0)) (List.mem_cons_of_mem _ (List.mem_cons_of_mem _ (List.mem_cons_of_mem _ (List.mem_cons_of_mem _ (List.mem_cons_of_mem _ (List.mem_cons_of_mem _ (List.mem_cons_of_mem _ (List.mem_cons_of_mem _ (List.mem_cons_of_mem _ (List.mem_cons_of_mem _ List.mem_cons_self))))))))))
      have zbq3_0 := (blk_cell hblk 0).trans (rfl : _ = some q3_0)
      have zbq3_1 := (blk_cell hblk 1).trans (rfl : _ = some q3_1)
      have zbq3_2 := (blk_cell hblk 2).trans (rfl : _ = some q3_2)
      have zbq3_3 := (blk_cell hblk 3).trans (rfl : _ = some q3_3)
      have zbq3_4 := (blk_cell hblk 4).trans (rfl : _ = some q3_4)
      clear hblk
      go_wp2_with fail
      refine ((HEQ_r.out _ _ _ (HS.out.dat (x := r) (B := B31) (C := C31) (cs := [q11_0, q11_1, q11_2, q11_3, q11_4]) (List.mem_cons_of_mem _ List.mem_cons_self)).rd (HS.out.dat (x := r) (B := B8) (C := C8) (cs := [q3_0, q3_1, q3_2, q3_3, q3_4]) (List.mem_cons_of_mem _ (List.mem_cons_of_mem _ (List.mem_cons_of_mem _ (List.mem_cons_of_mem _ (List.mem_cons_of_mem _ (List.mem_cons_of_mem _ (List.mem_cons_of_mem _ (List.mem_cons_of_mem _ (List.mem_cons_of_mem _ (List.mem_cons_of_mem _ (List.mem_cons_of_mem _ List.mem_cons_self)))))))))))).rd)).mono ?_
      rintro e w21 ⟨rfl, hb⟩
      have HS := Lib.hid (HS.out.below hb)
      have SZ21 := Lib.hid (show w20.heap.size ≤ w21.heap.size from hb.size)
      have HB := Lib.hid (HB.out.trans (hb.mono HB.out.size))
      clear hb
      clear zbq11_0 zbq11_1 zbq11_2 zbq11_3 zbq11_4 zbq3_0 zbq3_1 zbq3_2 zbq3_3 zbq3_4
      have hblk := HS.out.blk (g := w8.heap.size) (o := .cells #[q6_0, q6_1, q6_2, q6_3, q6_4] 48 (0, 0)) (List.mem_cons_of_mem _ (List.mem_cons_of_mem _ (List.mem_cons_of_mem _ (List.mem_cons_of_mem _ (List.mem_cons_of_mem _ (List.mem_cons_of_mem _ (List.mem_cons_of_mem _ List.mem_cons_self)))))))
      have zbq6_0 := (blk_cell hblk 0).trans (rfl : _ = some q6_0)
      have zbq6_1 := (blk_cell hblk 1).trans (rfl : _ = some q6_1)
      have zbq6_2 := (blk_cell hblk 2).trans (rfl : _ = some q6_2)
      have zbq6_3 := (blk_cell hblk 3).trans (rfl : _ = some q6_3)
      have zbq6_4 := (blk_cell hblk 4).trans (rfl : _ = some q6_4)
      clear hblk
      go_wp2_with fail
      have sSZ0 := SZ0.out
      have sSZ1 := SZ1.out
      have sSZ2 := SZ2.out
      have sSZ3 := SZ3.out
      have sSZ4 := SZ4.out
      have sSZ5 := SZ5.out
      have sSZ6 := SZ6.out
      have sSZ7 := SZ7.out
      have sSZ8 := SZ8.out
      have sSZ9 := SZ9.out
      have sSZ10 := SZ10.out
      have sSZ11 := SZ11.out
      have sSZ12 := SZ12.out
      have sSZ13 := SZ13.out
      have sSZ14 := SZ14.out
      have sSZ15 := SZ15.out
      have sSZ16 := SZ16.out
      have sSZ17 := SZ17.out
      have sSZ18 := SZ18.out
      have sSZ19 := SZ19.out
      have sSZ20 := SZ20.out
      have sSZ21 := SZ21.out
      have hcn := HMK_r.out.1
      refine (HMK_r.out.2.2.one (HS.out.dat (x := (r.top 1)) (B := w7.heap.size) (C := w8.heap.size) (cs := [q6_0, q6_1, q6_2, q6_3, q6_4]) (List.mem_cons_of_mem _ (List.mem_cons_of_mem _ List.mem_cons_self))).rd (by omega)).mono ?_
      rintro e w22 ⟨n5, hn5, rfl, hb⟩
      have HS := Lib.hid (HS.out.below hb)
      have SZ22 := Lib.hid (show w21.heap.size ≤ w22.heap.size from hb.size)
      have HB := Lib.hid (HB.out.trans (hb.mono HB.out.size))
      have NNn5 : Hid (n5 = 1 + r.tcnt ∧ n5 ≤ 1099511627777) := ⟨hn5, by omega⟩
      clear hb hn5 hcn sSZ0 sSZ1 sSZ2 sSZ3 sSZ4 sSZ5 sSZ6 sSZ7 sSZ8 sSZ9 sSZ10 sSZ11 sSZ12 sSZ13 sSZ14 sSZ15 sSZ16 sSZ17 sSZ18 sSZ19 sSZ20 sSZ21
      obtain rfl : n3 = n5 := by have h1 := NNn5.out; have h2 := NNn3.out; omega
      have hng : decide ((n3 : Int) < 0) = false := decide_eq_false (by omega)
      go_wp2
      go_ret
      exact ⟨rfl, HB.out⟩

end Go.Proofs.Ytajmeeppigdjnaa
