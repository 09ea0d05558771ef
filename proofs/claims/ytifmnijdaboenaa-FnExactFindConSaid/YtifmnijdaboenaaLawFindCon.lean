/- The law 'FnExactFindCon' walked: over whatever both functions answer alike; no condition. -/
import Derived.Test.YtifmnijdaboenaaFmTyS
import Derived.Test.YtifmnijdaboenaaFmPred
import Derived.Test.YtifmnijdaboenaaFmTabs
import Derived.Test.YtifmnijdaboenaaFamTabs
import Derived.Test.YtifmnijdaboenaaFamScheme
import Derived.Deep.RegionHeld3
import Derived.Deep.RegionWith
import Derived.Deep.DeepCutAuto
import Derived.Deep.CutBlock
namespace Go.Proofs.Ytifmnijdaboenaa
open Go.RowKit
set_option linter.unusedVariables false
set_option linter.unusedSimpArgs false

theorem infoSzConInfo : (Try.prog.info? 63).map (·.size) = some 5 := by kernel_rfl
theorem infoSzTables : (Try.prog.info? 40).map (·.size) = some 5 := by kernel_rfl
theorem bs1_FnExactFindCon {w : World} {g i : Nat} {q : Addr} {v u : Value} (h : w.cell? q = some v) (hne : q.block ≠ g) : (w.setCell ⟨g, i, none⟩ u).cell? q = some v := (World.cell?_of_block (a := q) (Below.heap_setCell w ⟨g, i, none⟩ u q.block hne)).trans h
theorem net_FnExactFindCon {w : World} {a b : Nat} {c1 c2 : Array Value} {T1 T2 : TypeId} {f1 f2 : Nat × Nat} (h1 : w.heap[a]? = some (.cells c1 T1 f1)) (h2 : w.heap[b]? = some (.cells c2 T2 f2)) (hT : T2 ≠ T1) : a ≠ b := fun e => by
  subst e
  rw [h1] at h2
  injection h2 with h2
  injection h2 with _ h2 _
  exact hT h2.symm
set_option maxRecDepth 100000 in
set_option maxHeartbeats 40000000 in
theorem lawFnExactFindCon (x_aT : D) (s_aName : ByteArray) (r : D) (hn_aT : x_aT.n = 5)
    (SZ_aT : SzA Try.prog 23 x_aT)
    (TO_aT : x_aT.bulk ≤ 1048576 → ToA Try.prog 25 x_aT)
    (EQ_aT : EqA Try.prog 20 x_aT)
    (MK_aT : x_aT.bulk ≤ 1048576 → x_aT.tcnt ≤ 1099511627776 ∧ MkA Try.prog 21 x_aT)
    (hn_r : r.n = 5)
    (EQ_r : EqA Try.prog 32 r)
    (MK_r : x_aT.bulk ≤ 1048576 → s_aName.size ≤ 1048576 → r.tcnt ≤ 1099511627776 ∧ MkA Try.prog 33 r ∧ HdA Try.prog 34 r)
    (SP : x_aT.bulk ≤ 1048576 → s_aName.size ≤ 1048576 → ∀ (w : World) (c_aT : List Value), Rd w x_aT c_aT → Calls Try.prog 30 #[.agg c_aT.toArray, .string s_aName] w fun e w' => ∃ cs', e = .returned (.agg cs'.toArray) ∧ Fr w.heap.size w' r cs' ∧ Below w.heap.size w w')
    (IM : x_aT.bulk ≤ 1048576 → s_aName.size ≤ 1048576 → ∀ (w : World) (c_aT : List Value), Rd w x_aT c_aT → Calls Try.prog 31 #[.agg c_aT.toArray, .string s_aName] w fun e w' => ∃ cs', e = .returned (.agg cs'.toArray) ∧ Fr w.heap.size w' r cs' ∧ Below w.heap.size w w') (w : World) (c_aT : List Value) (rd_aT : Rd w x_aT c_aT) (hs_aName : s_aName.size ≤ 140737488351232) :
    Calls Try.prog 7 #[.agg c_aT.toArray, .string s_aName] w fun e w' => e = .returned (.bool true) ∧ Below w.heap.size w w' := by
  obtain ⟨u_aT0, u_aT1, u_aT2, u_aT3, u_aT4, rfl⟩ := cells5 (rd_aT.len.trans hn_aT)
  have HSZ_aT := Lib.hid SZ_aT
  have HTO_aT := Lib.hid TO_aT
  have HEQ_aT := Lib.hid EQ_aT
  have HMK_aT := Lib.hid MK_aT
  have HEQ_r := Lib.hid EQ_r
  have HMK_r := Lib.hid MK_r
  have HSP := Lib.hid SP
  have HIM := Lib.hid IM
  have RI_aT := Lib.hid rd_aT
  clear SZ_aT TO_aT EQ_aT MK_aT EQ_r MK_r SP IM rd_aT
  have HB := Lib.hid (show Below w.heap.size w (w.alloc (.cells #[u_aT0, u_aT1, u_aT2, u_aT3, u_aT4] 51)) from ((Below.refl w.heap.size w).alloc (by simp) (.cells #[u_aT0, u_aT1, u_aT2, u_aT3, u_aT4] 51)))
  have HS := Lib.hid (((Has.nil w).below ((Below.refl _ _).alloc (Nat.le_refl _) (.cells #[u_aT0, u_aT1, u_aT2, u_aT3, u_aT4] 51))).add (a := .blk w.heap.size (.cells #[u_aT0, u_aT1, u_aT2, u_aT3, u_aT4] 51 (0, 0))) (blk_new w (.cells #[u_aT0, u_aT1, u_aT2, u_aT3, u_aT4] 51)))
  have SZ0 := Lib.hid (show (w.alloc (.cells #[u_aT0, u_aT1, u_aT2, u_aT3, u_aT4] 51)).heap.size = w.heap.size + 1 by simp)
  by_cases hq_aName : s_aName.size ≤ 1048576
  rotate_left
  · have hq' : 1048576 < s_aName.size := by omega
    go_enter Try.func7, Try.ntmps7
    go_wp2_with fail
    go_ret
    exact ⟨rfl, HB.out⟩
  go_enter Try.func7, Try.ntmps7
  go_wp2_with fail
  generalize hw0 : (w.alloc (.cells #[u_aT0, u_aT1, u_aT2, u_aT3, u_aT4] 51)) = w0 at *
  clear hw0
  refine ((HSZ_aT.out _ _ (1048576) (RI_aT.out.below HB.out) (by omega) (by omega))).mono ?_
  rintro e w1 ⟨rfl, hb⟩
  have HS := Lib.hid (HS.out.below hb)
  have SZ1 := Lib.hid (show w0.heap.size ≤ w1.heap.size from hb.size)
  have HB := Lib.hid (HB.out.trans (hb.mono HB.out.size))
  clear hb
  by_cases hzaT : (1048576 : Int) < x_aT.bulk
  · rw [szR_neg' hzaT]
    go_wp2
    go_ret
    exact ⟨rfl, HB.out⟩
  rw [szR_fit (by omega)]
  have HTO_aT := Lib.hid (HTO_aT.out (by omega))
  have HMK_aT := Lib.hid (HMK_aT.out (by omega))
  have HSP := Lib.hid (HSP.out (by omega) (by omega))
  have HIM := Lib.hid (HIM.out (by omega) (by omega))
  have HMK_r := Lib.hid (HMK_r.out (by omega) (by omega))
  have hblk := HS.out.blk (g := w.heap.size) (o := .cells #[u_aT0, u_aT1, u_aT2, u_aT3, u_aT4] 51 (0, 0)) List.mem_cons_self
  have zaT_0 := (blk_cell hblk 0).trans (rfl : _ = some u_aT0)
  have zaT_1 := (blk_cell hblk 1).trans (rfl : _ = some u_aT1)
  have zaT_2 := (blk_cell hblk 2).trans (rfl : _ = some u_aT2)
  have zaT_3 := (blk_cell hblk 3).trans (rfl : _ = some u_aT3)
  have zaT_4 := (blk_cell hblk 4).trans (rfl : _ = some u_aT4)
  clear hblk
  go_wp2_with fail
  refine ((HTO_aT.out _ _ (RI_aT.out.below HB.out))).mono ?_
  rintro e w2 ⟨cs, rfl, hfr, hb⟩
  obtain ⟨t1_0, t1_1, t1_2, t1_3, t1_4, rfl⟩ := cells5 (hfr.len.trans hn_aT)
  have HS := Lib.hid (HS.out.below hb)
  have SZ2 := Lib.hid (show w1.heap.size ≤ w2.heap.size from hb.size)
  have HB := Lib.hid (HB.out.trans (hb.mono HB.out.size))
  have HS := Lib.hid (HS.out.add (a := (.dat w1.heap.size w2.heap.size x_aT [t1_0, t1_1, t1_2, t1_3, t1_4])) hfr.range)
  have ONEt1 := Lib.hid hfr.all
  clear hb hfr
  clear zaT_0 zaT_1 zaT_2 zaT_3 zaT_4
  have hblk := HS.out.blk (g := w.heap.size) (o := .cells #[u_aT0, u_aT1, u_aT2, u_aT3, u_aT4] 51 (0, 0)) (List.mem_cons_of_mem _ List.mem_cons_self)
  have zaT_0 := (blk_cell hblk 0).trans (rfl : _ = some u_aT0)
  have zaT_1 := (blk_cell hblk 1).trans (rfl : _ = some u_aT1)
  have zaT_2 := (blk_cell hblk 2).trans (rfl : _ = some u_aT2)
  have zaT_3 := (blk_cell hblk 3).trans (rfl : _ = some u_aT3)
  have zaT_4 := (blk_cell hblk 4).trans (rfl : _ = some u_aT4)
  clear hblk
  go_wp2_with fail
  refine ((HSP.out _ _ (HS.out.dat (x := x_aT) (B := w1.heap.size) (C := w2.heap.size) (cs := [t1_0, t1_1, t1_2, t1_3, t1_4]) List.mem_cons_self).rd)).mono ?_
  rintro e w3 ⟨cs, rfl, hfr, hb⟩
  obtain ⟨q2_0, q2_1, q2_2, q2_3, q2_4, rfl⟩ := cells5 (hfr.len.trans hn_r)
  have HS := Lib.hid (HS.out.below hb)
  have SZ3 := Lib.hid (show w2.heap.size ≤ w3.heap.size from hb.size)
  have HB := Lib.hid (HB.out.trans (hb.mono HB.out.size))
  have HS := Lib.hid (HS.out.add (a := (.dat w2.heap.size w3.heap.size r [q2_0, q2_1, q2_2, q2_3, q2_4])) hfr.range)
  have ONEq2 := Lib.hid hfr.all
  clear hb hfr
  go_wp2_with (refine wpl_store_new' rfl 63 (.tmp 6) (.tmp 24) rfl _ #[q2_0, q2_1, q2_2, q2_3, q2_4] rfl rfl (infoSzConInfo) rfl ONEq2.out ?_; intro w4 hbk hbl hsz; have HS := Lib.hid ((HS.out.below hbl)); have HS := Lib.hid (HS.out.add (a := (.blk (w3.heap.size) (.cells #[q2_0, q2_1, q2_2, q2_3, q2_4] 63 (0, 0)))) hbk); have SZ4 := Lib.hid hsz; have HB := Lib.hid (HB.out.trans (hbl.mono HB.out.size)); clear hbk hbl hsz; clear zaT_0 zaT_1 zaT_2 zaT_3 zaT_4; have hblk := HS.out.blk (g := w.heap.size) (o := .cells #[u_aT0, u_aT1, u_aT2, u_aT3, u_aT4] 51 (0, 0)) (List.mem_cons_of_mem _ (List.mem_cons_of_mem _ (List.mem_cons_of_mem _ List.mem_cons_self))); have zaT_0 := (blk_cell hblk 0).trans (rfl : _ = some u_aT0); have zaT_1 := (blk_cell hblk 1).trans (rfl : _ = some u_aT1); have zaT_2 := (blk_cell hblk 2).trans (rfl : _ = some u_aT2); have zaT_3 := (blk_cell hblk 3).trans (rfl : _ = some u_aT3); have zaT_4 := (blk_cell hblk 4).trans (rfl : _ = some u_aT4); clear hblk)
  refine ((HTO_aT.out _ _ (RI_aT.out.below HB.out))).mono ?_
  rintro e w5 ⟨cs, rfl, hfr, hb⟩
  obtain ⟨t3_0, t3_1, t3_2, t3_3, t3_4, rfl⟩ := cells5 (hfr.len.trans hn_aT)
  have HS := Lib.hid (HS.out.below hb)
  have SZ5 := Lib.hid (show w4.heap.size ≤ w5.heap.size from hb.size)
  have HB := Lib.hid (HB.out.trans (hb.mono HB.out.size))
  have HS := Lib.hid (HS.out.add (a := (.dat w4.heap.size w5.heap.size x_aT [t3_0, t3_1, t3_2, t3_3, t3_4])) hfr.range)
  have ONEt3 := Lib.hid hfr.all
  clear hb hfr
  go_wp2_with (refine wpl_store_new' rfl 40 (.tmp 7) (.tmp 26) rfl _ #[t3_0, t3_1, t3_2, t3_3, t3_4] rfl rfl (infoSzTables) rfl ONEt3.out ?_; intro w6 hbk hbl hsz; have HS := Lib.hid ((HS.out.below hbl)); have HS := Lib.hid (HS.out.add (a := (.blk (w5.heap.size) (.cells #[t3_0, t3_1, t3_2, t3_3, t3_4] 40 (0, 0)))) hbk); have SZ6 := Lib.hid hsz; have HB := Lib.hid (HB.out.trans (hbl.mono HB.out.size)); clear hbk hbl hsz; clear zaT_0 zaT_1 zaT_2 zaT_3 zaT_4; have hblk := HS.out.blk (g := w5.heap.size) (o := .cells #[t3_0, t3_1, t3_2, t3_3, t3_4] 40 (0, 0)) List.mem_cons_self; have zbt3_0 := (blk_cell hblk 0).trans (rfl : _ = some t3_0); have zbt3_1 := (blk_cell hblk 1).trans (rfl : _ = some t3_1); have zbt3_2 := (blk_cell hblk 2).trans (rfl : _ = some t3_2); have zbt3_3 := (blk_cell hblk 3).trans (rfl : _ = some t3_3); have zbt3_4 := (blk_cell hblk 4).trans (rfl : _ = some t3_4); clear hblk)
  refine ((HIM.out _ _ (HS.out.dat (x := x_aT) (B := w4.heap.size) (C := w5.heap.size) (cs := [t3_0, t3_1, t3_2, t3_3, t3_4]) (List.mem_cons_of_mem _ List.mem_cons_self)).rd)).mono ?_
  rintro e w7 ⟨cs, rfl, hfr, hb⟩
  obtain ⟨q4_0, q4_1, q4_2, q4_3, q4_4, rfl⟩ := cells5 (hfr.len.trans hn_r)
  have HS := Lib.hid (HS.out.below hb)
  have SZ7 := Lib.hid (show w6.heap.size ≤ w7.heap.size from hb.size)
  have HB := Lib.hid (HB.out.trans (hb.mono HB.out.size))
  have HS := Lib.hid (HS.out.add (a := (.dat w6.heap.size w7.heap.size r [q4_0, q4_1, q4_2, q4_3, q4_4])) hfr.range)
  have ONEq4 := Lib.hid hfr.all
  clear hb hfr
  go_wp2_with (refine wpl_store_new' rfl 63 (.tmp 8) (.tmp 29) rfl _ #[q4_0, q4_1, q4_2, q4_3, q4_4] rfl rfl (infoSzConInfo) rfl ONEq4.out ?_; intro w8 hbk hbl hsz; have HS := Lib.hid ((HS.out.below hbl)); have HS := Lib.hid (HS.out.add (a := (.blk (w7.heap.size) (.cells #[q4_0, q4_1, q4_2, q4_3, q4_4] 63 (0, 0)))) hbk); have SZ8 := Lib.hid hsz; have HB := Lib.hid (HB.out.trans (hbl.mono HB.out.size)); clear hbk hbl hsz; clear zbt3_0 zbt3_1 zbt3_2 zbt3_3 zbt3_4; have hblk := HS.out.blk (g := w7.heap.size) (o := .cells #[q4_0, q4_1, q4_2, q4_3, q4_4] 63 (0, 0)) List.mem_cons_self; have zbq4_0 := (blk_cell hblk 0).trans (rfl : _ = some q4_0); have zbq4_1 := (blk_cell hblk 1).trans (rfl : _ = some q4_1); have zbq4_2 := (blk_cell hblk 2).trans (rfl : _ = some q4_2); have zbq4_3 := (blk_cell hblk 3).trans (rfl : _ = some q4_3); have zbq4_4 := (blk_cell hblk 4).trans (rfl : _ = some q4_4); clear hblk; have hblk := HS.out.blk (g := w3.heap.size) (o := .cells #[q2_0, q2_1, q2_2, q2_3, q2_4] 63 (0, 0)) (List.mem_cons_of_mem _ (List.mem_cons_of_mem _ (List.mem_cons_of_mem _ (List.mem_cons_of_mem _ List.mem_cons_self)))); have zbq2_0 := (blk_cell hblk 0).trans (rfl : _ = some q2_0); have zbq2_1 := (blk_cell hblk 1).trans (rfl : _ = some q2_1); have zbq2_2 := (blk_cell hblk 2).trans (rfl : _ = some q2_2); have zbq2_3 := (blk_cell hblk 3).trans (rfl : _ = some q2_3); have zbq2_4 := (blk_cell hblk 4).trans (rfl : _ = some q2_4); clear hblk)
  refine ((HEQ_r.out _ _ _ (HS.out.dat (x := r) (B := w6.heap.size) (C := w7.heap.size) (cs := [q4_0, q4_1, q4_2, q4_3, q4_4]) (List.mem_cons_of_mem _ List.mem_cons_self)).rd (HS.out.dat (x := r) (B := w2.heap.size) (C := w3.heap.size) (cs := [q2_0, q2_1, q2_2, q2_3, q2_4]) (List.mem_cons_of_mem _ (List.mem_cons_of_mem _ (List.mem_cons_of_mem _ (List.mem_cons_of_mem _ (List.mem_cons_of_mem _ List.mem_cons_self)))))).rd)).mono ?_
  rintro e w9 ⟨rfl, hb⟩
  have HS := Lib.hid (HS.out.below hb)
  have SZ9 := Lib.hid (show w8.heap.size ≤ w9.heap.size from hb.size)
  have HB := Lib.hid (HB.out.trans (hb.mono HB.out.size))
  clear hb
  clear zbq4_0 zbq4_1 zbq4_2 zbq4_3 zbq4_4 zbq2_0 zbq2_1 zbq2_2 zbq2_3 zbq2_4
  have hblk := HS.out.blk (g := w5.heap.size) (o := .cells #[t3_0, t3_1, t3_2, t3_3, t3_4] 40 (0, 0)) (List.mem_cons_of_mem _ (List.mem_cons_of_mem _ List.mem_cons_self))
  have zbt3_0 := (blk_cell hblk 0).trans (rfl : _ = some t3_0)
  have zbt3_1 := (blk_cell hblk 1).trans (rfl : _ = some t3_1)
  have zbt3_2 := (blk_cell hblk 2).trans (rfl : _ = some t3_2)
  have zbt3_3 := (blk_cell hblk 3).trans (rfl : _ = some t3_3)
  have zbt3_4 := (blk_cell hblk 4).trans (rfl : _ = some t3_4)
  clear hblk
  have hblk := HS.out.blk (g := w.heap.size) (o := .cells #[u_aT0, u_aT1, u_aT2, u_aT3, u_aT4] 51 (0, 0)) (List.mem_cons_of_mem _ (List.mem_cons_of_mem _ (List.mem_cons_of_mem _ (List.mem_cons_of_mem _ (List.mem_cons_of_mem _ (List.mem_cons_of_mem _ (List.mem_cons_of_mem _ List.mem_cons_self)))))))
  have zaT_0 := (blk_cell hblk 0).trans (rfl : _ = some u_aT0)
  have zaT_1 := (blk_cell hblk 1).trans (rfl : _ = some u_aT1)
  have zaT_2 := (blk_cell hblk 2).trans (rfl : _ = some u_aT2)
  have zaT_3 := (blk_cell hblk 3).trans (rfl : _ = some u_aT3)
  have zaT_4 := (blk_cell hblk 4).trans (rfl : _ = some u_aT4)
  clear hblk
  go_wp2_with fail
  go_region_held3 (fun w' => w'.cell? ⟨w5.heap.size, 0, none⟩ = some t3_0 ∧ w'.cell? ⟨w5.heap.size, 1, none⟩ = some t3_1 ∧ w'.cell? ⟨w5.heap.size, 2, none⟩ = some t3_2 ∧ w'.cell? ⟨w5.heap.size, 3, none⟩ = some t3_3 ∧ w'.cell? ⟨w5.heap.size, 4, none⟩ = some t3_4 ∧ w'.cell? ⟨w.heap.size, 0, none⟩ = some u_aT0 ∧ w'.cell? ⟨w.heap.size, 1, none⟩ = some u_aT1 ∧ w'.cell? ⟨w.heap.size, 2, none⟩ = some u_aT2 ∧ w'.cell? ⟨w.heap.size, 3, none⟩ = some u_aT3 ∧ w'.cell? ⟨w.heap.size, 4, none⟩ = some u_aT4)
    (first | exact ⟨zbt3_0, zbt3_1, zbt3_2, zbt3_3, zbt3_4, zaT_0, zaT_1, zaT_2, zaT_3, zaT_4⟩ | exact ⟨by simpa using blk_cell (HS.out.blk (g := w5.heap.size) (o := .cells #[t3_0, t3_1, t3_2, t3_3, t3_4] 40 (0, 0)) (by simp)) 0, by simpa using blk_cell (HS.out.blk (g := w5.heap.size) (o := .cells #[t3_0, t3_1, t3_2, t3_3, t3_4] 40 (0, 0)) (by simp)) 1, by simpa using blk_cell (HS.out.blk (g := w5.heap.size) (o := .cells #[t3_0, t3_1, t3_2, t3_3, t3_4] 40 (0, 0)) (by simp)) 2, by simpa using blk_cell (HS.out.blk (g := w5.heap.size) (o := .cells #[t3_0, t3_1, t3_2, t3_3, t3_4] 40 (0, 0)) (by simp)) 3, by simpa using blk_cell (HS.out.blk (g := w5.heap.size) (o := .cells #[t3_0, t3_1, t3_2, t3_3, t3_4] 40 (0, 0)) (by simp)) 4, by simpa using blk_cell (HS.out.blk (g := w.heap.size) (o := .cells #[u_aT0, u_aT1, u_aT2, u_aT3, u_aT4] 51 (0, 0)) (by simp)) 0, by simpa using blk_cell (HS.out.blk (g := w.heap.size) (o := .cells #[u_aT0, u_aT1, u_aT2, u_aT3, u_aT4] 51 (0, 0)) (by simp)) 1, by simpa using blk_cell (HS.out.blk (g := w.heap.size) (o := .cells #[u_aT0, u_aT1, u_aT2, u_aT3, u_aT4] 51 (0, 0)) (by simp)) 2, by simpa using blk_cell (HS.out.blk (g := w.heap.size) (o := .cells #[u_aT0, u_aT1, u_aT2, u_aT3, u_aT4] 51 (0, 0)) (by simp)) 3, by simpa using blk_cell (HS.out.blk (g := w.heap.size) (o := .cells #[u_aT0, u_aT1, u_aT2, u_aT3, u_aT4] 51 (0, 0)) (by simp)) 4⟩ | exact ⟨by simpa using blk_cell (blk_old (HS.out.blk (g := w5.heap.size) (o := .cells #[t3_0, t3_1, t3_2, t3_3, t3_4] 40 (0, 0)) (by simp)) _) 0, by simpa using blk_cell (blk_old (HS.out.blk (g := w5.heap.size) (o := .cells #[t3_0, t3_1, t3_2, t3_3, t3_4] 40 (0, 0)) (by simp)) _) 1, by simpa using blk_cell (blk_old (HS.out.blk (g := w5.heap.size) (o := .cells #[t3_0, t3_1, t3_2, t3_3, t3_4] 40 (0, 0)) (by simp)) _) 2, by simpa using blk_cell (blk_old (HS.out.blk (g := w5.heap.size) (o := .cells #[t3_0, t3_1, t3_2, t3_3, t3_4] 40 (0, 0)) (by simp)) _) 3, by simpa using blk_cell (blk_old (HS.out.blk (g := w5.heap.size) (o := .cells #[t3_0, t3_1, t3_2, t3_3, t3_4] 40 (0, 0)) (by simp)) _) 4, by simpa using blk_cell (blk_old (HS.out.blk (g := w.heap.size) (o := .cells #[u_aT0, u_aT1, u_aT2, u_aT3, u_aT4] 51 (0, 0)) (by simp)) _) 0, by simpa using blk_cell (blk_old (HS.out.blk (g := w.heap.size) (o := .cells #[u_aT0, u_aT1, u_aT2, u_aT3, u_aT4] 51 (0, 0)) (by simp)) _) 1, by simpa using blk_cell (blk_old (HS.out.blk (g := w.heap.size) (o := .cells #[u_aT0, u_aT1, u_aT2, u_aT3, u_aT4] 51 (0, 0)) (by simp)) _) 2, by simpa using blk_cell (blk_old (HS.out.blk (g := w.heap.size) (o := .cells #[u_aT0, u_aT1, u_aT2, u_aT3, u_aT4] 51 (0, 0)) (by simp)) _) 3, by simpa using blk_cell (blk_old (HS.out.blk (g := w.heap.size) (o := .cells #[u_aT0, u_aT1, u_aT2, u_aT3, u_aT4] 51 (0, 0)) (by simp)) _) 4⟩)
    (first
      | (go_at_call 25; have HB := Lib.hid HB.out.drew; have HS := Lib.hid HS.out.drew; have CT := (HTO_aT.out _ _ (RI_aT.out.below HB.out)); (with_reducible refine CT.mono ?_); clear CT; rintro e w10 ⟨cs, rfl, hfr, hb⟩; obtain ⟨t5_0, t5_1, t5_2, t5_3, t5_4, rfl⟩ := cells5 (hfr.len.trans hn_aT); have HS := Lib.hid (HS.out.below hb); have SZ10 := Lib.hid (show w9.heap.size ≤ w10.heap.size from hb.size); have HB := Lib.hid (HB.out.trans (hb.mono HB.out.size)); have HS := Lib.hid (HS.out.add (a := (.dat w9.heap.size w10.heap.size x_aT [t5_0, t5_1, t5_2, t5_3, t5_4])) hfr.range); have ONEt5 := Lib.hid hfr.all; clear hb hfr)
      | (go_at_call 20; have CT := (HEQ_aT.out _ _ _ (HS.out.dat (x := x_aT) (B := w4.heap.size) (C := w5.heap.size) (cs := [t3_0, t3_1, t3_2, t3_3, t3_4]) (List.mem_cons_of_mem _ (List.mem_cons_of_mem _ (List.mem_cons_of_mem _ (List.mem_cons_of_mem _ List.mem_cons_self))))).rd (HS.out.dat (x := x_aT) (B := w9.heap.size) (C := w10.heap.size) (cs := [t5_0, t5_1, t5_2, t5_3, t5_4]) List.mem_cons_self).rd); (with_reducible refine CT.mono ?_); clear CT; rintro e w11 ⟨rfl, hb⟩; have HS := Lib.hid (HS.out.below hb); have SZ11 := Lib.hid (show w10.heap.size ≤ w11.heap.size from hb.size); have HB := Lib.hid (HB.out.trans (hb.mono HB.out.size)); clear hb))
  clear zbt3_0 zbt3_1 zbt3_2 zbt3_3 zbt3_4 zaT_0 zaT_1 zaT_2 zaT_3 zaT_4
  have hblk := HS.out.blk (g := w5.heap.size) (o := .cells #[t3_0, t3_1, t3_2, t3_3, t3_4] 40 (0, 0)) (List.mem_cons_of_mem _ (List.mem_cons_of_mem _ (List.mem_cons_of_mem _ List.mem_cons_self)))
  have zbt3_0 := (blk_cell hblk 0).trans (rfl : _ = some t3_0)
  have zbt3_1 := (blk_cell hblk 1).trans (rfl : _ = some t3_1)
  have zbt3_2 := (blk_cell hblk 2).trans (rfl : _ = some t3_2)
  have zbt3_3 := (blk_cell hblk 3).trans (rfl : _ = some t3_3)
  have zbt3_4 := (blk_cell hblk 4).trans (rfl : _ = some t3_4)
  clear hblk
  go_wp2_with fail
  have sSZ0 := SZ0.out
  have sSZ1 := SZ1.out
  have sSZ2 := SZ2.out
  have sSZ3 := SZ3.out
  have sSZ4 := SZ4.out
  have sSZ5 := SZ5.out
  have sSZ6 := SZ6.out
  have sSZ7 := SZ7.out
  have sSZ8 := SZ8.out
  have sSZ9 := SZ9.out
  have sSZ10 := SZ10.out
  have sSZ11 := SZ11.out
  have hcn := HMK_aT.out.1
  refine (HMK_aT.out.2.one (HS.out.dat (x := x_aT) (B := w4.heap.size) (C := w5.heap.size) (cs := [t3_0, t3_1, t3_2, t3_3, t3_4]) (List.mem_cons_of_mem _ (List.mem_cons_of_mem _ (List.mem_cons_of_mem _ (List.mem_cons_of_mem _ List.mem_cons_self))))) (by omega)).mono ?_
  rintro e w12 ⟨n1, hn1, rfl, hf, ht⟩
  have HS := Lib.hid (Has.touch (Has.mid (l1 := [(.dat w9.heap.size w10.heap.size x_aT [t5_0, t5_1, t5_2, t5_3, t5_4]), (.blk (w7.heap.size) (.cells #[q4_0, q4_1, q4_2, q4_3, q4_4] 63 (0, 0))), (.dat w6.heap.size w7.heap.size r [q4_0, q4_1, q4_2, q4_3, q4_4]), (.blk (w5.heap.size) (.cells #[t3_0, t3_1, t3_2, t3_3, t3_4] 40 (0, 0)))]) (l2 := [(.blk (w3.heap.size) (.cells #[q2_0, q2_1, q2_2, q2_3, q2_4] 63 (0, 0))), (.dat w2.heap.size w3.heap.size r [q2_0, q2_1, q2_2, q2_3, q2_4]), (.dat w1.heap.size w2.heap.size x_aT [t1_0, t1_1, t1_2, t1_3, t1_4]), (.blk (w.heap.size) (.cells #[u_aT0, u_aT1, u_aT2, u_aT3, u_aT4] 51 (0, 0)))]) HS.out) ht (ap_cons (show _ ∨ _ by omega) (ap_cons (show _ ∨ _ by omega) (ap_cons (show _ ∨ _ by omega) (ap_cons (show _ ∨ _ by omega) (ap_cons (show _ ∨ _ by omega) (ap_cons (show _ ∨ _ by omega) (ap_cons (show _ ∨ _ by omega) (ap_cons (show _ ∨ _ by omega) (ap_nil))))))))))
  have SZ12 := Lib.hid (show w11.heap.size ≤ w12.heap.size from ht.size)
  have HS := Lib.hid (HS.out.add (a := (.dat w4.heap.size w5.heap.size (x_aT.top 1) [t3_0, t3_1, t3_2, t3_3, t3_4])) hf)
  have HB := Lib.hid (ht.below HB.out (by omega) HB.out.size)
  have NNn1 : Hid (n1 = 1 + x_aT.tcnt ∧ n1 ≤ 1099511627777) := ⟨hn1, by omega⟩
  clear hf ht hn1 hcn sSZ0 sSZ1 sSZ2 sSZ3 sSZ4 sSZ5 sSZ6 sSZ7 sSZ8 sSZ9 sSZ10 sSZ11
  have hng : decide ((n1 : Int) < 0) = false := decide_eq_false (by omega)
  clear zbt3_0 zbt3_1 zbt3_2 zbt3_3 zbt3_4
  have hblk := HS.out.blk (g := w7.heap.size) (o := .cells #[q4_0, q4_1, q4_2, q4_3, q4_4] 63 (0, 0)) (List.mem_cons_of_mem _ (List.mem_cons_of_mem _ List.mem_cons_self))
  have zbq4_0 := (blk_cell hblk 0).trans (rfl : _ = some q4_0)
  have zbq4_1 := (blk_cell hblk 1).trans (rfl : _ = some q4_1)
  have zbq4_2 := (blk_cell hblk 2).trans (rfl : _ = some q4_2)
  have zbq4_3 := (blk_cell hblk 3).trans (rfl : _ = some q4_3)
  have zbq4_4 := (blk_cell hblk 4).trans (rfl : _ = some q4_4)
  clear hblk
  have hblk := HS.out.blk (g := w3.heap.size) (o := .cells #[q2_0, q2_1, q2_2, q2_3, q2_4] 63 (0, 0)) (List.mem_cons_of_mem _ (List.mem_cons_of_mem _ (List.mem_cons_of_mem _ (List.mem_cons_of_mem _ (List.mem_cons_of_mem _ List.mem_cons_self)))))
  have zbq2_0 := (blk_cell hblk 0).trans (rfl : _ = some q2_0)
  have zbq2_1 := (blk_cell hblk 1).trans (rfl : _ = some q2_1)
  have zbq2_2 := (blk_cell hblk 2).trans (rfl : _ = some q2_2)
  have zbq2_3 := (blk_cell hblk 3).trans (rfl : _ = some q2_3)
  have zbq2_4 := (blk_cell hblk 4).trans (rfl : _ = some q2_4)
  clear hblk
  go_wp2_with fail
  refine ((HEQ_r.out _ _ _ (HS.out.dat (x := r) (B := w6.heap.size) (C := w7.heap.size) (cs := [q4_0, q4_1, q4_2, q4_3, q4_4]) (List.mem_cons_of_mem _ (List.mem_cons_of_mem _ (List.mem_cons_of_mem _ List.mem_cons_self)))).rd (HS.out.dat (x := r) (B := w2.heap.size) (C := w3.heap.size) (cs := [q2_0, q2_1, q2_2, q2_3, q2_4]) (List.mem_cons_of_mem _ (List.mem_cons_of_mem _ (List.mem_cons_of_mem _ (List.mem_cons_of_mem _ (List.mem_cons_of_mem _ (List.mem_cons_of_mem _ List.mem_cons_self))))))).rd)).mono ?_
  rintro e w13 ⟨rfl, hb⟩
  have HS := Lib.hid (HS.out.below hb)
  have SZ13 := Lib.hid (show w12.heap.size ≤ w13.heap.size from hb.size)
  have HB := Lib.hid (HB.out.trans (hb.mono HB.out.size))
  clear hb
  clear zbq4_0 zbq4_1 zbq4_2 zbq4_3 zbq4_4 zbq2_0 zbq2_1 zbq2_2 zbq2_3 zbq2_4
  have hblk := HS.out.blk (g := w7.heap.size) (o := .cells #[q4_0, q4_1, q4_2, q4_3, q4_4] 63 (0, 0)) (List.mem_cons_of_mem _ (List.mem_cons_of_mem _ List.mem_cons_self))
  have zbq4_0 := (blk_cell hblk 0).trans (rfl : _ = some q4_0)
  have zbq4_1 := (blk_cell hblk 1).trans (rfl : _ = some q4_1)
  have zbq4_2 := (blk_cell hblk 2).trans (rfl : _ = some q4_2)
  have zbq4_3 := (blk_cell hblk 3).trans (rfl : _ = some q4_3)
  have zbq4_4 := (blk_cell hblk 4).trans (rfl : _ = some q4_4)
  clear hblk
  go_wp2_with fail
  have sSZ0 := SZ0.out
  have sSZ1 := SZ1.out
  have sSZ2 := SZ2.out
  have sSZ3 := SZ3.out
  have sSZ4 := SZ4.out
  have sSZ5 := SZ5.out
  have sSZ6 := SZ6.out
  have sSZ7 := SZ7.out
  have sSZ8 := SZ8.out
  have sSZ9 := SZ9.out
  have sSZ10 := SZ10.out
  have sSZ11 := SZ11.out
  have sSZ12 := SZ12.out
  have sSZ13 := SZ13.out
  have hcn := HMK_r.out.1
  refine (HMK_r.out.2.1.one (HS.out.dat (x := r) (B := w6.heap.size) (C := w7.heap.size) (cs := [q4_0, q4_1, q4_2, q4_3, q4_4]) (List.mem_cons_of_mem _ (List.mem_cons_of_mem _ (List.mem_cons_of_mem _ List.mem_cons_self)))) (by omega)).mono ?_
  rintro e w14 ⟨n2, hn2, rfl, hf, ht⟩
  have HS := Lib.hid (Has.touch (Has.mid (l1 := [(.dat w4.heap.size w5.heap.size (x_aT.top 1) [t3_0, t3_1, t3_2, t3_3, t3_4]), (.dat w9.heap.size w10.heap.size x_aT [t5_0, t5_1, t5_2, t5_3, t5_4]), (.blk (w7.heap.size) (.cells #[q4_0, q4_1, q4_2, q4_3, q4_4] 63 (0, 0)))]) (l2 := [(.blk (w5.heap.size) (.cells #[t3_0, t3_1, t3_2, t3_3, t3_4] 40 (0, 0))), (.blk (w3.heap.size) (.cells #[q2_0, q2_1, q2_2, q2_3, q2_4] 63 (0, 0))), (.dat w2.heap.size w3.heap.size r [q2_0, q2_1, q2_2, q2_3, q2_4]), (.dat w1.heap.size w2.heap.size x_aT [t1_0, t1_1, t1_2, t1_3, t1_4]), (.blk (w.heap.size) (.cells #[u_aT0, u_aT1, u_aT2, u_aT3, u_aT4] 51 (0, 0)))]) HS.out) ht (ap_cons (show _ ∨ _ by omega) (ap_cons (show _ ∨ _ by omega) (ap_cons (show _ ∨ _ by omega) (ap_cons (show _ ∨ _ by omega) (ap_cons (show _ ∨ _ by omega) (ap_cons (show _ ∨ _ by omega) (ap_cons (show _ ∨ _ by omega) (ap_cons (show _ ∨ _ by omega) (ap_nil))))))))))
  have SZ14 := Lib.hid (show w13.heap.size ≤ w14.heap.size from ht.size)
  have HS := Lib.hid (HS.out.add (a := (.dat w6.heap.size w7.heap.size (r.top 1) [q4_0, q4_1, q4_2, q4_3, q4_4])) hf)
  have HB := Lib.hid (ht.below HB.out (by omega) HB.out.size)
  have NNn2 : Hid (n2 = 1 + r.tcnt ∧ n2 ≤ 1099511627777) := ⟨hn2, by omega⟩
  clear hf ht hn2 hcn sSZ0 sSZ1 sSZ2 sSZ3 sSZ4 sSZ5 sSZ6 sSZ7 sSZ8 sSZ9 sSZ10 sSZ11 sSZ12 sSZ13
  have hng : decide ((n2 : Int) < 0) = false := decide_eq_false (by omega)
  clear zbq4_0 zbq4_1 zbq4_2 zbq4_3 zbq4_4
  have hblk := HS.out.blk (g := w7.heap.size) (o := .cells #[q4_0, q4_1, q4_2, q4_3, q4_4] 63 (0, 0)) (List.mem_cons_of_mem _ (List.mem_cons_of_mem _ (List.mem_cons_of_mem _ List.mem_cons_self)))
  have zbq4_0 := (blk_cell hblk 0).trans (rfl : _ = some q4_0)
  have zbq4_1 := (blk_cell hblk 1).trans (rfl : _ = some q4_1)
  have zbq4_2 := (blk_cell hblk 2).trans (rfl : _ = some q4_2)
  have zbq4_3 := (blk_cell hblk 3).trans (rfl : _ = some q4_3)
  have zbq4_4 := (blk_cell hblk 4).trans (rfl : _ = some q4_4)
  clear hblk
  go_wp2_with fail
  have sSZ0 := SZ0.out
  have sSZ1 := SZ1.out
  have sSZ2 := SZ2.out
  have sSZ3 := SZ3.out
  have sSZ4 := SZ4.out
  have sSZ5 := SZ5.out
  have sSZ6 := SZ6.out
  have sSZ7 := SZ7.out
  have sSZ8 := SZ8.out
  have sSZ9 := SZ9.out
  have sSZ10 := SZ10.out
  have sSZ11 := SZ11.out
  have sSZ12 := SZ12.out
  have sSZ13 := SZ13.out
  have sSZ14 := SZ14.out
  have hcn := HMK_r.out.1
  refine (HMK_r.out.2.2.one (HS.out.dat (x := (r.top 1)) (B := w6.heap.size) (C := w7.heap.size) (cs := [q4_0, q4_1, q4_2, q4_3, q4_4]) List.mem_cons_self).rd (by omega)).mono ?_
  rintro e w15 ⟨n3, hn3, rfl, hb⟩
  have HS := Lib.hid (HS.out.below hb)
  have SZ15 := Lib.hid (show w14.heap.size ≤ w15.heap.size from hb.size)
  have HB := Lib.hid (HB.out.trans (hb.mono HB.out.size))
  have NNn3 : Hid (n3 = 1 + r.tcnt ∧ n3 ≤ 1099511627777) := ⟨hn3, by omega⟩
  clear hb hn3 hcn sSZ0 sSZ1 sSZ2 sSZ3 sSZ4 sSZ5 sSZ6 sSZ7 sSZ8 sSZ9 sSZ10 sSZ11 sSZ12 sSZ13 sSZ14
  obtain rfl : n2 = n3 := by have h1 := NNn3.out; have h2 := NNn2.out; omega
  have hng : decide ((n2 : Int) < 0) = false := decide_eq_false (by omega)
  clear zbq4_0 zbq4_1 zbq4_2 zbq4_3 zbq4_4
  have hblk := HS.out.blk (g := w.heap.size) (o := .cells #[u_aT0, u_aT1, u_aT2, u_aT3, u_aT4] 51 (0, 0)) (List.mem_cons_of_mem _ (List.mem_cons_of_mem _ (List.mem_cons_of_mem _ (List.mem_cons_of_mem _ (List.mem_cons_of_mem _ (List.mem_cons_of_mem _ (List.mem_cons_of_mem _ (List.mem_cons_of_mem _ List.mem_cons_self))))))))
  have zaT_0 := (blk_cell hblk 0).trans (rfl : _ = some u_aT0)
  have zaT_1 := (blk_cell hblk 1).trans (rfl : _ = some u_aT1)
  have zaT_2 := (blk_cell hblk 2).trans (rfl : _ = some u_aT2)
  have zaT_3 := (blk_cell hblk 3).trans (rfl : _ = some u_aT3)
  have zaT_4 := (blk_cell hblk 4).trans (rfl : _ = some u_aT4)
  clear hblk
  go_wp2_with fail
  refine ((HTO_aT.out _ _ (RI_aT.out.below HB.out))).mono ?_
  rintro e w16 ⟨cs, rfl, hfr, hb⟩
  obtain ⟨t6_0, t6_1, t6_2, t6_3, t6_4, rfl⟩ := cells5 (hfr.len.trans hn_aT)
  have HS := Lib.hid (HS.out.below hb)
  have SZ16 := Lib.hid (show w15.heap.size ≤ w16.heap.size from hb.size)
  have HB := Lib.hid (HB.out.trans (hb.mono HB.out.size))
  have HS := Lib.hid (HS.out.add (a := (.dat w15.heap.size w16.heap.size x_aT [t6_0, t6_1, t6_2, t6_3, t6_4])) hfr.range)
  have ONEt6 := Lib.hid hfr.all
  clear hb hfr
  clear zaT_0 zaT_1 zaT_2 zaT_3 zaT_4
  have hblk := HS.out.blk (g := w.heap.size) (o := .cells #[u_aT0, u_aT1, u_aT2, u_aT3, u_aT4] 51 (0, 0)) (List.mem_cons_of_mem _ (List.mem_cons_of_mem _ (List.mem_cons_of_mem _ (List.mem_cons_of_mem _ (List.mem_cons_of_mem _ (List.mem_cons_of_mem _ (List.mem_cons_of_mem _ (List.mem_cons_of_mem _ (List.mem_cons_of_mem _ List.mem_cons_self)))))))))
  have zaT_0 := (blk_cell hblk 0).trans (rfl : _ = some u_aT0)
  have zaT_1 := (blk_cell hblk 1).trans (rfl : _ = some u_aT1)
  have zaT_2 := (blk_cell hblk 2).trans (rfl : _ = some u_aT2)
  have zaT_3 := (blk_cell hblk 3).trans (rfl : _ = some u_aT3)
  have zaT_4 := (blk_cell hblk 4).trans (rfl : _ = some u_aT4)
  clear hblk
  go_wp2_with fail
  refine ((HIM.out _ _ (HS.out.dat (x := x_aT) (B := w15.heap.size) (C := w16.heap.size) (cs := [t6_0, t6_1, t6_2, t6_3, t6_4]) List.mem_cons_self).rd)).mono ?_
  rintro e w17 ⟨cs, rfl, hfr, hb⟩
  obtain ⟨q7_0, q7_1, q7_2, q7_3, q7_4, rfl⟩ := cells5 (hfr.len.trans hn_r)
  have HS := Lib.hid (HS.out.below hb)
  have SZ17 := Lib.hid (show w16.heap.size ≤ w17.heap.size from hb.size)
  have HB := Lib.hid (HB.out.trans (hb.mono HB.out.size))
  have HS := Lib.hid (HS.out.add (a := (.dat w16.heap.size w17.heap.size r [q7_0, q7_1, q7_2, q7_3, q7_4])) hfr.range)
  have ONEq7 := Lib.hid hfr.all
  clear hb hfr
  go_wp2_with (refine wpl_store_new' rfl 63 (.tmp 12) (.tmp 64) rfl _ #[q7_0, q7_1, q7_2, q7_3, q7_4] rfl rfl (infoSzConInfo) rfl ONEq7.out ?_; intro w18 hbk hbl hsz; have HS := Lib.hid ((HS.out.below hbl)); have HS := Lib.hid (HS.out.add (a := (.blk (w17.heap.size) (.cells #[q7_0, q7_1, q7_2, q7_3, q7_4] 63 (0, 0)))) hbk); have SZ18 := Lib.hid hsz; have HB := Lib.hid (HB.out.trans (hbl.mono HB.out.size)); clear hbk hbl hsz; clear zaT_0 zaT_1 zaT_2 zaT_3 zaT_4; have hblk := HS.out.blk (g := w17.heap.size) (o := .cells #[q7_0, q7_1, q7_2, q7_3, q7_4] 63 (0, 0)) List.mem_cons_self; have zbq7_0 := (blk_cell hblk 0).trans (rfl : _ = some q7_0); have zbq7_1 := (blk_cell hblk 1).trans (rfl : _ = some q7_1); have zbq7_2 := (blk_cell hblk 2).trans (rfl : _ = some q7_2); have zbq7_3 := (blk_cell hblk 3).trans (rfl : _ = some q7_3); have zbq7_4 := (blk_cell hblk 4).trans (rfl : _ = some q7_4); clear hblk; have hblk := HS.out.blk (g := w3.heap.size) (o := .cells #[q2_0, q2_1, q2_2, q2_3, q2_4] 63 (0, 0)) (List.mem_cons_of_mem _ (List.mem_cons_of_mem _ (List.mem_cons_of_mem _ (List.mem_cons_of_mem _ (List.mem_cons_of_mem _ (List.mem_cons_of_mem _ (List.mem_cons_of_mem _ (List.mem_cons_of_mem _ List.mem_cons_self)))))))); have zbq2_0 := (blk_cell hblk 0).trans (rfl : _ = some q2_0); have zbq2_1 := (blk_cell hblk 1).trans (rfl : _ = some q2_1); have zbq2_2 := (blk_cell hblk 2).trans (rfl : _ = some q2_2); have zbq2_3 := (blk_cell hblk 3).trans (rfl : _ = some q2_3); have zbq2_4 := (blk_cell hblk 4).trans (rfl : _ = some q2_4); clear hblk)
  refine ((HEQ_r.out _ _ _ (HS.out.dat (x := r) (B := w16.heap.size) (C := w17.heap.size) (cs := [q7_0, q7_1, q7_2, q7_3, q7_4]) (List.mem_cons_of_mem _ List.mem_cons_self)).rd (HS.out.dat (x := r) (B := w2.heap.size) (C := w3.heap.size) (cs := [q2_0, q2_1, q2_2, q2_3, q2_4]) (List.mem_cons_of_mem _ (List.mem_cons_of_mem _ (List.mem_cons_of_mem _ (List.mem_cons_of_mem _ (List.mem_cons_of_mem _ (List.mem_cons_of_mem _ (List.mem_cons_of_mem _ (List.mem_cons_of_mem _ (List.mem_cons_of_mem _ List.mem_cons_self)))))))))).rd)).mono ?_
  rintro e w19 ⟨rfl, hb⟩
  have HS := Lib.hid (HS.out.below hb)
  have SZ19 := Lib.hid (show w18.heap.size ≤ w19.heap.size from hb.size)
  have HB := Lib.hid (HB.out.trans (hb.mono HB.out.size))
  clear hb
  clear zbq7_0 zbq7_1 zbq7_2 zbq7_3 zbq7_4 zbq2_0 zbq2_1 zbq2_2 zbq2_3 zbq2_4
  have hblk := HS.out.blk (g := w7.heap.size) (o := .cells #[q4_0, q4_1, q4_2, q4_3, q4_4] 63 (0, 0)) (List.mem_cons_of_mem _ (List.mem_cons_of_mem _ (List.mem_cons_of_mem _ (List.mem_cons_of_mem _ (List.mem_cons_of_mem _ (List.mem_cons_of_mem _ List.mem_cons_self))))))
  have zbq4_0 := (blk_cell hblk 0).trans (rfl : _ = some q4_0)
  have zbq4_1 := (blk_cell hblk 1).trans (rfl : _ = some q4_1)
  have zbq4_2 := (blk_cell hblk 2).trans (rfl : _ = some q4_2)
  have zbq4_3 := (blk_cell hblk 3).trans (rfl : _ = some q4_3)
  have zbq4_4 := (blk_cell hblk 4).trans (rfl : _ = some q4_4)
  clear hblk
  go_wp2_with fail
  have sSZ0 := SZ0.out
  have sSZ1 := SZ1.out
  have sSZ2 := SZ2.out
  have sSZ3 := SZ3.out
  have sSZ4 := SZ4.out
  have sSZ5 := SZ5.out
  have sSZ6 := SZ6.out
  have sSZ7 := SZ7.out
  have sSZ8 := SZ8.out
  have sSZ9 := SZ9.out
  have sSZ10 := SZ10.out
  have sSZ11 := SZ11.out
  have sSZ12 := SZ12.out
  have sSZ13 := SZ13.out
  have sSZ14 := SZ14.out
  have sSZ15 := SZ15.out
  have sSZ16 := SZ16.out
  have sSZ17 := SZ17.out
  have sSZ18 := SZ18.out
  have sSZ19 := SZ19.out
  have hcn := HMK_r.out.1
  refine (HMK_r.out.2.2.one (HS.out.dat (x := (r.top 1)) (B := w6.heap.size) (C := w7.heap.size) (cs := [q4_0, q4_1, q4_2, q4_3, q4_4]) (List.mem_cons_of_mem _ (List.mem_cons_of_mem _ (List.mem_cons_of_mem _ List.mem_cons_self)))).rd (by omega)).mono ?_
  rintro e w20 ⟨n4, hn4, rfl, hb⟩
  have HS := Lib.hid (HS.out.below hb)
  have SZ20 := Lib.hid (show w19.heap.size ≤ w20.heap.size from hb.size)
  have HB := Lib.hid (HB.out.trans (hb.mono HB.out.size))
  have NNn4 : Hid (n4 = 1 + r.tcnt ∧ n4 ≤ 1099511627777) := ⟨hn4, by omega⟩
  clear hb hn4 hcn sSZ0 sSZ1 sSZ2 sSZ3 sSZ4 sSZ5 sSZ6 sSZ7 sSZ8 sSZ9 sSZ10 sSZ11 sSZ12 sSZ13 sSZ14 sSZ15 sSZ16 sSZ17 sSZ18 sSZ19
  obtain rfl : n2 = n4 := by have h1 := NNn4.out; have h2 := NNn2.out; omega
  have hng : decide ((n2 : Int) < 0) = false := decide_eq_false (by omega)
  go_wp2
  go_ret
  exact ⟨rfl, HB.out⟩

end Go.Proofs.Ytifmnijdaboenaa
