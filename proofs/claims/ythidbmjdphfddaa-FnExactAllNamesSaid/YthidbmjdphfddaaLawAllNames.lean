/- The law 'FnExactAllNames' walked: over whatever both functions answer alike; no condition. -/
import Derived.Test.YthidbmjdphfddaaFmU32
import Derived.Test.YthidbmjdphfddaaFmCore
import Derived.Test.YthidbmjdphfddaaFamCore
import Derived.Test.YthidbmjdphfddaaFamStr
import Derived.Deep.RegionHeld3
import Derived.Deep.RegionWith
import Derived.Deep.DeepCutAuto
import Derived.Deep.CutBlock
namespace Go.Proofs.Ythidbmjdphfddaa
open Go.RowKit
set_option linter.unusedVariables false
set_option linter.unusedSimpArgs false

theorem infoSzCore : (Try.prog.info? 36).map (·.size) = some 7 := by kernel_rfl
theorem bs1_FnExactAllNames {w : World} {g i : Nat} {q : Addr} {v u : Value} (h : w.cell? q = some v) (hne : q.block ≠ g) : (w.setCell ⟨g, i, none⟩ u).cell? q = some v := (World.cell?_of_block (a := q) (Below.heap_setCell w ⟨g, i, none⟩ u q.block hne)).trans h
theorem net_FnExactAllNames {w : World} {a b : Nat} {c1 c2 : Array Value} {T1 T2 : TypeId} {f1 f2 : Nat × Nat} (h1 : w.heap[a]? = some (.cells c1 T1 f1)) (h2 : w.heap[b]? = some (.cells c2 T2 f2)) (hT : T2 ≠ T1) : a ≠ b := fun e => by
  subst e
  rw [h1] at h2
  injection h2 with h2
  injection h2 with _ h2 _
  exact hT h2.symm
set_option maxRecDepth 100000 in
set_option maxHeartbeats 40000000 in
theorem lawFnExactAllNames (x_aC : D) (r : D) (hn_aC : x_aC.n = 7)
    (SZ_aC : SzA Try.prog 10 x_aC)
    (TO_aC : x_aC.bulk ≤ 1048576 → ToA Try.prog 12 x_aC)
    (EQ_aC : EqA Try.prog 15 x_aC)
    (MK_aC : x_aC.bulk ≤ 1048576 → x_aC.tcnt ≤ 1099511627776 ∧ MkA Try.prog 16 x_aC)
    (EQ_r : EqO Try.prog 14 r)
    (MK_r : x_aC.bulk ≤ 1048576 → r.tcnt ≤ 1099511627776 ∧ MkO Try.prog 17 r ∧ HdO Try.prog 18 r)
    (SP : x_aC.bulk ≤ 1048576 → ∀ (w : World) (c_aC : List Value), Rd w x_aC c_aC → Calls Try.prog 11 #[.agg c_aC.toArray] w fun e w' => ∃ v', e = .returned v' ∧ Fr w.heap.size w' r [v'] ∧ Below w.heap.size w w')
    (IM : x_aC.bulk ≤ 1048576 → ∀ (w : World) (c_aC : List Value), Rd w x_aC c_aC → Calls Try.prog 13 #[.agg c_aC.toArray] w fun e w' => ∃ v', e = .returned v' ∧ Fr w.heap.size w' r [v'] ∧ Below w.heap.size w w') (w : World) (c_aC : List Value) (rd_aC : Rd w x_aC c_aC) :
    Calls Try.prog 3 #[.agg c_aC.toArray] w fun e w' => e = .returned (.bool true) ∧ Below w.heap.size w w' := by
  obtain ⟨u_aC0, u_aC1, u_aC2, u_aC3, u_aC4, u_aC5, u_aC6, rfl⟩ := cells7 (rd_aC.len.trans hn_aC)
  have HSZ_aC := Lib.hid SZ_aC
  have HTO_aC := Lib.hid TO_aC
  have HEQ_aC := Lib.hid EQ_aC
  have HMK_aC := Lib.hid MK_aC
  have HEQ_r := Lib.hid EQ_r
  have HMK_r := Lib.hid MK_r
  have HSP := Lib.hid SP
  have HIM := Lib.hid IM
  have RI_aC := Lib.hid rd_aC
  clear SZ_aC TO_aC EQ_aC MK_aC EQ_r MK_r SP IM rd_aC
  have HB := Lib.hid (show Below w.heap.size w (w.alloc (.cells #[u_aC0, u_aC1, u_aC2, u_aC3, u_aC4, u_aC5, u_aC6] 29)) from ((Below.refl w.heap.size w).alloc (by simp) (.cells #[u_aC0, u_aC1, u_aC2, u_aC3, u_aC4, u_aC5, u_aC6] 29)))
  have HS := Lib.hid (((Has.nil w).below ((Below.refl _ _).alloc (Nat.le_refl _) (.cells #[u_aC0, u_aC1, u_aC2, u_aC3, u_aC4, u_aC5, u_aC6] 29))).add (a := .blk w.heap.size (.cells #[u_aC0, u_aC1, u_aC2, u_aC3, u_aC4, u_aC5, u_aC6] 29 (0, 0))) (blk_new w (.cells #[u_aC0, u_aC1, u_aC2, u_aC3, u_aC4, u_aC5, u_aC6] 29)))
  have SZ0 := Lib.hid (show (w.alloc (.cells #[u_aC0, u_aC1, u_aC2, u_aC3, u_aC4, u_aC5, u_aC6] 29)).heap.size = w.heap.size + 1 by simp)
  go_enter Try.func3, Try.ntmps3
  go_wp2_with fail
  generalize hw0 : (w.alloc (.cells #[u_aC0, u_aC1, u_aC2, u_aC3, u_aC4, u_aC5, u_aC6] 29)) = w0 at *
  clear hw0
  refine ((HSZ_aC.out _ _ (1048576) (RI_aC.out.below HB.out) (by omega) (by omega))).mono ?_
  rintro e w1 ⟨rfl, hb⟩
  have HS := Lib.hid (HS.out.below hb)
  have SZ1 := Lib.hid (show w0.heap.size ≤ w1.heap.size from hb.size)
  have HB := Lib.hid (HB.out.trans (hb.mono HB.out.size))
  clear hb
  by_cases hzaC : (1048576 : Int) < x_aC.bulk
  · rw [szR_neg' hzaC]
    go_wp2
    go_ret
    exact ⟨rfl, HB.out⟩
  rw [szR_fit (by omega)]
  have HTO_aC := Lib.hid (HTO_aC.out (by omega))
  have HMK_aC := Lib.hid (HMK_aC.out (by omega))
  have HSP := Lib.hid (HSP.out (by omega))
  have HIM := Lib.hid (HIM.out (by omega))
  have HMK_r := Lib.hid (HMK_r.out (by omega))
  have hblk := HS.out.blk (g := w.heap.size) (o := .cells #[u_aC0, u_aC1, u_aC2, u_aC3, u_aC4, u_aC5, u_aC6] 29 (0, 0)) List.mem_cons_self
  have zaC_0 := (blk_cell hblk 0).trans (rfl : _ = some u_aC0)
  have zaC_1 := (blk_cell hblk 1).trans (rfl : _ = some u_aC1)
  have zaC_2 := (blk_cell hblk 2).trans (rfl : _ = some u_aC2)
  have zaC_3 := (blk_cell hblk 3).trans (rfl : _ = some u_aC3)
  have zaC_4 := (blk_cell hblk 4).trans (rfl : _ = some u_aC4)
  have zaC_5 := (blk_cell hblk 5).trans (rfl : _ = some u_aC5)
  have zaC_6 := (blk_cell hblk 6).trans (rfl : _ = some u_aC6)
  clear hblk
  go_wp2_with fail
  refine ((HTO_aC.out _ _ (RI_aC.out.below HB.out))).mono ?_
  rintro e w2 ⟨cs, rfl, hfr, hb⟩
  obtain ⟨t1_0, t1_1, t1_2, t1_3, t1_4, t1_5, t1_6, rfl⟩ := cells7 (hfr.len.trans hn_aC)
  have HS := Lib.hid (HS.out.below hb)
  have SZ2 := Lib.hid (show w1.heap.size ≤ w2.heap.size from hb.size)
  have HB := Lib.hid (HB.out.trans (hb.mono HB.out.size))
  have HS := Lib.hid (HS.out.add (a := (.dat w1.heap.size w2.heap.size x_aC [t1_0, t1_1, t1_2, t1_3, t1_4, t1_5, t1_6])) hfr.range)
  have ONEt1 := Lib.hid hfr.all
  clear hb hfr
  clear zaC_0 zaC_1 zaC_2 zaC_3 zaC_4 zaC_5 zaC_6
  have hblk := HS.out.blk (g := w.heap.size) (o := .cells #[u_aC0, u_aC1, u_aC2, u_aC3, u_aC4, u_aC5, u_aC6] 29 (0, 0)) (List.mem_cons_of_mem _ List.mem_cons_self)
  have zaC_0 := (blk_cell hblk 0).trans (rfl : _ = some u_aC0)
  have zaC_1 := (blk_cell hblk 1).trans (rfl : _ = some u_aC1)
  have zaC_2 := (blk_cell hblk 2).trans (rfl : _ = some u_aC2)
  have zaC_3 := (blk_cell hblk 3).trans (rfl : _ = some u_aC3)
  have zaC_4 := (blk_cell hblk 4).trans (rfl : _ = some u_aC4)
  have zaC_5 := (blk_cell hblk 5).trans (rfl : _ = some u_aC5)
  have zaC_6 := (blk_cell hblk 6).trans (rfl : _ = some u_aC6)
  clear hblk
  go_wp2_with fail
  refine ((HSP.out _ _ (HS.out.dat (x := x_aC) (B := w1.heap.size) (C := w2.heap.size) (cs := [t1_0, t1_1, t1_2, t1_3, t1_4, t1_5, t1_6]) List.mem_cons_self).rd)).mono ?_
  rintro e w3 ⟨vq2, rfl, hfr, hb⟩
  have HS := Lib.hid (HS.out.below hb)
  have SZ3 := Lib.hid (show w2.heap.size ≤ w3.heap.size from hb.size)
  have HB := Lib.hid (HB.out.trans (hb.mono HB.out.size))
  have HS := Lib.hid (HS.out.add (a := (.dat w2.heap.size w3.heap.size r [vq2])) hfr.range)
  clear hb hfr
  clear zaC_0 zaC_1 zaC_2 zaC_3 zaC_4 zaC_5 zaC_6
  have hblk := HS.out.blk (g := w.heap.size) (o := .cells #[u_aC0, u_aC1, u_aC2, u_aC3, u_aC4, u_aC5, u_aC6] 29 (0, 0)) (List.mem_cons_of_mem _ (List.mem_cons_of_mem _ List.mem_cons_self))
  have zaC_0 := (blk_cell hblk 0).trans (rfl : _ = some u_aC0)
  have zaC_1 := (blk_cell hblk 1).trans (rfl : _ = some u_aC1)
  have zaC_2 := (blk_cell hblk 2).trans (rfl : _ = some u_aC2)
  have zaC_3 := (blk_cell hblk 3).trans (rfl : _ = some u_aC3)
  have zaC_4 := (blk_cell hblk 4).trans (rfl : _ = some u_aC4)
  have zaC_5 := (blk_cell hblk 5).trans (rfl : _ = some u_aC5)
  have zaC_6 := (blk_cell hblk 6).trans (rfl : _ = some u_aC6)
  clear hblk
  go_wp2_with fail
  refine ((HTO_aC.out _ _ (RI_aC.out.below HB.out))).mono ?_
  rintro e w4 ⟨cs, rfl, hfr, hb⟩
  obtain ⟨t3_0, t3_1, t3_2, t3_3, t3_4, t3_5, t3_6, rfl⟩ := cells7 (hfr.len.trans hn_aC)
  have HS := Lib.hid (HS.out.below hb)
  have SZ4 := Lib.hid (show w3.heap.size ≤ w4.heap.size from hb.size)
  have HB := Lib.hid (HB.out.trans (hb.mono HB.out.size))
  have HS := Lib.hid (HS.out.add (a := (.dat w3.heap.size w4.heap.size x_aC [t3_0, t3_1, t3_2, t3_3, t3_4, t3_5, t3_6])) hfr.range)
  have ONEt3 := Lib.hid hfr.all
  clear hb hfr
  go_wp2_with (refine wpl_store_new' rfl 36 (.tmp 5) (.tmp 20) rfl _ #[t3_0, t3_1, t3_2, t3_3, t3_4, t3_5, t3_6] rfl rfl (infoSzCore) rfl ONEt3.out ?_; intro w5 hbk hbl hsz; have HS := Lib.hid ((HS.out.below hbl)); have HS := Lib.hid (HS.out.add (a := (.blk (w4.heap.size) (.cells #[t3_0, t3_1, t3_2, t3_3, t3_4, t3_5, t3_6] 36 (0, 0)))) hbk); have SZ5 := Lib.hid hsz; have HB := Lib.hid (HB.out.trans (hbl.mono HB.out.size)); clear hbk hbl hsz; clear zaC_0 zaC_1 zaC_2 zaC_3 zaC_4 zaC_5 zaC_6; have hblk := HS.out.blk (g := w4.heap.size) (o := .cells #[t3_0, t3_1, t3_2, t3_3, t3_4, t3_5, t3_6] 36 (0, 0)) List.mem_cons_self; have zbt3_0 := (blk_cell hblk 0).trans (rfl : _ = some t3_0); have zbt3_1 := (blk_cell hblk 1).trans (rfl : _ = some t3_1); have zbt3_2 := (blk_cell hblk 2).trans (rfl : _ = some t3_2); have zbt3_3 := (blk_cell hblk 3).trans (rfl : _ = some t3_3); have zbt3_4 := (blk_cell hblk 4).trans (rfl : _ = some t3_4); have zbt3_5 := (blk_cell hblk 5).trans (rfl : _ = some t3_5); have zbt3_6 := (blk_cell hblk 6).trans (rfl : _ = some t3_6); clear hblk)
  refine ((HIM.out _ _ (HS.out.dat (x := x_aC) (B := w3.heap.size) (C := w4.heap.size) (cs := [t3_0, t3_1, t3_2, t3_3, t3_4, t3_5, t3_6]) (List.mem_cons_of_mem _ List.mem_cons_self)).rd)).mono ?_
  rintro e w6 ⟨vq4, rfl, hfr, hb⟩
  have HS := Lib.hid (HS.out.below hb)
  have SZ6 := Lib.hid (show w5.heap.size ≤ w6.heap.size from hb.size)
  have HB := Lib.hid (HB.out.trans (hb.mono HB.out.size))
  have HS := Lib.hid (HS.out.add (a := (.dat w5.heap.size w6.heap.size r [vq4])) hfr.range)
  clear hb hfr
  clear zbt3_0 zbt3_1 zbt3_2 zbt3_3 zbt3_4 zbt3_5 zbt3_6
  go_wp2_with fail
  refine ((HEQ_r.out _ _ _ (HS.out.dat (x := r) (B := w5.heap.size) (C := w6.heap.size) (cs := [vq4]) List.mem_cons_self).rd (HS.out.dat (x := r) (B := w2.heap.size) (C := w3.heap.size) (cs := [vq2]) (List.mem_cons_of_mem _ (List.mem_cons_of_mem _ (List.mem_cons_of_mem _ List.mem_cons_self)))).rd)).mono ?_
  rintro e w7 ⟨rfl, hb⟩
  have HS := Lib.hid (HS.out.below hb)
  have SZ7 := Lib.hid (show w6.heap.size ≤ w7.heap.size from hb.size)
  have HB := Lib.hid (HB.out.trans (hb.mono HB.out.size))
  clear hb
  have hblk := HS.out.blk (g := w4.heap.size) (o := .cells #[t3_0, t3_1, t3_2, t3_3, t3_4, t3_5, t3_6] 36 (0, 0)) (List.mem_cons_of_mem _ List.mem_cons_self)
  have zbt3_0 := (blk_cell hblk 0).trans (rfl : _ = some t3_0)
  have zbt3_1 := (blk_cell hblk 1).trans (rfl : _ = some t3_1)
  have zbt3_2 := (blk_cell hblk 2).trans (rfl : _ = some t3_2)
  have zbt3_3 := (blk_cell hblk 3).trans (rfl : _ = some t3_3)
  have zbt3_4 := (blk_cell hblk 4).trans (rfl : _ = some t3_4)
  have zbt3_5 := (blk_cell hblk 5).trans (rfl : _ = some t3_5)
  have zbt3_6 := (blk_cell hblk 6).trans (rfl : _ = some t3_6)
  clear hblk
  have hblk := HS.out.blk (g := w.heap.size) (o := .cells #[u_aC0, u_aC1, u_aC2, u_aC3, u_aC4, u_aC5, u_aC6] 29 (0, 0)) (List.mem_cons_of_mem _ (List.mem_cons_of_mem _ (List.mem_cons_of_mem _ (List.mem_cons_of_mem _ (List.mem_cons_of_mem _ List.mem_cons_self)))))
  have zaC_0 := (blk_cell hblk 0).trans (rfl : _ = some u_aC0)
  have zaC_1 := (blk_cell hblk 1).trans (rfl : _ = some u_aC1)
  have zaC_2 := (blk_cell hblk 2).trans (rfl : _ = some u_aC2)
  have zaC_3 := (blk_cell hblk 3).trans (rfl : _ = some u_aC3)
  have zaC_4 := (blk_cell hblk 4).trans (rfl : _ = some u_aC4)
  have zaC_5 := (blk_cell hblk 5).trans (rfl : _ = some u_aC5)
  have zaC_6 := (blk_cell hblk 6).trans (rfl : _ = some u_aC6)
  clear hblk
  go_wp2_with fail
  go_region_held3 (fun w' => w'.cell? ⟨w4.heap.size, 0, none⟩ = some t3_0 ∧ w'.cell? ⟨w4.heap.size, 1, none⟩ = some t3_1 ∧ w'.cell? ⟨w4.heap.size, 2, none⟩ = some t3_2 ∧ w'.cell? ⟨w4.heap.size, 3, none⟩ = some t3_3 ∧ w'.cell? ⟨w4.heap.size, 4, none⟩ = some t3_4 ∧ w'.cell? ⟨w4.heap.size, 5, none⟩ = some t3_5 ∧ w'.cell? ⟨w4.heap.size, 6, none⟩ = some t3_6 ∧ w'.cell? ⟨w.heap.size, 0, none⟩ = some u_aC0 ∧ w'.cell? ⟨w.heap.size, 1, none⟩ = some u_aC1 ∧ w'.cell? ⟨w.heap.size, 2, none⟩ = some u_aC2 ∧ w'.cell? ⟨w.heap.size, 3, none⟩ = some u_aC3 ∧ w'.cell? ⟨w.heap.size, 4, none⟩ = some u_aC4 ∧ w'.cell? ⟨w.heap.size, 5, none⟩ = some u_aC5 ∧ w'.cell? ⟨w.heap.size, 6, none⟩ = some u_aC6)
    (first | exact ⟨zbt3_0, zbt3_1, zbt3_2, zbt3_3, zbt3_4, zbt3_5, zbt3_6, zaC_0, zaC_1, zaC_2, zaC_3, zaC_4, zaC_5, zaC_6⟩ | exact ⟨by simpa using blk_cell (HS.out.blk (g := w4.heap.size) (o := .cells #[t3_0, t3_1, t3_2, t3_3, t3_4, t3_5, t3_6] 36 (0, 0)) (by simp)) 0, by simpa using blk_cell (HS.out.blk (g := w4.heap.size) (o := .cells #[t3_0, t3_1, t3_2, t3_3, t3_4, t3_5, t3_6] 36 (0, 0)) (by simp)) 1, by simpa using blk_cell (HS.out.blk (g := w4.heap.size) (o := .cells #[t3_0, t3_1, t3_2, t3_3, t3_4, t3_5, t3_6] 36 (0, 0)) (by simp)) 2, by simpa using blk_cell (HS.out.blk (g := w4.heap.size) (o := .cells #[t3_0, t3_1, t3_2, t3_3, t3_4, t3_5, t3_6] 36 (0, 0)) (by simp)) 3, by simpa using blk_cell (HS.out.blk (g := w4.heap.size) (o := .cells #[t3_0, t3_1, t3_2, t3_3, t3_4, t3_5, t3_6] 36 (0, 0)) (by simp)) 4, by simpa using blk_cell (HS.out.blk (g := w4.heap.size) (o := .cells #[t3_0, t3_1, t3_2, t3_3, t3_4, t3_5, t3_6] 36 (0, 0)) (by simp)) 5, by simpa using blk_cell (HS.out.blk (g := w4.heap.size) (o := .cells #[t3_0, t3_1, t3_2, t3_3, t3_4, t3_5, t3_6] 36 (0, 0)) (by simp)) 6, by simpa using blk_cell (HS.out.blk (g := w.heap.size) (o := .cells #[u_aC0, u_aC1, u_aC2, u_aC3, u_aC4, u_aC5, u_aC6] 29 (0, 0)) (by simp)) 0, by simpa using blk_cell (HS.out.blk (g := w.heap.size) (o := .cells #[u_aC0, u_aC1, u_aC2, u_aC3, u_aC4, u_aC5, u_aC6] 29 (0, 0)) (by simp)) 1, by simpa using blk_cell (HS.out.blk (g := w.heap.size) (o := .cells #[u_aC0, u_aC1, u_aC2, u_aC3, u_aC4, u_aC5, u_aC6] 29 (0, 0)) (by simp)) 2, by simpa using blk_cell (HS.out.blk (g := w.heap.size) (o := .cells #[u_aC0, u_aC1, u_aC2, u_aC3, u_aC4, u_aC5, u_aC6] 29 (0, 0)) (by simp)) 3, by simpa using blk_cell (HS.out.blk (g := w.heap.size) (o := .cells #[u_aC0, u_aC1, u_aC2, u_aC3, u_aC4, u_aC5, u_aC6] 29 (0, 0)) (by simp)) 4, by simpa using blk_cell (HS.out.blk (g := w.heap.size) (o := .cells #[u_aC0, u_aC1, u_aC2, u_aC3, u_aC4, u_aC5, u_aC6] 29 (0, 0)) (by simp)) 5, by simpa using blk_cell (HS.out.blk (g := w.heap.size) (o := .cells #[u_aC0, u_aC1, u_aC2, u_aC3, u_aC4, u_aC5, u_aC6] 29 (0, 0)) (by simp)) 6⟩ | exact ⟨by simpa using blk_cell (blk_old (HS.out.blk (g := w4.heap.size) (o := .cells #[t3_0, t3_1, t3_2, t3_3, t3_4, t3_5, t3_6] 36 (0, 0)) (by simp)) _) 0, by simpa using blk_cell (blk_old (HS.out.blk (g := w4.heap.size) (o := .cells #[t3_0, t3_1, t3_2, t3_3, t3_4, t3_5, t3_6] 36 (0, 0)) (by simp)) _) 1, by simpa using blk_cell (blk_old (HS.out.blk (g := w4.heap.size) (o := .cells #[t3_0, t3_1, t3_2, t3_3, t3_4, t3_5, t3_6] 36 (0, 0)) (by simp)) _) 2, by simpa using blk_cell (blk_old (HS.out.blk (g := w4.heap.size) (o := .cells #[t3_0, t3_1, t3_2, t3_3, t3_4, t3_5, t3_6] 36 (0, 0)) (by simp)) _) 3, by simpa using blk_cell (blk_old (HS.out.blk (g := w4.heap.size) (o := .cells #[t3_0, t3_1, t3_2, t3_3, t3_4, t3_5, t3_6] 36 (0, 0)) (by simp)) _) 4, by simpa using blk_cell (blk_old (HS.out.blk (g := w4.heap.size) (o := .cells #[t3_0, t3_1, t3_2, t3_3, t3_4, t3_5, t3_6] 36 (0, 0)) (by simp)) _) 5, by simpa using blk_cell (blk_old (HS.out.blk (g := w4.heap.size) (o := .cells #[t3_0, t3_1, t3_2, t3_3, t3_4, t3_5, t3_6] 36 (0, 0)) (by simp)) _) 6, by simpa using blk_cell (blk_old (HS.out.blk (g := w.heap.size) (o := .cells #[u_aC0, u_aC1, u_aC2, u_aC3, u_aC4, u_aC5, u_aC6] 29 (0, 0)) (by simp)) _) 0, by simpa using blk_cell (blk_old (HS.out.blk (g := w.heap.size) (o := .cells #[u_aC0, u_aC1, u_aC2, u_aC3, u_aC4, u_aC5, u_aC6] 29 (0, 0)) (by simp)) _) 1, by simpa using blk_cell (blk_old (HS.out.blk (g := w.heap.size) (o := .cells #[u_aC0, u_aC1, u_aC2, u_aC3, u_aC4, u_aC5, u_aC6] 29 (0, 0)) (by simp)) _) 2, by simpa using blk_cell (blk_old (HS.out.blk (g := w.heap.size) (o := .cells #[u_aC0, u_aC1, u_aC2, u_aC3, u_aC4, u_aC5, u_aC6] 29 (0, 0)) (by simp)) _) 3, by simpa using blk_cell (blk_old (HS.out.blk (g := w.heap.size) (o := .cells #[u_aC0, u_aC1, u_aC2, u_aC3, u_aC4, u_aC5, u_aC6] 29 (0, 0)) (by simp)) _) 4, by simpa using blk_cell (blk_old (HS.out.blk (g := w.heap.size) (o := .cells #[u_aC0, u_aC1, u_aC2, u_aC3, u_aC4, u_aC5, u_aC6] 29 (0, 0)) (by simp)) _) 5, by simpa using blk_cell (blk_old (HS.out.blk (g := w.heap.size) (o := .cells #[u_aC0, u_aC1, u_aC2, u_aC3, u_aC4, u_aC5, u_aC6] 29 (0, 0)) (by simp)) _) 6⟩)
    (first
      | (go_at_call 12; have HB := Lib.hid HB.out.drew; have HS := Lib.hid HS.out.drew; have CT := (HTO_aC.out _ _ (RI_aC.out.below HB.out)); (with_reducible refine CT.mono ?_); clear CT; rintro e w8 ⟨cs, rfl, hfr, hb⟩; obtain ⟨t5_0, t5_1, t5_2, t5_3, t5_4, t5_5, t5_6, rfl⟩ := cells7 (hfr.len.trans hn_aC); have HS := Lib.hid (HS.out.below hb); have SZ8 := Lib.hid (show w7.heap.size ≤ w8.heap.size from hb.size); have HB := Lib.hid (HB.out.trans (hb.mono HB.out.size)); have HS := Lib.hid (HS.out.add (a := (.dat w7.heap.size w8.heap.size x_aC [t5_0, t5_1, t5_2, t5_3, t5_4, t5_5, t5_6])) hfr.range); have ONEt5 := Lib.hid hfr.all; clear hb hfr)
      | (go_at_call 15; have CT := (HEQ_aC.out _ _ _ (HS.out.dat (x := x_aC) (B := w3.heap.size) (C := w4.heap.size) (cs := [t3_0, t3_1, t3_2, t3_3, t3_4, t3_5, t3_6]) (List.mem_cons_of_mem _ (List.mem_cons_of_mem _ (List.mem_cons_of_mem _ List.mem_cons_self)))).rd (HS.out.dat (x := x_aC) (B := w7.heap.size) (C := w8.heap.size) (cs := [t5_0, t5_1, t5_2, t5_3, t5_4, t5_5, t5_6]) List.mem_cons_self).rd); (with_reducible refine CT.mono ?_); clear CT; rintro e w9 ⟨rfl, hb⟩; have HS := Lib.hid (HS.out.below hb); have SZ9 := Lib.hid (show w8.heap.size ≤ w9.heap.size from hb.size); have HB := Lib.hid (HB.out.trans (hb.mono HB.out.size)); clear hb))
  clear zbt3_0 zbt3_1 zbt3_2 zbt3_3 zbt3_4 zbt3_5 zbt3_6 zaC_0 zaC_1 zaC_2 zaC_3 zaC_4 zaC_5 zaC_6
  have hblk := HS.out.blk (g := w4.heap.size) (o := .cells #[t3_0, t3_1, t3_2, t3_3, t3_4, t3_5, t3_6] 36 (0, 0)) (List.mem_cons_of_mem _ (List.mem_cons_of_mem _ List.mem_cons_self))
  have zbt3_0 := (blk_cell hblk 0).trans (rfl : _ = some t3_0)
  have zbt3_1 := (blk_cell hblk 1).trans (rfl : _ = some t3_1)
  have zbt3_2 := (blk_cell hblk 2).trans (rfl : _ = some t3_2)
  have zbt3_3 := (blk_cell hblk 3).trans (rfl : _ = some t3_3)
  have zbt3_4 := (blk_cell hblk 4).trans (rfl : _ = some t3_4)
  have zbt3_5 := (blk_cell hblk 5).trans (rfl : _ = some t3_5)
  have zbt3_6 := (blk_cell hblk 6).trans (rfl : _ = some t3_6)
  clear hblk
  go_wp2_with fail
  have sSZ0 := SZ0.out
  have sSZ1 := SZ1.out
  have sSZ2 := SZ2.out
  have sSZ3 := SZ3.out
  have sSZ4 := SZ4.out
  have sSZ5 := SZ5.out
  have sSZ6 := SZ6.out
  have sSZ7 := SZ7.out
  have sSZ8 := SZ8.out
  have sSZ9 := SZ9.out
  have hcn := HMK_aC.out.1
  refine (HMK_aC.out.2.one (HS.out.dat (x := x_aC) (B := w3.heap.size) (C := w4.heap.size) (cs := [t3_0, t3_1, t3_2, t3_3, t3_4, t3_5, t3_6]) (List.mem_cons_of_mem _ (List.mem_cons_of_mem _ (List.mem_cons_of_mem _ List.mem_cons_self)))) (by omega)).mono ?_
  rintro e w10 ⟨n1, hn1, rfl, hf, ht⟩
  have HS := Lib.hid (Has.touch (Has.mid (l1 := [(.dat w7.heap.size w8.heap.size x_aC [t5_0, t5_1, t5_2, t5_3, t5_4, t5_5, t5_6]), (.dat w5.heap.size w6.heap.size r [vq4]), (.blk (w4.heap.size) (.cells #[t3_0, t3_1, t3_2, t3_3, t3_4, t3_5, t3_6] 36 (0, 0)))]) (l2 := [(.dat w2.heap.size w3.heap.size r [vq2]), (.dat w1.heap.size w2.heap.size x_aC [t1_0, t1_1, t1_2, t1_3, t1_4, t1_5, t1_6]), (.blk (w.heap.size) (.cells #[u_aC0, u_aC1, u_aC2, u_aC3, u_aC4, u_aC5, u_aC6] 29 (0, 0)))]) HS.out) ht (ap_cons (show _ ∨ _ by omega) (ap_cons (show _ ∨ _ by omega) (ap_cons (show _ ∨ _ by omega) (ap_cons (show _ ∨ _ by omega) (ap_cons (show _ ∨ _ by omega) (ap_cons (show _ ∨ _ by omega) (ap_nil))))))))
  have SZ10 := Lib.hid (show w9.heap.size ≤ w10.heap.size from ht.size)
  have HS := Lib.hid (HS.out.add (a := (.dat w3.heap.size w4.heap.size (x_aC.top 1) [t3_0, t3_1, t3_2, t3_3, t3_4, t3_5, t3_6])) hf)
  have HB := Lib.hid (ht.below HB.out (by omega) HB.out.size)
  have NNn1 : Hid (n1 = 1 + x_aC.tcnt ∧ n1 ≤ 1099511627777) := ⟨hn1, by omega⟩
  clear hf ht hn1 hcn sSZ0 sSZ1 sSZ2 sSZ3 sSZ4 sSZ5 sSZ6 sSZ7 sSZ8 sSZ9
  have hng : decide ((n1 : Int) < 0) = false := decide_eq_false (by omega)
  clear zbt3_0 zbt3_1 zbt3_2 zbt3_3 zbt3_4 zbt3_5 zbt3_6
  go_wp2_with fail
  refine ((HEQ_r.out _ _ _ (HS.out.dat (x := r) (B := w5.heap.size) (C := w6.heap.size) (cs := [vq4]) (List.mem_cons_of_mem _ (List.mem_cons_of_mem _ List.mem_cons_self))).rd (HS.out.dat (x := r) (B := w2.heap.size) (C := w3.heap.size) (cs := [vq2]) (List.mem_cons_of_mem _ (List.mem_cons_of_mem _ (List.mem_cons_of_mem _ (List.mem_cons_of_mem _ List.mem_cons_self))))).rd)).mono ?_
  rintro e w11 ⟨rfl, hb⟩
  have HS := Lib.hid (HS.out.below hb)
  have SZ11 := Lib.hid (show w10.heap.size ≤ w11.heap.size from hb.size)
  have HB := Lib.hid (HB.out.trans (hb.mono HB.out.size))
  clear hb
  go_wp2_with fail
  have sSZ0 := SZ0.out
  have sSZ1 := SZ1.out
  have sSZ2 := SZ2.out
  have sSZ3 := SZ3.out
  have sSZ4 := SZ4.out
  have sSZ5 := SZ5.out
  have sSZ6 := SZ6.out
  have sSZ7 := SZ7.out
  have sSZ8 := SZ8.out
  have sSZ9 := SZ9.out
  have sSZ10 := SZ10.out
  have sSZ11 := SZ11.out
  have hcn := HMK_r.out.1
  refine (HMK_r.out.2.1.one (HS.out.dat (x := r) (B := w5.heap.size) (C := w6.heap.size) (cs := [vq4]) (List.mem_cons_of_mem _ (List.mem_cons_of_mem _ List.mem_cons_self))) (by omega)).mono ?_
  rintro e w12 ⟨n2, hn2, rfl, hf, ht⟩
  have HS := Lib.hid (Has.touch (Has.mid (l1 := [(.dat w3.heap.size w4.heap.size (x_aC.top 1) [t3_0, t3_1, t3_2, t3_3, t3_4, t3_5, t3_6]), (.dat w7.heap.size w8.heap.size x_aC [t5_0, t5_1, t5_2, t5_3, t5_4, t5_5, t5_6])]) (l2 := [(.blk (w4.heap.size) (.cells #[t3_0, t3_1, t3_2, t3_3, t3_4, t3_5, t3_6] 36 (0, 0))), (.dat w2.heap.size w3.heap.size r [vq2]), (.dat w1.heap.size w2.heap.size x_aC [t1_0, t1_1, t1_2, t1_3, t1_4, t1_5, t1_6]), (.blk (w.heap.size) (.cells #[u_aC0, u_aC1, u_aC2, u_aC3, u_aC4, u_aC5, u_aC6] 29 (0, 0)))]) HS.out) ht (ap_cons (show _ ∨ _ by omega) (ap_cons (show _ ∨ _ by omega) (ap_cons (show _ ∨ _ by omega) (ap_cons (show _ ∨ _ by omega) (ap_cons (show _ ∨ _ by omega) (ap_cons (show _ ∨ _ by omega) (ap_nil))))))))
  have SZ12 := Lib.hid (show w11.heap.size ≤ w12.heap.size from ht.size)
  have HS := Lib.hid (HS.out.add (a := (.dat w5.heap.size w6.heap.size (r.top 1) [vq4])) hf)
  have HB := Lib.hid (ht.below HB.out (by omega) HB.out.size)
  have NNn2 : Hid (n2 = 1 + r.tcnt ∧ n2 ≤ 1099511627777) := ⟨hn2, by omega⟩
  clear hf ht hn2 hcn sSZ0 sSZ1 sSZ2 sSZ3 sSZ4 sSZ5 sSZ6 sSZ7 sSZ8 sSZ9 sSZ10 sSZ11
  have hng : decide ((n2 : Int) < 0) = false := decide_eq_false (by omega)
  go_wp2_with fail
  have sSZ0 := SZ0.out
  have sSZ1 := SZ1.out
  have sSZ2 := SZ2.out
  have sSZ3 := SZ3.out
  have sSZ4 := SZ4.out
  have sSZ5 := SZ5.out
  have sSZ6 := SZ6.out
  have sSZ7 := SZ7.out
  have sSZ8 := SZ8.out
  have sSZ9 := SZ9.out
  have sSZ10 := SZ10.out
  have sSZ11 := SZ11.out
  have sSZ12 := SZ12.out
  have hcn := HMK_r.out.1
  refine (HMK_r.out.2.2.one (HS.out.dat (x := (r.top 1)) (B := w5.heap.size) (C := w6.heap.size) (cs := [vq4]) List.mem_cons_self).rd (by omega)).mono ?_
  rintro e w13 ⟨n3, hn3, rfl, hb⟩
  have HS := Lib.hid (HS.out.below hb)
  have SZ13 := Lib.hid (show w12.heap.size ≤ w13.heap.size from hb.size)
  have HB := Lib.hid (HB.out.trans (hb.mono HB.out.size))
  have NNn3 : Hid (n3 = 1 + r.tcnt ∧ n3 ≤ 1099511627777) := ⟨hn3, by omega⟩
  clear hb hn3 hcn sSZ0 sSZ1 sSZ2 sSZ3 sSZ4 sSZ5 sSZ6 sSZ7 sSZ8 sSZ9 sSZ10 sSZ11 sSZ12
  obtain rfl : n2 = n3 := by have h1 := NNn3.out; have h2 := NNn2.out; omega
  have hng : decide ((n2 : Int) < 0) = false := decide_eq_false (by omega)
  have hblk := HS.out.blk (g := w.heap.size) (o := .cells #[u_aC0, u_aC1, u_aC2, u_aC3, u_aC4, u_aC5, u_aC6] 29 (0, 0)) (List.mem_cons_of_mem _ (List.mem_cons_of_mem _ (List.mem_cons_of_mem _ (List.mem_cons_of_mem _ (List.mem_cons_of_mem _ (List.mem_cons_of_mem _ List.mem_cons_self))))))
  have zaC_0 := (blk_cell hblk 0).trans (rfl : _ = some u_aC0)
  have zaC_1 := (blk_cell hblk 1).trans (rfl : _ = some u_aC1)
  have zaC_2 := (blk_cell hblk 2).trans (rfl : _ = some u_aC2)
  have zaC_3 := (blk_cell hblk 3).trans (rfl : _ = some u_aC3)
  have zaC_4 := (blk_cell hblk 4).trans (rfl : _ = some u_aC4)
  have zaC_5 := (blk_cell hblk 5).trans (rfl : _ = some u_aC5)
  have zaC_6 := (blk_cell hblk 6).trans (rfl : _ = some u_aC6)
  clear hblk
  go_wp2_with fail
  refine ((HTO_aC.out _ _ (RI_aC.out.below HB.out))).mono ?_
  rintro e w14 ⟨cs, rfl, hfr, hb⟩
  obtain ⟨t6_0, t6_1, t6_2, t6_3, t6_4, t6_5, t6_6, rfl⟩ := cells7 (hfr.len.trans hn_aC)
  have HS := Lib.hid (HS.out.below hb)
  have SZ14 := Lib.hid (show w13.heap.size ≤ w14.heap.size from hb.size)
  have HB := Lib.hid (HB.out.trans (hb.mono HB.out.size))
  have HS := Lib.hid (HS.out.add (a := (.dat w13.heap.size w14.heap.size x_aC [t6_0, t6_1, t6_2, t6_3, t6_4, t6_5, t6_6])) hfr.range)
  have ONEt6 := Lib.hid hfr.all
  clear hb hfr
  clear zaC_0 zaC_1 zaC_2 zaC_3 zaC_4 zaC_5 zaC_6
  have hblk := HS.out.blk (g := w.heap.size) (o := .cells #[u_aC0, u_aC1, u_aC2, u_aC3, u_aC4, u_aC5, u_aC6] 29 (0, 0)) (List.mem_cons_of_mem _ (List.mem_cons_of_mem _ (List.mem_cons_of_mem _ (List.mem_cons_of_mem _ (List.mem_cons_of_mem _ (List.mem_cons_of_mem _ (List.mem_cons_of_mem _ List.mem_cons_self)))))))
  have zaC_0 := (blk_cell hblk 0).trans (rfl : _ = some u_aC0)
  have zaC_1 := (blk_cell hblk 1).trans (rfl : _ = some u_aC1)
  have zaC_2 := (blk_cell hblk 2).trans (rfl : _ = some u_aC2)
  have zaC_3 := (blk_cell hblk 3).trans (rfl : _ = some u_aC3)
  have zaC_4 := (blk_cell hblk 4).trans (rfl : _ = some u_aC4)
  have zaC_5 := (blk_cell hblk 5).trans (rfl : _ = some u_aC5)
  have zaC_6 := (blk_cell hblk 6).trans (rfl : _ = some u_aC6)
  clear hblk
  go_wp2_with fail
  refine ((HIM.out _ _ (HS.out.dat (x := x_aC) (B := w13.heap.size) (C := w14.heap.size) (cs := [t6_0, t6_1, t6_2, t6_3, t6_4, t6_5, t6_6]) List.mem_cons_self).rd)).mono ?_
  rintro e w15 ⟨vq7, rfl, hfr, hb⟩
  have HS := Lib.hid (HS.out.below hb)
  have SZ15 := Lib.hid (show w14.heap.size ≤ w15.heap.size from hb.size)
  have HB := Lib.hid (HB.out.trans (hb.mono HB.out.size))
  have HS := Lib.hid (HS.out.add (a := (.dat w14.heap.size w15.heap.size r [vq7])) hfr.range)
  clear hb hfr
  clear zaC_0 zaC_1 zaC_2 zaC_3 zaC_4 zaC_5 zaC_6
  go_wp2_with fail
  refine ((HEQ_r.out _ _ _ (HS.out.dat (x := r) (B := w14.heap.size) (C := w15.heap.size) (cs := [vq7]) List.mem_cons_self).rd (HS.out.dat (x := r) (B := w2.heap.size) (C := w3.heap.size) (cs := [vq2]) (List.mem_cons_of_mem _ (List.mem_cons_of_mem _ (List.mem_cons_of_mem _ (List.mem_cons_of_mem _ (List.mem_cons_of_mem _ (List.mem_cons_of_mem _ List.mem_cons_self))))))).rd)).mono ?_
  rintro e w16 ⟨rfl, hb⟩
  have HS := Lib.hid (HS.out.below hb)
  have SZ16 := Lib.hid (show w15.heap.size ≤ w16.heap.size from hb.size)
  have HB := Lib.hid (HB.out.trans (hb.mono HB.out.size))
  clear hb
  go_wp2_with fail
  have sSZ0 := SZ0.out
  have sSZ1 := SZ1.out
  have sSZ2 := SZ2.out
  have sSZ3 := SZ3.out
  have sSZ4 := SZ4.out
  have sSZ5 := SZ5.out
  have sSZ6 := SZ6.out
  have sSZ7 := SZ7.out
  have sSZ8 := SZ8.out
  have sSZ9 := SZ9.out
  have sSZ10 := SZ10.out
  have sSZ11 := SZ11.out
  have sSZ12 := SZ12.out
  have sSZ13 := SZ13.out
  have sSZ14 := SZ14.out
  have sSZ15 := SZ15.out
  have sSZ16 := SZ16.out
  have hcn := HMK_r.out.1
  refine (HMK_r.out.2.2.one (HS.out.dat (x := (r.top 1)) (B := w5.heap.size) (C := w6.heap.size) (cs := [vq4]) (List.mem_cons_of_mem _ (List.mem_cons_of_mem _ List.mem_cons_self))).rd (by omega)).mono ?_
  rintro e w17 ⟨n4, hn4, rfl, hb⟩
  have HS := Lib.hid (HS.out.below hb)
  have SZ17 := Lib.hid (show w16.heap.size ≤ w17.heap.size from hb.size)
  have HB := Lib.hid (HB.out.trans (hb.mono HB.out.size))
  have NNn4 : Hid (n4 = 1 + r.tcnt ∧ n4 ≤ 1099511627777) := ⟨hn4, by omega⟩
  clear hb hn4 hcn sSZ0 sSZ1 sSZ2 sSZ3 sSZ4 sSZ5 sSZ6 sSZ7 sSZ8 sSZ9 sSZ10 sSZ11 sSZ12 sSZ13 sSZ14 sSZ15 sSZ16
  obtain rfl : n2 = n4 := by have h1 := NNn4.out; have h2 := NNn2.out; omega
  have hng : decide ((n2 : Int) < 0) = false := decide_eq_false (by omega)
  go_wp2
  go_ret
  exact ⟨rfl, HB.out⟩

end Go.Proofs.Ythidbmjdphfddaa
