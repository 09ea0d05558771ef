/- The law 'FnExactFixityOf' walked: over whatever both functions answer alike; no condition. -/
import Derived.Test.YtgogfloppnhceaaFamFix
import Derived.Deep.RegionHeld3
namespace Go.Proofs.Ytgogfloppnhceaa
open Go.RowKit
set_option linter.unusedVariables false
set_option linter.unusedSimpArgs false

theorem infoSzFixity : (Try.prog.info? 54).map (·.size) = some 3 := by kernel_rfl
set_option maxRecDepth 100000 in
set_option maxHeartbeats 1000000 in
theorem lawFnExactFixityOf (x_aTable : D) (s_aName : ByteArray) (r : D) (SZ_aTable : SzO Try.prog 31 x_aTable)
    (TO_aTable : x_aTable.bulk ≤ 1048576 → ToO Try.prog 33 x_aTable)
    (EQ_aTable : EqO Try.prog 36 x_aTable)
    (hn_r : r.n = 3)
    (EQ_r : EqA Try.prog 35 r)
    (SP : x_aTable.bulk ≤ 1048576 → s_aName.size ≤ 1048576 → ∀ (w : World) (c_aTable : Value), Rd w x_aTable [c_aTable] → Calls Try.prog 32 #[c_aTable, .string s_aName] w fun e w' => ∃ cs', e = .returned (.agg cs'.toArray) ∧ Fr w.heap.size w' r cs' ∧ Below w.heap.size w w')
    (IM : x_aTable.bulk ≤ 1048576 → s_aName.size ≤ 1048576 → ∀ (w : World) (c_aTable : Value), Rd w x_aTable [c_aTable] → Calls Try.prog 34 #[c_aTable, .string s_aName] w fun e w' => ∃ cs', e = .returned (.agg cs'.toArray) ∧ Fr w.heap.size w' r cs' ∧ Below w.heap.size w w') (w : World) (c_aTable : Value) (rd_aTable : Rd w x_aTable [c_aTable]) (hs_aName : s_aName.size ≤ 140737488351232) :
    Calls Try.prog 9 #[c_aTable, .string s_aName] w fun e w' => e = .returned (.bool true) ∧ Below w.heap.size w w' := by
  have RI_aTable := Lib.hid rd_aTable
  have SZaTable := Lib.hid SZ_aTable
  have TOaTable := Lib.hid TO_aTable
  have EQaTable := Lib.hid EQ_aTable
  clear EQ_aTable
  clear rd_aTable SZ_aTable TO_aTable
  have EQr := Lib.hid EQ_r
  clear EQ_r
  have SPEC := Lib.hid SP
  have IMPL := Lib.hid IM
  clear SP IM
  have HB := Lib.hid (show Below w.heap.size w w from (Below.refl w.heap.size w))
  by_cases hq_aName : s_aName.size ≤ 1048576
  rotate_left
  · go_enter Try.func9, Try.ntmps9
    have hq' : 1048576 < s_aName.size := by omega
    go_wp2_with fail
    go_ret
    exact ⟨rfl, HB.out⟩
  go_enter Try.func9, Try.ntmps9
  go_wp2_with fail
  refine (SZaTable.out _ _ (1048576) (RI_aTable.out.below HB.out) (by omega) (by omega)).mono ?_
  rintro e w1 ⟨rfl, hb⟩
  have HB := Lib.hid (HB.out.trans (hb.mono HB.out.size))
  clear hb
  by_cases hzaTable : (1048576 : Int) < x_aTable.bulk
  · rw [szR_neg' hzaTable]
    go_wp2
    go_ret
    exact ⟨rfl, HB.out⟩
  rw [szR_fit (by omega)]
  have TOaTable := Lib.hid (TOaTable.out (by omega))
  have SPEC := Lib.hid (SPEC.out (by omega) (by omega))
  have IMPL := Lib.hid (IMPL.out (by omega) (by omega))
  go_wp2_with fail
  refine (TOaTable.out _ _ (RI_aTable.out.below HB.out)).mono ?_
  rintro e w2 ⟨vt1, rfl, hfr, hb⟩
  have HB := Lib.hid (HB.out.trans (hb.mono HB.out.size))
  have RDt1 := Lib.hid hfr
  clear hb hfr
  go_wp2_with fail
  refine (SPEC.out _ _ RDt1.out.rd).mono ?_
  rintro e w3 ⟨csw0, rfl, hfr, hb⟩
  obtain ⟨w0_0, w0_1, w0_2, rfl⟩ := cells3 (hfr.len.trans hn_r)
  have RDt1 := Lib.hid (RDt1.out.below hb)
  have HB := Lib.hid (HB.out.trans (hb.mono HB.out.size))
  have RDw0 := Lib.hid hfr
  have ONEw0 := Lib.hid hfr.all
  clear hb hfr
  have hal := (Below.refl w3.heap.size w3).alloc (Nat.le_refl _) (.cells #[w0_0, w0_1, w0_2] 54)
  have RDw0 := Lib.hid (RDw0.out.below hal)
  have HB := Lib.hid (HB.out.trans (hal.mono HB.out.size))
  have BKxw0 := Lib.hid (blk_new w3 (.cells #[w0_0, w0_1, w0_2] 54))
  clear hal
  have zxw0_0 := blk_cell BKxw0.out 0
  have zxw0_1 := blk_cell BKxw0.out 1
  have zxw0_2 := blk_cell BKxw0.out 2
  simp at zxw0_0 zxw0_1 zxw0_2
  go_wp2_with (refine wpl_store_new rfl 54 (.tmp 6) (.tmp 20) rfl _ #[w0_0, w0_1, w0_2] rfl rfl (infoSzFixity) rfl ONEw0.out ?_)
  refine (TOaTable.out _ _ (RI_aTable.out.below HB.out)).mono ?_
  rintro e w4 ⟨vx0, rfl, hfr, hb⟩
  have BKxw0 := Lib.hid (blk_below BKxw0.out hb)
  have RDw0 := Lib.hid (RDw0.out.below hb)
  have HB := Lib.hid (HB.out.trans (hb.mono HB.out.size))
  have RDx0 := Lib.hid hfr
  clear hb hfr
  clear zxw0_0 zxw0_1 zxw0_2
  have zxw0_0 := blk_cell BKxw0.out 0
  have zxw0_1 := blk_cell BKxw0.out 1
  have zxw0_2 := blk_cell BKxw0.out 2
  simp at zxw0_0 zxw0_1 zxw0_2
  clear zxw0_0 zxw0_1 zxw0_2
  have zxw0_0 := blk_cell BKxw0.out 0
  have zxw0_1 := blk_cell BKxw0.out 1
  have zxw0_2 := blk_cell BKxw0.out 2
  simp at zxw0_0 zxw0_1 zxw0_2
  go_wp2_with fail
  refine (IMPL.out _ _ RDx0.out.rd).mono ?_
  rintro e w5 ⟨csg0, rfl, hfr, hb⟩
  obtain ⟨g0_0, g0_1, g0_2, rfl⟩ := cells3 (hfr.len.trans hn_r)
  have BKxw0 := Lib.hid (blk_below BKxw0.out hb)
  have RDw0 := Lib.hid (RDw0.out.below hb)
  have RDx0 := Lib.hid (RDx0.out.below hb)
  have HB := Lib.hid (HB.out.trans (hb.mono HB.out.size))
  have RDg0 := Lib.hid hfr
  have ONEg0 := Lib.hid hfr.all
  clear hb hfr
  have BKxw0 := Lib.hid (blk_old BKxw0.out (.cells #[g0_0, g0_1, g0_2] 54))
  have hal := (Below.refl w5.heap.size w5).alloc (Nat.le_refl _) (.cells #[g0_0, g0_1, g0_2] 54)
  have RDw0 := Lib.hid (RDw0.out.below hal)
  have RDx0 := Lib.hid (RDx0.out.below hal)
  have RDg0 := Lib.hid (RDg0.out.below hal)
  have HB := Lib.hid (HB.out.trans (hal.mono HB.out.size))
  have BKxg0 := Lib.hid (blk_new w5 (.cells #[g0_0, g0_1, g0_2] 54))
  clear hal
  clear zxw0_0 zxw0_1 zxw0_2
  have zxw0_0 := blk_cell BKxw0.out 0
  have zxw0_1 := blk_cell BKxw0.out 1
  have zxw0_2 := blk_cell BKxw0.out 2
  simp at zxw0_0 zxw0_1 zxw0_2
  have zxg0_0 := blk_cell BKxg0.out 0
  have zxg0_1 := blk_cell BKxg0.out 1
  have zxg0_2 := blk_cell BKxg0.out 2
  simp at zxg0_0 zxg0_1 zxg0_2
  go_wp2_with (refine wpl_store_new rfl 54 (.tmp 8) (.tmp 25) rfl _ #[g0_0, g0_1, g0_2] rfl rfl (infoSzFixity) rfl ONEg0.out ?_)
  refine (EQr.out _ _ _ RDg0.out.rd RDw0.out.rd).mono ?_
  rintro e w6 ⟨rfl, hb⟩
  have BKxw0 := Lib.hid (blk_below BKxw0.out hb)
  have BKxg0 := Lib.hid (blk_below BKxg0.out hb)
  have RDw0 := Lib.hid (RDw0.out.below hb)
  have RDx0 := Lib.hid (RDx0.out.below hb)
  have RDg0 := Lib.hid (RDg0.out.below hb)
  have HB := Lib.hid (HB.out.trans (hb.mono HB.out.size))
  clear hb
  clear zxw0_0 zxw0_1 zxw0_2 zxg0_0 zxg0_1 zxg0_2
  have zxw0_0 := blk_cell BKxw0.out 0
  have zxw0_1 := blk_cell BKxw0.out 1
  have zxw0_2 := blk_cell BKxw0.out 2
  simp at zxw0_0 zxw0_1 zxw0_2
  have zxg0_0 := blk_cell BKxg0.out 0
  have zxg0_1 := blk_cell BKxg0.out 1
  have zxg0_2 := blk_cell BKxg0.out 2
  simp at zxg0_0 zxg0_1 zxg0_2
  go_wp2_with fail
  refine (TOaTable.out _ _ (RI_aTable.out.below HB.out)).mono ?_
  rintro e w7 ⟨vt2, rfl, hfr, hb⟩
  have BKxw0 := Lib.hid (blk_below BKxw0.out hb)
  have BKxg0 := Lib.hid (blk_below BKxg0.out hb)
  have RDw0 := Lib.hid (RDw0.out.below hb)
  have RDx0 := Lib.hid (RDx0.out.below hb)
  have RDg0 := Lib.hid (RDg0.out.below hb)
  have HB := Lib.hid (HB.out.trans (hb.mono HB.out.size))
  have RDt2 := Lib.hid hfr
  clear hb hfr
  clear zxw0_0 zxw0_1 zxw0_2 zxg0_0 zxg0_1 zxg0_2
  have zxw0_0 := blk_cell BKxw0.out 0
  have zxw0_1 := blk_cell BKxw0.out 1
  have zxw0_2 := blk_cell BKxw0.out 2
  simp at zxw0_0 zxw0_1 zxw0_2
  have zxg0_0 := blk_cell BKxg0.out 0
  have zxg0_1 := blk_cell BKxg0.out 1
  have zxg0_2 := blk_cell BKxg0.out 2
  simp at zxg0_0 zxg0_1 zxg0_2
  go_wp2_with fail
  refine (EQaTable.out _ _ _ RDx0.out.rd RDt2.out.rd).mono ?_
  rintro e w8 ⟨rfl, hb⟩
  have BKxw0 := Lib.hid (blk_below BKxw0.out hb)
  have BKxg0 := Lib.hid (blk_below BKxg0.out hb)
  have RDw0 := Lib.hid (RDw0.out.below hb)
  have RDx0 := Lib.hid (RDx0.out.below hb)
  have RDg0 := Lib.hid (RDg0.out.below hb)
  have RDt2 := Lib.hid (RDt2.out.below hb)
  have HB := Lib.hid (HB.out.trans (hb.mono HB.out.size))
  clear hb
  clear zxw0_0 zxw0_1 zxw0_2 zxg0_0 zxg0_1 zxg0_2
  have zxw0_0 := blk_cell BKxw0.out 0
  have zxw0_1 := blk_cell BKxw0.out 1
  have zxw0_2 := blk_cell BKxw0.out 2
  simp at zxw0_0 zxw0_1 zxw0_2
  have zxg0_0 := blk_cell BKxg0.out 0
  have zxg0_1 := blk_cell BKxg0.out 1
  have zxg0_2 := blk_cell BKxg0.out 2
  simp at zxg0_0 zxg0_1 zxg0_2
  go_wp2
  go_ret
  exact ⟨rfl, HB.out⟩

end Go.Proofs.Ytgogfloppnhceaa
