/- What the laws' own helpers do with Core,CoreAlt,[]CoreAlt,[]Core; no condition. -/
import Derived.Test.YthidbmjdphfddaaHs
import Derived.Test.YthidbmjdphfddaaProg
import Derived.Test.YthidbmjdphfddaaFamBig
import Derived.Test.YthidbmjdphfddaaFamStr
namespace Go.Proofs.Ythidbmjdphfddaa
open Go.RowKit
set_option linter.unusedVariables false
set_option linter.unusedSimpArgs false

theorem openCore {iKind : Int} {sName : ByteArray} {bBigMinus : Bool} {xBigLimbs : List D} {xNames : List D} {xKids : List D} {xAlts : List D} {w : World} {cs : List Value} (h : Rd w (.struct [.int .i64 iKind, .str sName, .struct [.bool bBigMinus, .slice 1 xBigLimbs], .slice 1 xNames, .slice 7 xKids, .slice 9 xAlts]) cs) : ∃ (ABigLimbs : Option Addr) (cBigLimbs : Nat) (ANames : Option Addr) (cNames : Nat) (AKids : Option Addr) (cKids : Nat) (AAlts : Option Addr) (cAlts : Nat), cs = [.int .i64 iKind, .string sName, .bool bBigMinus, .slice ABigLimbs xBigLimbs.length cBigLimbs, .slice ANames xNames.length cNames, .slice AKids xKids.length cKids, .slice AAlts xAlts.length cAlts] ∧ Rd w (D.struct [.bool bBigMinus, .slice 1 xBigLimbs]) [.bool bBigMinus, .slice ABigLimbs xBigLimbs.length cBigLimbs] ∧ Rd w (D.slice 1 xNames) [.slice ANames xNames.length cNames] ∧ Rd w (D.slice 7 xKids) [.slice AKids xKids.length cKids] ∧ Rd w (D.slice 9 xAlts) [.slice AAlts xAlts.length cAlts] := by
  rw [rd_struct] at h
  simp only [rdF_cons, rdF_nil, rd_int, rd_bool, rd_str] at h
  obtain ⟨e0, r0, rfl, rfl, e1, r1, rfl, rfl, e2, r2, rfl, hBig, e3, r3, rfl, hNames, e4, r4, rfl, hKids, e5, r5, rfl, hAlts, rfl⟩ := h
  have kBig := hBig
  obtain ⟨ABigLimbs, cBigLimbs, rfl, _⟩ := openBig hBig
  have kNames := hNames
  obtain ⟨ANames, cNames, rfl, _⟩ := rd_slice hNames
  have kKids := hKids
  obtain ⟨AKids, cKids, rfl, _⟩ := rd_slice hKids
  have kAlts := hAlts
  obtain ⟨AAlts, cAlts, rfl, _⟩ := rd_slice hAlts
  exact ⟨ABigLimbs, cBigLimbs, ANames, cNames, AKids, cKids, AAlts, cAlts, by simp, kBig, kNames, kKids, kAlts⟩

set_option maxRecDepth 100000 in
set_option maxHeartbeats 2000000 in
theorem szCore_of (iKind : Int) (sName : ByteArray) (bBigMinus : Bool) (xBigLimbs : List D) (xNames : List D) (xKids : List D) (xAlts : List D) (hsName : sName.size ≤ 140737488351232) (ihBig : SzA Try.prog 53 (D.struct [.bool bBigMinus, .slice 1 xBigLimbs])) (ihNames : SzO Try.prog 54 (D.slice 1 xNames)) (ihKids : SzO Try.prog 55 (D.slice 7 xKids)) (ihAlts : SzO Try.prog 56 (D.slice 9 xAlts)) : SzA Try.prog 10 (.struct [.int .i64 iKind, .str sName, .struct [.bool bBigMinus, .slice 1 xBigLimbs], .slice 1 xNames, .slice 7 xKids, .slice 9 xAlts]) := by
  intro w cs left h h0 h1
  obtain ⟨ABigLimbs, cBigLimbs, ANames, cNames, AKids, cKids, AAlts, cAlts, rfl, rdBig, rdNames, rdKids, rdAlts⟩ := openCore h
  have TOT := Lib.hid (show D.bulk (.struct [.int .i64 iKind, .str sName, .struct [.bool bBigMinus, .slice 1 xBigLimbs], .slice 1 xNames, .slice 7 xKids, .slice 9 xAlts]) = sName.size + (D.struct [.bool bBigMinus, .slice 1 xBigLimbs]).bulk + (D.slice 1 xNames).bulk + (D.slice 7 xKids).bulk + (D.slice 9 xAlts).bulk by simp only [D.bulk, D.bulks] <;> omega)
  have HB0 := Lib.hid ((Below.refl w.heap.size w).alloc (Nat.le_refl _) (.cells #[.int .i64 iKind, .string sName, .bool bBigMinus, .slice ABigLimbs xBigLimbs.length cBigLimbs, .slice ANames xNames.length cNames, .slice AKids xKids.length cKids, .slice AAlts xAlts.length cAlts] 29))
  have BK0 := Lib.hid (blk_new w (.cells #[.int .i64 iKind, .string sName, .bool bBigMinus, .slice ABigLimbs xBigLimbs.length cBigLimbs, .slice ANames xNames.length cNames, .slice AKids xKids.length cKids, .slice AAlts xAlts.length cAlts] 29))
  have RDBig := Lib.hid rdBig
  have IHBig := Lib.hid ihBig
  have RDNames := Lib.hid rdNames
  have IHNames := Lib.hid ihNames
  have RDKids := Lib.hid rdKids
  have IHKids := Lib.hid ihKids
  have RDAlts := Lib.hid rdAlts
  have IHAlts := Lib.hid ihAlts
  clear h rdBig ihBig rdNames ihNames rdKids ihKids rdAlts ihAlts
  go_enter Try.func10, Try.ntmps10
  go_wp2_with fail
  · go_ret
    exact ⟨ret_int (szR_neg' (by rw [TOT.out]; omega)).symm, HB0.out⟩
  · skip
    have hlBig : 0 ≤ left - (sName.size : Int) := by omega
    refine (IHBig.out _ _ (left - (sName.size : Int)) (RDBig.out.below HB0.out) hlBig (by omega)).mono ?_
    rintro e w1 ⟨rfl, hb⟩
    have HB1 := Lib.hid (HB0.out.trans (hb.mono HB0.out.size))
    have BK1 := Lib.hid (blk_below BK0.out hb)
    clear hb
    have z1_0 := blk_cell BK1.out 0
    have z1_1 := blk_cell BK1.out 1
    have z1_2 := blk_cell BK1.out 2
    have z1_3 := blk_cell BK1.out 3
    have z1_4 := blk_cell BK1.out 4
    have z1_5 := blk_cell BK1.out 5
    have z1_6 := blk_cell BK1.out 6
    simp at z1_0 z1_1 z1_2 z1_3 z1_4 z1_5 z1_6
    by_cases hzBig : left - (sName.size : Int) < ((D.struct [.bool bBigMinus, .slice 1 xBigLimbs]).bulk : Int)
    · rw [szR_neg' hzBig]
      go_wp2
      go_ret
      exact ⟨ret_int (szR_neg' (by rw [TOT.out]; omega)).symm, HB1.out⟩
    · rw [szR_fit (by omega)]
      go_wp2_with fail
      have hlNames : 0 ≤ left - (sName.size : Int) - ((D.struct [.bool bBigMinus, .slice 1 xBigLimbs]).bulk : Int) := by omega
      refine (IHNames.out _ _ (left - (sName.size : Int) - ((D.struct [.bool bBigMinus, .slice 1 xBigLimbs]).bulk : Int)) (RDNames.out.below HB1.out) hlNames (by omega)).mono ?_
      rintro e w2 ⟨rfl, hb⟩
      have HB2 := Lib.hid (HB1.out.trans (hb.mono HB1.out.size))
      have BK2 := Lib.hid (blk_below BK1.out hb)
      clear hb
      have z2_0 := blk_cell BK2.out 0
      have z2_1 := blk_cell BK2.out 1
      have z2_2 := blk_cell BK2.out 2
      have z2_3 := blk_cell BK2.out 3
      have z2_4 := blk_cell BK2.out 4
      have z2_5 := blk_cell BK2.out 5
      have z2_6 := blk_cell BK2.out 6
      simp at z2_0 z2_1 z2_2 z2_3 z2_4 z2_5 z2_6
      by_cases hzNames : left - (sName.size : Int) - ((D.struct [.bool bBigMinus, .slice 1 xBigLimbs]).bulk : Int) < ((D.slice 1 xNames).bulk : Int)
      · rw [szR_neg' hzNames]
        go_wp2
        go_ret
        exact ⟨ret_int (szR_neg' (by rw [TOT.out]; omega)).symm, HB2.out⟩
      · rw [szR_fit (by omega)]
        go_wp2_with fail
        have hlKids : 0 ≤ left - (sName.size : Int) - ((D.struct [.bool bBigMinus, .slice 1 xBigLimbs]).bulk : Int) - ((D.slice 1 xNames).bulk : Int) := by omega
        refine (IHKids.out _ _ (left - (sName.size : Int) - ((D.struct [.bool bBigMinus, .slice 1 xBigLimbs]).bulk : Int) - ((D.slice 1 xNames).bulk : Int)) (RDKids.out.below HB2.out) hlKids (by omega)).mono ?_
        rintro e w3 ⟨rfl, hb⟩
        have HB3 := Lib.hid (HB2.out.trans (hb.mono HB2.out.size))
        have BK3 := Lib.hid (blk_below BK2.out hb)
        clear hb
        have z3_0 := blk_cell BK3.out 0
        have z3_1 := blk_cell BK3.out 1
        have z3_2 := blk_cell BK3.out 2
        have z3_3 := blk_cell BK3.out 3
        have z3_4 := blk_cell BK3.out 4
        have z3_5 := blk_cell BK3.out 5
        have z3_6 := blk_cell BK3.out 6
        simp at z3_0 z3_1 z3_2 z3_3 z3_4 z3_5 z3_6
        by_cases hzKids : left - (sName.size : Int) - ((D.struct [.bool bBigMinus, .slice 1 xBigLimbs]).bulk : Int) - ((D.slice 1 xNames).bulk : Int) < ((D.slice 7 xKids).bulk : Int)
        · rw [szR_neg' hzKids]
          go_wp2
          go_ret
          exact ⟨ret_int (szR_neg' (by rw [TOT.out]; omega)).symm, HB3.out⟩
        · rw [szR_fit (by omega)]
          go_wp2_with fail
          have hlAlts : 0 ≤ left - (sName.size : Int) - ((D.struct [.bool bBigMinus, .slice 1 xBigLimbs]).bulk : Int) - ((D.slice 1 xNames).bulk : Int) - ((D.slice 7 xKids).bulk : Int) := by omega
          refine (IHAlts.out _ _ (left - (sName.size : Int) - ((D.struct [.bool bBigMinus, .slice 1 xBigLimbs]).bulk : Int) - ((D.slice 1 xNames).bulk : Int) - ((D.slice 7 xKids).bulk : Int)) (RDAlts.out.below HB3.out) hlAlts (by omega)).mono ?_
          rintro e w4 ⟨rfl, hb⟩
          have HB4 := Lib.hid (HB3.out.trans (hb.mono HB3.out.size))
          have BK4 := Lib.hid (blk_below BK3.out hb)
          clear hb
          have z4_0 := blk_cell BK4.out 0
          have z4_1 := blk_cell BK4.out 1
          have z4_2 := blk_cell BK4.out 2
          have z4_3 := blk_cell BK4.out 3
          have z4_4 := blk_cell BK4.out 4
          have z4_5 := blk_cell BK4.out 5
          have z4_6 := blk_cell BK4.out 6
          simp at z4_0 z4_1 z4_2 z4_3 z4_4 z4_5 z4_6
          by_cases hzAlts : left - (sName.size : Int) - ((D.struct [.bool bBigMinus, .slice 1 xBigLimbs]).bulk : Int) - ((D.slice 1 xNames).bulk : Int) - ((D.slice 7 xKids).bulk : Int) < ((D.slice 9 xAlts).bulk : Int)
          · rw [szR_neg' hzAlts]
            go_wp2
            go_ret
            exact ⟨ret_int (szR_neg' (by rw [TOT.out]; omega)).symm, HB4.out⟩
          · rw [szR_fit (by omega)]
            go_wp2_with fail
            go_ret
            exact ⟨ret_int ((szR_fit (by rw [TOT.out]; omega)).trans (by rw [TOT.out] <;> omega)).symm, HB4.out⟩

set_option maxRecDepth 100000 in
set_option maxHeartbeats 2000000 in
theorem eqCore_of (iKind : Int) (sName : ByteArray) (bBigMinus : Bool) (xBigLimbs : List D) (xNames : List D) (xKids : List D) (xAlts : List D) (ihBig : EqA Try.prog 66 (D.struct [.bool bBigMinus, .slice 1 xBigLimbs])) (ihNames : EqO Try.prog 14 (D.slice 1 xNames)) (ihKids : EqO Try.prog 67 (D.slice 7 xKids)) (ihAlts : EqO Try.prog 68 (D.slice 9 xAlts)) : EqA Try.prog 15 (.struct [.int .i64 iKind, .str sName, .struct [.bool bBigMinus, .slice 1 xBigLimbs], .slice 1 xNames, .slice 7 xKids, .slice 9 xAlts]) := by
  intro w cs cs' h h'
  obtain ⟨ABigLimbs, cBigLimbs, ANames, cNames, AKids, cKids, AAlts, cAlts, rfl, rdBig, rdNames, rdKids, rdAlts⟩ := openCore h
  obtain ⟨ABigLimbs', cBigLimbs', ANames', cNames', AKids', cKids', AAlts', cAlts', rfl, rdBig', rdNames', rdKids', rdAlts'⟩ := openCore h'
  have HB0 := Lib.hid (((Below.refl w.heap.size w).alloc (Nat.le_refl _) (.cells #[.int .i64 iKind, .string sName, .bool bBigMinus, .slice ABigLimbs xBigLimbs.length cBigLimbs, .slice ANames xNames.length cNames, .slice AKids xKids.length cKids, .slice AAlts xAlts.length cAlts] 36)).alloc (by simp) (.cells #[.int .i64 iKind, .string sName, .bool bBigMinus, .slice ABigLimbs' xBigLimbs.length cBigLimbs', .slice ANames' xNames.length cNames', .slice AKids' xKids.length cKids', .slice AAlts' xAlts.length cAlts'] 36))
  have BK0 := Lib.hid (blk_old (blk_new w (.cells #[.int .i64 iKind, .string sName, .bool bBigMinus, .slice ABigLimbs xBigLimbs.length cBigLimbs, .slice ANames xNames.length cNames, .slice AKids xKids.length cKids, .slice AAlts xAlts.length cAlts] 36)) (.cells #[.int .i64 iKind, .string sName, .bool bBigMinus, .slice ABigLimbs' xBigLimbs.length cBigLimbs', .slice ANames' xNames.length cNames', .slice AKids' xKids.length cKids', .slice AAlts' xAlts.length cAlts'] 36))
  have BJ0 := Lib.hid (blk_new (w.alloc (.cells #[.int .i64 iKind, .string sName, .bool bBigMinus, .slice ABigLimbs xBigLimbs.length cBigLimbs, .slice ANames xNames.length cNames, .slice AKids xKids.length cKids, .slice AAlts xAlts.length cAlts] 36)) (.cells #[.int .i64 iKind, .string sName, .bool bBigMinus, .slice ABigLimbs' xBigLimbs.length cBigLimbs', .slice ANames' xNames.length cNames', .slice AKids' xKids.length cKids', .slice AAlts' xAlts.length cAlts'] 36))
  have RDBig := Lib.hid rdBig
  have RDBig' := Lib.hid rdBig'
  have IHBig := Lib.hid ihBig
  have RDNames := Lib.hid rdNames
  have RDNames' := Lib.hid rdNames'
  have IHNames := Lib.hid ihNames
  have RDKids := Lib.hid rdKids
  have RDKids' := Lib.hid rdKids'
  have IHKids := Lib.hid ihKids
  have RDAlts := Lib.hid rdAlts
  have RDAlts' := Lib.hid rdAlts'
  have IHAlts := Lib.hid ihAlts
  clear h h' rdBig rdBig' ihBig rdNames rdNames' ihNames rdKids rdKids' ihKids rdAlts rdAlts' ihAlts
  go_enter Try.func15, Try.ntmps15
  go_wp2_with fail
  refine (IHBig.out _ _ _ (RDBig.out.below HB0.out) (RDBig'.out.below HB0.out)).mono ?_
  rintro e w1 ⟨rfl, hb⟩
  have HB1 := Lib.hid (HB0.out.trans (hb.mono HB0.out.size))
  have BK1 := Lib.hid (blk_below BK0.out hb)
  have BJ1 := Lib.hid (blk_below BJ0.out hb)
  clear hb
  have z1_0 := blk_cell BK1.out 0
  have z1_1 := blk_cell BK1.out 1
  have z1_2 := blk_cell BK1.out 2
  have z1_3 := blk_cell BK1.out 3
  have z1_4 := blk_cell BK1.out 4
  have z1_5 := blk_cell BK1.out 5
  have z1_6 := blk_cell BK1.out 6
  have y1_0 := blk_cell BJ1.out 0
  have y1_1 := blk_cell BJ1.out 1
  have y1_2 := blk_cell BJ1.out 2
  have y1_3 := blk_cell BJ1.out 3
  have y1_4 := blk_cell BJ1.out 4
  have y1_5 := blk_cell BJ1.out 5
  have y1_6 := blk_cell BJ1.out 6
  simp at z1_0 z1_1 z1_2 z1_3 z1_4 z1_5 z1_6 y1_0 y1_1 y1_2 y1_3 y1_4 y1_5 y1_6
  go_wp2_with fail
  refine (IHNames.out _ _ _ (RDNames.out.below HB1.out) (RDNames'.out.below HB1.out)).mono ?_
  rintro e w2 ⟨rfl, hb⟩
  have HB2 := Lib.hid (HB1.out.trans (hb.mono HB1.out.size))
  have BK2 := Lib.hid (blk_below BK1.out hb)
  have BJ2 := Lib.hid (blk_below BJ1.out hb)
  clear hb
  have z2_0 := blk_cell BK2.out 0
  have z2_1 := blk_cell BK2.out 1
  have z2_2 := blk_cell BK2.out 2
  have z2_3 := blk_cell BK2.out 3
  have z2_4 := blk_cell BK2.out 4
  have z2_5 := blk_cell BK2.out 5
  have z2_6 := blk_cell BK2.out 6
  have y2_0 := blk_cell BJ2.out 0
  have y2_1 := blk_cell BJ2.out 1
  have y2_2 := blk_cell BJ2.out 2
  have y2_3 := blk_cell BJ2.out 3
  have y2_4 := blk_cell BJ2.out 4
  have y2_5 := blk_cell BJ2.out 5
  have y2_6 := blk_cell BJ2.out 6
  simp at z2_0 z2_1 z2_2 z2_3 z2_4 z2_5 z2_6 y2_0 y2_1 y2_2 y2_3 y2_4 y2_5 y2_6
  clear z1_0 y1_0 z1_1 y1_1 z1_2 y1_2 z1_3 y1_3 z1_4 y1_4 z1_5 y1_5 z1_6 y1_6
  go_wp2_with fail
  refine (IHKids.out _ _ _ (RDKids.out.below HB2.out) (RDKids'.out.below HB2.out)).mono ?_
  rintro e w3 ⟨rfl, hb⟩
  have HB3 := Lib.hid (HB2.out.trans (hb.mono HB2.out.size))
  have BK3 := Lib.hid (blk_below BK2.out hb)
  have BJ3 := Lib.hid (blk_below BJ2.out hb)
  clear hb
  have z3_0 := blk_cell BK3.out 0
  have z3_1 := blk_cell BK3.out 1
  have z3_2 := blk_cell BK3.out 2
  have z3_3 := blk_cell BK3.out 3
  have z3_4 := blk_cell BK3.out 4
  have z3_5 := blk_cell BK3.out 5
  have z3_6 := blk_cell BK3.out 6
  have y3_0 := blk_cell BJ3.out 0
  have y3_1 := blk_cell BJ3.out 1
  have y3_2 := blk_cell BJ3.out 2
  have y3_3 := blk_cell BJ3.out 3
  have y3_4 := blk_cell BJ3.out 4
  have y3_5 := blk_cell BJ3.out 5
  have y3_6 := blk_cell BJ3.out 6
  simp at z3_0 z3_1 z3_2 z3_3 z3_4 z3_5 z3_6 y3_0 y3_1 y3_2 y3_3 y3_4 y3_5 y3_6
  clear z2_0 y2_0 z2_1 y2_1 z2_2 y2_2 z2_3 y2_3 z2_4 y2_4 z2_5 y2_5 z2_6 y2_6
  go_wp2_with fail
  refine (IHAlts.out _ _ _ (RDAlts.out.below HB3.out) (RDAlts'.out.below HB3.out)).mono ?_
  rintro e w4 ⟨rfl, hb⟩
  have HB4 := Lib.hid (HB3.out.trans (hb.mono HB3.out.size))
  have BK4 := Lib.hid (blk_below BK3.out hb)
  have BJ4 := Lib.hid (blk_below BJ3.out hb)
  clear hb
  have z4_0 := blk_cell BK4.out 0
  have z4_1 := blk_cell BK4.out 1
  have z4_2 := blk_cell BK4.out 2
  have z4_3 := blk_cell BK4.out 3
  have z4_4 := blk_cell BK4.out 4
  have z4_5 := blk_cell BK4.out 5
  have z4_6 := blk_cell BK4.out 6
  have y4_0 := blk_cell BJ4.out 0
  have y4_1 := blk_cell BJ4.out 1
  have y4_2 := blk_cell BJ4.out 2
  have y4_3 := blk_cell BJ4.out 3
  have y4_4 := blk_cell BJ4.out 4
  have y4_5 := blk_cell BJ4.out 5
  have y4_6 := blk_cell BJ4.out 6
  simp at z4_0 z4_1 z4_2 z4_3 z4_4 z4_5 z4_6 y4_0 y4_1 y4_2 y4_3 y4_4 y4_5 y4_6
  clear z3_0 y3_0 z3_1 y3_1 z3_2 y3_2 z3_3 y3_3 z3_4 y3_4 z3_5 y3_5 z3_6 y3_6
  go_wp2
  go_ret
  exact ⟨rfl, HB4.out⟩

set_option maxRecDepth 100000 in
set_option maxHeartbeats 2000000 in
theorem toCore_of (iKind : Int) (sName : ByteArray) (bBigMinus : Bool) (xBigLimbs : List D) (xNames : List D) (xKids : List D) (xAlts : List D) (ihBig : ToA Try.prog 59 (D.struct [.bool bBigMinus, .slice 1 xBigLimbs])) (ihNames : ToO Try.prog 60 (D.slice 1 xNames)) (ihKids : ToO Try.prog 61 (D.slice 7 xKids)) (ihAlts : ToO Try.prog 62 (D.slice 9 xAlts)) : ToA Try.prog 12 (.struct [.int .i64 iKind, .str sName, .struct [.bool bBigMinus, .slice 1 xBigLimbs], .slice 1 xNames, .slice 7 xKids, .slice 9 xAlts]) := by
  intro w cs h
  obtain ⟨ABigLimbs, cBigLimbs, ANames, cNames, AKids, cKids, AAlts, cAlts, rfl, rdBig, rdNames, rdKids, rdAlts⟩ := openCore h
  have RDBig := Lib.hid rdBig
  have IHBig := Lib.hid ihBig
  have RDNames := Lib.hid rdNames
  have IHNames := Lib.hid ihNames
  have RDKids := Lib.hid rdKids
  have IHKids := Lib.hid ihKids
  have RDAlts := Lib.hid rdAlts
  have IHAlts := Lib.hid ihAlts
  clear h rdBig ihBig rdNames ihNames rdKids ihKids rdAlts ihAlts
  go_enter Try.func12, Try.ntmps12
  go_wp2_with fail
  have HB0 := Lib.hid ((((Below.refl w.heap.size w).alloc (Nat.le_refl _) (.cells #[.int .i64 iKind, .string sName, .bool bBigMinus, .slice ABigLimbs xBigLimbs.length cBigLimbs, .slice ANames xNames.length cNames, .slice AKids xKids.length cKids, .slice AAlts xAlts.length cAlts] 29)).alloc (by simp) (.cells #[.int .i64 0, .string ⟨#[]⟩, .bool false, .slice none 0 0, .slice none 0 0, .slice none 0 0, .slice none 0 0] 36)).alloc (by simp; omega) (.cells #[.int .i64 iKind, .string sName, .bool false, .slice none 0 0, .slice none 0 0, .slice none 0 0, .slice none 0 0] 36))
  have HS0 := Lib.hid (show (((w.alloc (.cells #[.int .i64 iKind, .string sName, .bool bBigMinus, .slice ABigLimbs xBigLimbs.length cBigLimbs, .slice ANames xNames.length cNames, .slice AKids xKids.length cKids, .slice AAlts xAlts.length cAlts] 29)).alloc (.cells #[.int .i64 0, .string ⟨#[]⟩, .bool false, .slice none 0 0, .slice none 0 0, .slice none 0 0, .slice none 0 0] 36)).alloc (.cells #[.int .i64 iKind, .string sName, .bool false, .slice none 0 0, .slice none 0 0, .slice none 0 0, .slice none 0 0] 36)).heap.size = w.heap.size + 3 by simp)
  have BA0 := Lib.hid (blk_old (blk_old (blk_new w (.cells #[.int .i64 iKind, .string sName, .bool bBigMinus, .slice ABigLimbs xBigLimbs.length cBigLimbs, .slice ANames xNames.length cNames, .slice AKids xKids.length cKids, .slice AAlts xAlts.length cAlts] 29)) (.cells #[.int .i64 0, .string ⟨#[]⟩, .bool false, .slice none 0 0, .slice none 0 0, .slice none 0 0, .slice none 0 0] 36)) (.cells #[.int .i64 iKind, .string sName, .bool false, .slice none 0 0, .slice none 0 0, .slice none 0 0, .slice none 0 0] 36))
  have BR0 := Lib.hid (blk_old (blk_new_g (w := w.alloc (.cells #[.int .i64 iKind, .string sName, .bool bBigMinus, .slice ABigLimbs xBigLimbs.length cBigLimbs, .slice ANames xNames.length cNames, .slice AKids xKids.length cKids, .slice AAlts xAlts.length cAlts] 29)) (g := w.heap.size + 1) (o := (.cells #[.int .i64 0, .string ⟨#[]⟩, .bool false, .slice none 0 0, .slice none 0 0, .slice none 0 0, .slice none 0 0] 36)) (by simp)) (.cells #[.int .i64 iKind, .string sName, .bool false, .slice none 0 0, .slice none 0 0, .slice none 0 0, .slice none 0 0] 36))
  have BO0 := Lib.hid (blk_new_g (w := (w.alloc (.cells #[.int .i64 iKind, .string sName, .bool bBigMinus, .slice ABigLimbs xBigLimbs.length cBigLimbs, .slice ANames xNames.length cNames, .slice AKids xKids.length cKids, .slice AAlts xAlts.length cAlts] 29)).alloc (.cells #[.int .i64 0, .string ⟨#[]⟩, .bool false, .slice none 0 0, .slice none 0 0, .slice none 0 0, .slice none 0 0] 36)) (g := w.heap.size + 2) (o := (.cells #[.int .i64 iKind, .string sName, .bool false, .slice none 0 0, .slice none 0 0, .slice none 0 0, .slice none 0 0] 36)) (by simp))
  refine (IHBig.out _ _ (RDBig.out.below HB0.out)).mono ?_
  rintro e w1 ⟨vBig, rfl, hfr, hb⟩
  obtain ⟨BBigLimbs, dBigLimbs, rfl, _⟩ := openBig hfr.rd
  have hr := hfr.range
  have hsz := hb.size
  rw [HS0.out] at hr hsz
  have FRBig := Lib.hid hr
  have SY1 := Lib.hid hsz
  have SZ1 := Lib.hid (show w.heap.size + 3 ≤ w1.heap.size by omega)
  have HB1 := Lib.hid (HB0.out.trans (hb.mono HB0.out.size))
  have BA1 := Lib.hid (blk_below BA0.out hb)
  have BR1 := Lib.hid (blk_below BR0.out hb)
  have BO1 := Lib.hid (blk_below BO0.out hb)
  clear hb hfr hr hsz
  have za1_0 := blk_cell BA1.out 0
  have za1_1 := blk_cell BA1.out 1
  have za1_2 := blk_cell BA1.out 2
  have za1_3 := blk_cell BA1.out 3
  have za1_4 := blk_cell BA1.out 4
  have za1_5 := blk_cell BA1.out 5
  have za1_6 := blk_cell BA1.out 6
  have zo1_0 := blk_cell BO1.out 0
  have zo1_f0 := blk_frozen BO1.out 0
  have zo1_1 := blk_cell BO1.out 1
  have zo1_f1 := blk_frozen BO1.out 1
  have zo1_2 := blk_cell BO1.out 2
  have zo1_f2 := blk_frozen BO1.out 2
  have zo1_3 := blk_cell BO1.out 3
  have zo1_f3 := blk_frozen BO1.out 3
  have zo1_4 := blk_cell BO1.out 4
  have zo1_f4 := blk_frozen BO1.out 4
  have zo1_5 := blk_cell BO1.out 5
  have zo1_f5 := blk_frozen BO1.out 5
  have zo1_6 := blk_cell BO1.out 6
  have zo1_f6 := blk_frozen BO1.out 6
  simp at za1_0 za1_1 za1_2 za1_3 za1_4 za1_5 za1_6 zo1_0 zo1_f0 zo1_1 zo1_f1 zo1_2 zo1_f2 zo1_3 zo1_f3 zo1_4 zo1_f4 zo1_5 zo1_f5 zo1_6 zo1_f6
  have HB1 := Lib.hid ((HB1.out.setCell (p := ⟨w.heap.size + 2, 2, none⟩) (by simp) (.bool bBigMinus)).setCell (p := ⟨w.heap.size + 2, 3, none⟩) (by simp) (.slice BBigLimbs xBigLimbs.length dBigLimbs))
  have BA1 := Lib.hid (blk_far (blk_far BA1.out (p := ⟨w.heap.size + 2, 2, none⟩) (by simp) (.bool bBigMinus)) (p := ⟨w.heap.size + 2, 3, none⟩) (by simp) (.slice BBigLimbs xBigLimbs.length dBigLimbs))
  have BR1 := Lib.hid (blk_far (blk_far BR1.out (p := ⟨w.heap.size + 2, 2, none⟩) (by simp) (.bool bBigMinus)) (p := ⟨w.heap.size + 2, 3, none⟩) (by simp) (.slice BBigLimbs xBigLimbs.length dBigLimbs))
  have BO1 := Lib.hid ((blk_set (blk_set BO1.out 2 (.bool bBigMinus)) 3 (.slice BBigLimbs xBigLimbs.length dBigLimbs)).trans (show _ = some (Obj.cells #[.int .i64 iKind, .string sName, .bool bBigMinus, .slice BBigLimbs xBigLimbs.length dBigLimbs, .slice none 0 0, .slice none 0 0, .slice none 0 0] 36 (0, 0)) from rfl))
  have FRBig := Lib.hid ((FRBig.out.set (p := ⟨w.heap.size + 2, 2, none⟩) (by simp) (.bool bBigMinus)).set (p := ⟨w.heap.size + 2, 3, none⟩) (by simp) (.slice BBigLimbs xBigLimbs.length dBigLimbs))
  go_wp2_with fail
  refine (IHNames.out _ _ (RDNames.out.below HB1.out)).mono ?_
  rintro e w2 ⟨vNames, rfl, hfr, hb⟩
  obtain ⟨BNames, dNames, rfl, _, _, _⟩ := hfr.slice
  have hr := hfr.range
  have hsz := hb.size
  simp only [sz_setCell] at hr hsz
  have FRNames := Lib.hid hr
  have SY2 := Lib.hid hsz
  have SZ2 := Lib.hid (show w.heap.size + 3 ≤ w2.heap.size by have := SZ1.out; omega)
  have FRBig := Lib.hid (FRBig.out.below hb)
  have HB2 := Lib.hid (HB1.out.trans (hb.mono HB1.out.size))
  have BA2 := Lib.hid (blk_below BA1.out hb)
  have BR2 := Lib.hid (blk_below BR1.out hb)
  have BO2 := Lib.hid (blk_below BO1.out hb)
  clear hb hfr hr hsz
  have za2_0 := blk_cell BA2.out 0
  have za2_1 := blk_cell BA2.out 1
  have za2_2 := blk_cell BA2.out 2
  have za2_3 := blk_cell BA2.out 3
  have za2_4 := blk_cell BA2.out 4
  have za2_5 := blk_cell BA2.out 5
  have za2_6 := blk_cell BA2.out 6
  have zo2_0 := blk_cell BO2.out 0
  have zo2_f0 := blk_frozen BO2.out 0
  have zo2_1 := blk_cell BO2.out 1
  have zo2_f1 := blk_frozen BO2.out 1
  have zo2_2 := blk_cell BO2.out 2
  have zo2_f2 := blk_frozen BO2.out 2
  have zo2_3 := blk_cell BO2.out 3
  have zo2_f3 := blk_frozen BO2.out 3
  have zo2_4 := blk_cell BO2.out 4
  have zo2_f4 := blk_frozen BO2.out 4
  have zo2_5 := blk_cell BO2.out 5
  have zo2_f5 := blk_frozen BO2.out 5
  have zo2_6 := blk_cell BO2.out 6
  have zo2_f6 := blk_frozen BO2.out 6
  simp at za2_0 za2_1 za2_2 za2_3 za2_4 za2_5 za2_6 zo2_0 zo2_f0 zo2_1 zo2_f1 zo2_2 zo2_f2 zo2_3 zo2_f3 zo2_4 zo2_f4 zo2_5 zo2_f5 zo2_6 zo2_f6
  clear za1_0 zo1_0 zo1_f0 za1_1 zo1_1 zo1_f1 za1_2 zo1_2 zo1_f2 za1_3 zo1_3 zo1_f3 za1_4 zo1_4 zo1_f4 za1_5 zo1_5 zo1_f5 za1_6 zo1_6 zo1_f6
  have HB2 := Lib.hid (HB2.out.setCell (p := ⟨w.heap.size + 2, 4, none⟩) (by simp) (.slice BNames xNames.length dNames))
  have BA2 := Lib.hid (blk_far BA2.out (p := ⟨w.heap.size + 2, 4, none⟩) (by simp) (.slice BNames xNames.length dNames))
  have BR2 := Lib.hid (blk_far BR2.out (p := ⟨w.heap.size + 2, 4, none⟩) (by simp) (.slice BNames xNames.length dNames))
  have BO2 := Lib.hid ((blk_set BO2.out 4 (.slice BNames xNames.length dNames)).trans (show _ = some (Obj.cells #[.int .i64 iKind, .string sName, .bool bBigMinus, .slice BBigLimbs xBigLimbs.length dBigLimbs, .slice BNames xNames.length dNames, .slice none 0 0, .slice none 0 0] 36 (0, 0)) from rfl))
  have FRBig := Lib.hid (FRBig.out.set (p := ⟨w.heap.size + 2, 4, none⟩) (by simp) (.slice BNames xNames.length dNames))
  have FRNames := Lib.hid (FRNames.out.set (p := ⟨w.heap.size + 2, 4, none⟩) (by have := SZ1.out; simp; omega) (.slice BNames xNames.length dNames))
  go_wp2_with fail
  refine (IHKids.out _ _ (RDKids.out.below HB2.out)).mono ?_
  rintro e w3 ⟨vKids, rfl, hfr, hb⟩
  obtain ⟨BKids, dKids, rfl, _, _, _⟩ := hfr.slice
  have hr := hfr.range
  have hsz := hb.size
  simp only [sz_setCell] at hr hsz
  have FRKids := Lib.hid hr
  have SY3 := Lib.hid hsz
  have SZ3 := Lib.hid (show w.heap.size + 3 ≤ w3.heap.size by have := SZ2.out; omega)
  have FRBig := Lib.hid (FRBig.out.below hb)
  have FRNames := Lib.hid (FRNames.out.below hb)
  have HB3 := Lib.hid (HB2.out.trans (hb.mono HB2.out.size))
  have BA3 := Lib.hid (blk_below BA2.out hb)
  have BR3 := Lib.hid (blk_below BR2.out hb)
  have BO3 := Lib.hid (blk_below BO2.out hb)
  clear hb hfr hr hsz
  have za3_0 := blk_cell BA3.out 0
  have za3_1 := blk_cell BA3.out 1
  have za3_2 := blk_cell BA3.out 2
  have za3_3 := blk_cell BA3.out 3
  have za3_4 := blk_cell BA3.out 4
  have za3_5 := blk_cell BA3.out 5
  have za3_6 := blk_cell BA3.out 6
  have zo3_0 := blk_cell BO3.out 0
  have zo3_f0 := blk_frozen BO3.out 0
  have zo3_1 := blk_cell BO3.out 1
  have zo3_f1 := blk_frozen BO3.out 1
  have zo3_2 := blk_cell BO3.out 2
  have zo3_f2 := blk_frozen BO3.out 2
  have zo3_3 := blk_cell BO3.out 3
  have zo3_f3 := blk_frozen BO3.out 3
  have zo3_4 := blk_cell BO3.out 4
  have zo3_f4 := blk_frozen BO3.out 4
  have zo3_5 := blk_cell BO3.out 5
  have zo3_f5 := blk_frozen BO3.out 5
  have zo3_6 := blk_cell BO3.out 6
  have zo3_f6 := blk_frozen BO3.out 6
  simp at za3_0 za3_1 za3_2 za3_3 za3_4 za3_5 za3_6 zo3_0 zo3_f0 zo3_1 zo3_f1 zo3_2 zo3_f2 zo3_3 zo3_f3 zo3_4 zo3_f4 zo3_5 zo3_f5 zo3_6 zo3_f6
  clear za2_0 zo2_0 zo2_f0 za2_1 zo2_1 zo2_f1 za2_2 zo2_2 zo2_f2 za2_3 zo2_3 zo2_f3 za2_4 zo2_4 zo2_f4 za2_5 zo2_5 zo2_f5 za2_6 zo2_6 zo2_f6
  have HB3 := Lib.hid (HB3.out.setCell (p := ⟨w.heap.size + 2, 5, none⟩) (by simp) (.slice BKids xKids.length dKids))
  have BA3 := Lib.hid (blk_far BA3.out (p := ⟨w.heap.size + 2, 5, none⟩) (by simp) (.slice BKids xKids.length dKids))
  have BR3 := Lib.hid (blk_far BR3.out (p := ⟨w.heap.size + 2, 5, none⟩) (by simp) (.slice BKids xKids.length dKids))
  have BO3 := Lib.hid ((blk_set BO3.out 5 (.slice BKids xKids.length dKids)).trans (show _ = some (Obj.cells #[.int .i64 iKind, .string sName, .bool bBigMinus, .slice BBigLimbs xBigLimbs.length dBigLimbs, .slice BNames xNames.length dNames, .slice BKids xKids.length dKids, .slice none 0 0] 36 (0, 0)) from rfl))
  have FRBig := Lib.hid (FRBig.out.set (p := ⟨w.heap.size + 2, 5, none⟩) (by simp) (.slice BKids xKids.length dKids))
  have FRNames := Lib.hid (FRNames.out.set (p := ⟨w.heap.size + 2, 5, none⟩) (by have := SZ1.out; simp; omega) (.slice BKids xKids.length dKids))
  have FRKids := Lib.hid (FRKids.out.set (p := ⟨w.heap.size + 2, 5, none⟩) (by have := SZ2.out; simp; omega) (.slice BKids xKids.length dKids))
  go_wp2_with fail
  refine (IHAlts.out _ _ (RDAlts.out.below HB3.out)).mono ?_
  rintro e w4 ⟨vAlts, rfl, hfr, hb⟩
  obtain ⟨BAlts, dAlts, rfl, _, _, _⟩ := hfr.slice
  have hr := hfr.range
  have hsz := hb.size
  simp only [sz_setCell] at hr hsz
  have FRAlts := Lib.hid hr
  have SY4 := Lib.hid hsz
  have SZ4 := Lib.hid (show w.heap.size + 3 ≤ w4.heap.size by have := SZ3.out; omega)
  have FRBig := Lib.hid (FRBig.out.below hb)
  have FRNames := Lib.hid (FRNames.out.below hb)
  have FRKids := Lib.hid (FRKids.out.below hb)
  have HB4 := Lib.hid (HB3.out.trans (hb.mono HB3.out.size))
  have BA4 := Lib.hid (blk_below BA3.out hb)
  have BR4 := Lib.hid (blk_below BR3.out hb)
  have BO4 := Lib.hid (blk_below BO3.out hb)
  clear hb hfr hr hsz
  have za4_0 := blk_cell BA4.out 0
  have za4_1 := blk_cell BA4.out 1
  have za4_2 := blk_cell BA4.out 2
  have za4_3 := blk_cell BA4.out 3
  have za4_4 := blk_cell BA4.out 4
  have za4_5 := blk_cell BA4.out 5
  have za4_6 := blk_cell BA4.out 6
  have zo4_0 := blk_cell BO4.out 0
  have zo4_f0 := blk_frozen BO4.out 0
  have zo4_1 := blk_cell BO4.out 1
  have zo4_f1 := blk_frozen BO4.out 1
  have zo4_2 := blk_cell BO4.out 2
  have zo4_f2 := blk_frozen BO4.out 2
  have zo4_3 := blk_cell BO4.out 3
  have zo4_f3 := blk_frozen BO4.out 3
  have zo4_4 := blk_cell BO4.out 4
  have zo4_f4 := blk_frozen BO4.out 4
  have zo4_5 := blk_cell BO4.out 5
  have zo4_f5 := blk_frozen BO4.out 5
  have zo4_6 := blk_cell BO4.out 6
  have zo4_f6 := blk_frozen BO4.out 6
  have zr4_0 := blk_cell BR4.out 0
  have zr4_f0 := blk_frozen BR4.out 0
  have zr4_1 := blk_cell BR4.out 1
  have zr4_f1 := blk_frozen BR4.out 1
  have zr4_2 := blk_cell BR4.out 2
  have zr4_f2 := blk_frozen BR4.out 2
  have zr4_3 := blk_cell BR4.out 3
  have zr4_f3 := blk_frozen BR4.out 3
  have zr4_4 := blk_cell BR4.out 4
  have zr4_f4 := blk_frozen BR4.out 4
  have zr4_5 := blk_cell BR4.out 5
  have zr4_f5 := blk_frozen BR4.out 5
  have zr4_6 := blk_cell BR4.out 6
  have zr4_f6 := blk_frozen BR4.out 6
  simp at za4_0 za4_1 za4_2 za4_3 za4_4 za4_5 za4_6 zo4_0 zo4_f0 zo4_1 zo4_f1 zo4_2 zo4_f2 zo4_3 zo4_f3 zo4_4 zo4_f4 zo4_5 zo4_f5 zo4_6 zo4_f6 zr4_0 zr4_f0 zr4_1 zr4_f1 zr4_2 zr4_f2 zr4_3 zr4_f3 zr4_4 zr4_f4 zr4_5 zr4_f5 zr4_6 zr4_f6
  clear za3_0 zo3_0 zo3_f0 za3_1 zo3_1 zo3_f1 za3_2 zo3_2 zo3_f2 za3_3 zo3_3 zo3_f3 za3_4 zo3_4 zo3_f4 za3_5 zo3_5 zo3_f5 za3_6 zo3_6 zo3_f6
  have HB4 := Lib.hid (HB4.out.setCell (p := ⟨w.heap.size + 2, 6, none⟩) (by simp) (.slice BAlts xAlts.length dAlts))
  have BA4 := Lib.hid (blk_far BA4.out (p := ⟨w.heap.size + 2, 6, none⟩) (by simp) (.slice BAlts xAlts.length dAlts))
  have BR4 := Lib.hid (blk_far BR4.out (p := ⟨w.heap.size + 2, 6, none⟩) (by simp) (.slice BAlts xAlts.length dAlts))
  have BO4 := Lib.hid ((blk_set BO4.out 6 (.slice BAlts xAlts.length dAlts)).trans (show _ = some (Obj.cells #[.int .i64 iKind, .string sName, .bool bBigMinus, .slice BBigLimbs xBigLimbs.length dBigLimbs, .slice BNames xNames.length dNames, .slice BKids xKids.length dKids, .slice BAlts xAlts.length dAlts] 36 (0, 0)) from rfl))
  have FRBig := Lib.hid (FRBig.out.set (p := ⟨w.heap.size + 2, 6, none⟩) (by simp) (.slice BAlts xAlts.length dAlts))
  have FRNames := Lib.hid (FRNames.out.set (p := ⟨w.heap.size + 2, 6, none⟩) (by have := SZ1.out; simp; omega) (.slice BAlts xAlts.length dAlts))
  have FRKids := Lib.hid (FRKids.out.set (p := ⟨w.heap.size + 2, 6, none⟩) (by have := SZ2.out; simp; omega) (.slice BAlts xAlts.length dAlts))
  have FRAlts := Lib.hid (FRAlts.out.set (p := ⟨w.heap.size + 2, 6, none⟩) (by have := SZ3.out; simp; omega) (.slice BAlts xAlts.length dAlts))
  go_wp2
  have HB4 := Lib.hid (((((((HB4.out.setCell (p := ⟨w.heap.size + 1, 0, none⟩) (by simp) (.int .i64 iKind)).setCell (p := ⟨w.heap.size + 1, 1, none⟩) (by simp) (.string sName)).setCell (p := ⟨w.heap.size + 1, 2, none⟩) (by simp) (.bool bBigMinus)).setCell (p := ⟨w.heap.size + 1, 3, none⟩) (by simp) (.slice BBigLimbs xBigLimbs.length dBigLimbs)).setCell (p := ⟨w.heap.size + 1, 4, none⟩) (by simp) (.slice BNames xNames.length dNames)).setCell (p := ⟨w.heap.size + 1, 5, none⟩) (by simp) (.slice BKids xKids.length dKids)).setCell (p := ⟨w.heap.size + 1, 6, none⟩) (by simp) (.slice BAlts xAlts.length dAlts))
  have FRBig := Lib.hid (((((((FRBig.out.set (p := ⟨w.heap.size + 1, 0, none⟩) (by simp) (.int .i64 iKind)).set (p := ⟨w.heap.size + 1, 1, none⟩) (by simp) (.string sName)).set (p := ⟨w.heap.size + 1, 2, none⟩) (by simp) (.bool bBigMinus)).set (p := ⟨w.heap.size + 1, 3, none⟩) (by simp) (.slice BBigLimbs xBigLimbs.length dBigLimbs)).set (p := ⟨w.heap.size + 1, 4, none⟩) (by simp) (.slice BNames xNames.length dNames)).set (p := ⟨w.heap.size + 1, 5, none⟩) (by simp) (.slice BKids xKids.length dKids)).set (p := ⟨w.heap.size + 1, 6, none⟩) (by simp) (.slice BAlts xAlts.length dAlts))
  have FRNames := Lib.hid (((((((FRNames.out.set (p := ⟨w.heap.size + 1, 0, none⟩) (by have := SZ1.out; simp; omega) (.int .i64 iKind)).set (p := ⟨w.heap.size + 1, 1, none⟩) (by have := SZ1.out; simp; omega) (.string sName)).set (p := ⟨w.heap.size + 1, 2, none⟩) (by have := SZ1.out; simp; omega) (.bool bBigMinus)).set (p := ⟨w.heap.size + 1, 3, none⟩) (by have := SZ1.out; simp; omega) (.slice BBigLimbs xBigLimbs.length dBigLimbs)).set (p := ⟨w.heap.size + 1, 4, none⟩) (by have := SZ1.out; simp; omega) (.slice BNames xNames.length dNames)).set (p := ⟨w.heap.size + 1, 5, none⟩) (by have := SZ1.out; simp; omega) (.slice BKids xKids.length dKids)).set (p := ⟨w.heap.size + 1, 6, none⟩) (by have := SZ1.out; simp; omega) (.slice BAlts xAlts.length dAlts))
  have FRKids := Lib.hid (((((((FRKids.out.set (p := ⟨w.heap.size + 1, 0, none⟩) (by have := SZ2.out; simp; omega) (.int .i64 iKind)).set (p := ⟨w.heap.size + 1, 1, none⟩) (by have := SZ2.out; simp; omega) (.string sName)).set (p := ⟨w.heap.size + 1, 2, none⟩) (by have := SZ2.out; simp; omega) (.bool bBigMinus)).set (p := ⟨w.heap.size + 1, 3, none⟩) (by have := SZ2.out; simp; omega) (.slice BBigLimbs xBigLimbs.length dBigLimbs)).set (p := ⟨w.heap.size + 1, 4, none⟩) (by have := SZ2.out; simp; omega) (.slice BNames xNames.length dNames)).set (p := ⟨w.heap.size + 1, 5, none⟩) (by have := SZ2.out; simp; omega) (.slice BKids xKids.length dKids)).set (p := ⟨w.heap.size + 1, 6, none⟩) (by have := SZ2.out; simp; omega) (.slice BAlts xAlts.length dAlts))
  have FRAlts := Lib.hid (((((((FRAlts.out.set (p := ⟨w.heap.size + 1, 0, none⟩) (by have := SZ3.out; simp; omega) (.int .i64 iKind)).set (p := ⟨w.heap.size + 1, 1, none⟩) (by have := SZ3.out; simp; omega) (.string sName)).set (p := ⟨w.heap.size + 1, 2, none⟩) (by have := SZ3.out; simp; omega) (.bool bBigMinus)).set (p := ⟨w.heap.size + 1, 3, none⟩) (by have := SZ3.out; simp; omega) (.slice BBigLimbs xBigLimbs.length dBigLimbs)).set (p := ⟨w.heap.size + 1, 4, none⟩) (by have := SZ3.out; simp; omega) (.slice BNames xNames.length dNames)).set (p := ⟨w.heap.size + 1, 5, none⟩) (by have := SZ3.out; simp; omega) (.slice BKids xKids.length dKids)).set (p := ⟨w.heap.size + 1, 6, none⟩) (by have := SZ3.out; simp; omega) (.slice BAlts xAlts.length dAlts))
  refine bodyPost_ret (v := .agg #[.int .i64 iKind, .string sName, .bool bBigMinus, .slice BBigLimbs xBigLimbs.length dBigLimbs, .slice BNames xNames.length dNames, .slice BKids xKids.length dKids, .slice BAlts xAlts.length dAlts]) (by simp [results, Try.results12, go_sem, zr4_0, zr4_1, zr4_2, zr4_3, zr4_4, zr4_5, zr4_6]) rfl ⟨[.int .i64 iKind, .string sName, .bool bBigMinus, .slice BBigLimbs xBigLimbs.length dBigLimbs, .slice BNames xNames.length dNames, .slice BKids xKids.length dKids, .slice BAlts xAlts.length dAlts], rfl, ?_, HB4.out⟩
  rw [fr_struct]
  have sy1 := SY1.out
  have sy2 := SY2.out
  have sy3 := SY3.out
  have sy4 := SY4.out
  exact FrFR.fr (B := w.heap.size + 3) (frFR_int (frFR_str (frFR_cons (B2 := w1.heap.size) (C := w4.heap.size) FRBig.out (frFR_cons (B2 := w2.heap.size) (C := w4.heap.size) FRNames.out (frFR_cons (B2 := w3.heap.size) (C := w4.heap.size) FRKids.out (frFR_cons (B2 := w4.heap.size) (C := w4.heap.size) FRAlts.out (frFR_nil w4.heap.size w4.heap.size _) (Nat.le_refl _) (by omega) (by omega)) (Nat.le_refl _) (by omega) (by omega)) (Nat.le_refl _) (by omega) (by omega)) (Nat.le_refl _) (by omega) (by omega)))) (by omega)

theorem openCoreAlt {sCon : ByteArray} {xNames : List D} {iBodyKind : Int} {sBodyName : ByteArray} {bBodyBigMinus : Bool} {xBodyBigLimbs : List D} {xBodyNames : List D} {xBodyKids : List D} {xBodyAlts : List D} {w : World} {cs : List Value} (h : Rd w (.struct [.str sCon, .slice 1 xNames, .struct [.int .i64 iBodyKind, .str sBodyName, .struct [.bool bBodyBigMinus, .slice 1 xBodyBigLimbs], .slice 1 xBodyNames, .slice 7 xBodyKids, .slice 9 xBodyAlts]]) cs) : ∃ (ANames : Option Addr) (cNames : Nat) (ABodyBigLimbs : Option Addr) (cBodyBigLimbs : Nat) (ABodyNames : Option Addr) (cBodyNames : Nat) (ABodyKids : Option Addr) (cBodyKids : Nat) (ABodyAlts : Option Addr) (cBodyAlts : Nat), cs = [.string sCon, .slice ANames xNames.length cNames, .int .i64 iBodyKind, .string sBodyName, .bool bBodyBigMinus, .slice ABodyBigLimbs xBodyBigLimbs.length cBodyBigLimbs, .slice ABodyNames xBodyNames.length cBodyNames, .slice ABodyKids xBodyKids.length cBodyKids, .slice ABodyAlts xBodyAlts.length cBodyAlts] ∧ Rd w (D.slice 1 xNames) [.slice ANames xNames.length cNames] ∧ Rd w (D.struct [.int .i64 iBodyKind, .str sBodyName, .struct [.bool bBodyBigMinus, .slice 1 xBodyBigLimbs], .slice 1 xBodyNames, .slice 7 xBodyKids, .slice 9 xBodyAlts]) [.int .i64 iBodyKind, .string sBodyName, .bool bBodyBigMinus, .slice ABodyBigLimbs xBodyBigLimbs.length cBodyBigLimbs, .slice ABodyNames xBodyNames.length cBodyNames, .slice ABodyKids xBodyKids.length cBodyKids, .slice ABodyAlts xBodyAlts.length cBodyAlts] := by
  rw [rd_struct] at h
  simp only [rdF_cons, rdF_nil, rd_int, rd_bool, rd_str] at h
  obtain ⟨e0, r0, rfl, rfl, e1, r1, rfl, hNames, e2, r2, rfl, hBody, rfl⟩ := h
  have kNames := hNames
  obtain ⟨ANames, cNames, rfl, _⟩ := rd_slice hNames
  have kBody := hBody
  obtain ⟨ABodyBigLimbs, cBodyBigLimbs, ABodyNames, cBodyNames, ABodyKids, cBodyKids, ABodyAlts, cBodyAlts, rfl, _, _, _, _⟩ := openCore hBody
  exact ⟨ANames, cNames, ABodyBigLimbs, cBodyBigLimbs, ABodyNames, cBodyNames, ABodyKids, cBodyKids, ABodyAlts, cBodyAlts, by simp, kNames, kBody⟩

set_option maxRecDepth 100000 in
set_option maxHeartbeats 2000000 in
theorem szCoreAlt_of (sCon : ByteArray) (xNames : List D) (iBodyKind : Int) (sBodyName : ByteArray) (bBodyBigMinus : Bool) (xBodyBigLimbs : List D) (xBodyNames : List D) (xBodyKids : List D) (xBodyAlts : List D) (hsCon : sCon.size ≤ 140737488351232) (ihNames : SzO Try.prog 54 (D.slice 1 xNames)) (ihBody : SzA Try.prog 10 (D.struct [.int .i64 iBodyKind, .str sBodyName, .struct [.bool bBodyBigMinus, .slice 1 xBodyBigLimbs], .slice 1 xBodyNames, .slice 7 xBodyKids, .slice 9 xBodyAlts])) : SzA Try.prog 115 (.struct [.str sCon, .slice 1 xNames, .struct [.int .i64 iBodyKind, .str sBodyName, .struct [.bool bBodyBigMinus, .slice 1 xBodyBigLimbs], .slice 1 xBodyNames, .slice 7 xBodyKids, .slice 9 xBodyAlts]]) := by
  intro w cs left h h0 h1
  obtain ⟨ANames, cNames, ABodyBigLimbs, cBodyBigLimbs, ABodyNames, cBodyNames, ABodyKids, cBodyKids, ABodyAlts, cBodyAlts, rfl, rdNames, rdBody⟩ := openCoreAlt h
  have TOT := Lib.hid (show D.bulk (.struct [.str sCon, .slice 1 xNames, .struct [.int .i64 iBodyKind, .str sBodyName, .struct [.bool bBodyBigMinus, .slice 1 xBodyBigLimbs], .slice 1 xBodyNames, .slice 7 xBodyKids, .slice 9 xBodyAlts]]) = sCon.size + (D.slice 1 xNames).bulk + (D.struct [.int .i64 iBodyKind, .str sBodyName, .struct [.bool bBodyBigMinus, .slice 1 xBodyBigLimbs], .slice 1 xBodyNames, .slice 7 xBodyKids, .slice 9 xBodyAlts]).bulk by simp only [D.bulk, D.bulks] <;> omega)
  have HB0 := Lib.hid ((Below.refl w.heap.size w).alloc (Nat.le_refl _) (.cells #[.string sCon, .slice ANames xNames.length cNames, .int .i64 iBodyKind, .string sBodyName, .bool bBodyBigMinus, .slice ABodyBigLimbs xBodyBigLimbs.length cBodyBigLimbs, .slice ABodyNames xBodyNames.length cBodyNames, .slice ABodyKids xBodyKids.length cBodyKids, .slice ABodyAlts xBodyAlts.length cBodyAlts] 166))
  have BK0 := Lib.hid (blk_new w (.cells #[.string sCon, .slice ANames xNames.length cNames, .int .i64 iBodyKind, .string sBodyName, .bool bBodyBigMinus, .slice ABodyBigLimbs xBodyBigLimbs.length cBodyBigLimbs, .slice ABodyNames xBodyNames.length cBodyNames, .slice ABodyKids xBodyKids.length cBodyKids, .slice ABodyAlts xBodyAlts.length cBodyAlts] 166))
  have RDNames := Lib.hid rdNames
  have IHNames := Lib.hid ihNames
  have RDBody := Lib.hid rdBody
  have IHBody := Lib.hid ihBody
  clear h rdNames ihNames rdBody ihBody
  go_enter Try.func115, Try.ntmps115
  go_wp2_with fail
  · go_ret
    exact ⟨ret_int (szR_neg' (by rw [TOT.out]; omega)).symm, HB0.out⟩
  · skip
    have hlNames : 0 ≤ left - (sCon.size : Int) := by omega
    refine (IHNames.out _ _ (left - (sCon.size : Int)) (RDNames.out.below HB0.out) hlNames (by omega)).mono ?_
    rintro e w1 ⟨rfl, hb⟩
    have HB1 := Lib.hid (HB0.out.trans (hb.mono HB0.out.size))
    have BK1 := Lib.hid (blk_below BK0.out hb)
    clear hb
    have z1_0 := blk_cell BK1.out 0
    have z1_1 := blk_cell BK1.out 1
    have z1_2 := blk_cell BK1.out 2
    have z1_3 := blk_cell BK1.out 3
    have z1_4 := blk_cell BK1.out 4
    have z1_5 := blk_cell BK1.out 5
    have z1_6 := blk_cell BK1.out 6
    have z1_7 := blk_cell BK1.out 7
    have z1_8 := blk_cell BK1.out 8
    simp at z1_0 z1_1 z1_2 z1_3 z1_4 z1_5 z1_6 z1_7 z1_8
    by_cases hzNames : left - (sCon.size : Int) < ((D.slice 1 xNames).bulk : Int)
    · rw [szR_neg' hzNames]
      go_wp2
      go_ret
      exact ⟨ret_int (szR_neg' (by rw [TOT.out]; omega)).symm, HB1.out⟩
    · rw [szR_fit (by omega)]
      go_wp2_with fail
      have hlBody : 0 ≤ left - (sCon.size : Int) - ((D.slice 1 xNames).bulk : Int) := by omega
      refine (IHBody.out _ _ (left - (sCon.size : Int) - ((D.slice 1 xNames).bulk : Int)) (RDBody.out.below HB1.out) hlBody (by omega)).mono ?_
      rintro e w2 ⟨rfl, hb⟩
      have HB2 := Lib.hid (HB1.out.trans (hb.mono HB1.out.size))
      have BK2 := Lib.hid (blk_below BK1.out hb)
      clear hb
      have z2_0 := blk_cell BK2.out 0
      have z2_1 := blk_cell BK2.out 1
      have z2_2 := blk_cell BK2.out 2
      have z2_3 := blk_cell BK2.out 3
      have z2_4 := blk_cell BK2.out 4
      have z2_5 := blk_cell BK2.out 5
      have z2_6 := blk_cell BK2.out 6
      have z2_7 := blk_cell BK2.out 7
      have z2_8 := blk_cell BK2.out 8
      simp at z2_0 z2_1 z2_2 z2_3 z2_4 z2_5 z2_6 z2_7 z2_8
      by_cases hzBody : left - (sCon.size : Int) - ((D.slice 1 xNames).bulk : Int) < ((D.struct [.int .i64 iBodyKind, .str sBodyName, .struct [.bool bBodyBigMinus, .slice 1 xBodyBigLimbs], .slice 1 xBodyNames, .slice 7 xBodyKids, .slice 9 xBodyAlts]).bulk : Int)
      · rw [szR_neg' hzBody]
        go_wp2
        go_ret
        exact ⟨ret_int (szR_neg' (by rw [TOT.out]; omega)).symm, HB2.out⟩
      · rw [szR_fit (by omega)]
        go_wp2_with fail
        go_ret
        exact ⟨ret_int ((szR_fit (by rw [TOT.out]; omega)).trans (by rw [TOT.out] <;> omega)).symm, HB2.out⟩

set_option maxRecDepth 100000 in
set_option maxHeartbeats 2000000 in
theorem eqCoreAlt_of (sCon : ByteArray) (xNames : List D) (iBodyKind : Int) (sBodyName : ByteArray) (bBodyBigMinus : Bool) (xBodyBigLimbs : List D) (xBodyNames : List D) (xBodyKids : List D) (xBodyAlts : List D) (ihNames : EqO Try.prog 14 (D.slice 1 xNames)) (ihBody : EqA Try.prog 15 (D.struct [.int .i64 iBodyKind, .str sBodyName, .struct [.bool bBodyBigMinus, .slice 1 xBodyBigLimbs], .slice 1 xBodyNames, .slice 7 xBodyKids, .slice 9 xBodyAlts])) : EqA Try.prog 126 (.struct [.str sCon, .slice 1 xNames, .struct [.int .i64 iBodyKind, .str sBodyName, .struct [.bool bBodyBigMinus, .slice 1 xBodyBigLimbs], .slice 1 xBodyNames, .slice 7 xBodyKids, .slice 9 xBodyAlts]]) := by
  intro w cs cs' h h'
  obtain ⟨ANames, cNames, ABodyBigLimbs, cBodyBigLimbs, ABodyNames, cBodyNames, ABodyKids, cBodyKids, ABodyAlts, cBodyAlts, rfl, rdNames, rdBody⟩ := openCoreAlt h
  obtain ⟨ANames', cNames', ABodyBigLimbs', cBodyBigLimbs', ABodyNames', cBodyNames', ABodyKids', cBodyKids', ABodyAlts', cBodyAlts', rfl, rdNames', rdBody'⟩ := openCoreAlt h'
  have HB0 := Lib.hid (((Below.refl w.heap.size w).alloc (Nat.le_refl _) (.cells #[.string sCon, .slice ANames xNames.length cNames, .int .i64 iBodyKind, .string sBodyName, .bool bBodyBigMinus, .slice ABodyBigLimbs xBodyBigLimbs.length cBodyBigLimbs, .slice ABodyNames xBodyNames.length cBodyNames, .slice ABodyKids xBodyKids.length cBodyKids, .slice ABodyAlts xBodyAlts.length cBodyAlts] 173)).alloc (by simp) (.cells #[.string sCon, .slice ANames' xNames.length cNames', .int .i64 iBodyKind, .string sBodyName, .bool bBodyBigMinus, .slice ABodyBigLimbs' xBodyBigLimbs.length cBodyBigLimbs', .slice ABodyNames' xBodyNames.length cBodyNames', .slice ABodyKids' xBodyKids.length cBodyKids', .slice ABodyAlts' xBodyAlts.length cBodyAlts'] 173))
  have BK0 := Lib.hid (blk_old (blk_new w (.cells #[.string sCon, .slice ANames xNames.length cNames, .int .i64 iBodyKind, .string sBodyName, .bool bBodyBigMinus, .slice ABodyBigLimbs xBodyBigLimbs.length cBodyBigLimbs, .slice ABodyNames xBodyNames.length cBodyNames, .slice ABodyKids xBodyKids.length cBodyKids, .slice ABodyAlts xBodyAlts.length cBodyAlts] 173)) (.cells #[.string sCon, .slice ANames' xNames.length cNames', .int .i64 iBodyKind, .string sBodyName, .bool bBodyBigMinus, .slice ABodyBigLimbs' xBodyBigLimbs.length cBodyBigLimbs', .slice ABodyNames' xBodyNames.length cBodyNames', .slice ABodyKids' xBodyKids.length cBodyKids', .slice ABodyAlts' xBodyAlts.length cBodyAlts'] 173))
  have BJ0 := Lib.hid (blk_new (w.alloc (.cells #[.string sCon, .slice ANames xNames.length cNames, .int .i64 iBodyKind, .string sBodyName, .bool bBodyBigMinus, .slice ABodyBigLimbs xBodyBigLimbs.length cBodyBigLimbs, .slice ABodyNames xBodyNames.length cBodyNames, .slice ABodyKids xBodyKids.length cBodyKids, .slice ABodyAlts xBodyAlts.length cBodyAlts] 173)) (.cells #[.string sCon, .slice ANames' xNames.length cNames', .int .i64 iBodyKind, .string sBodyName, .bool bBodyBigMinus, .slice ABodyBigLimbs' xBodyBigLimbs.length cBodyBigLimbs', .slice ABodyNames' xBodyNames.length cBodyNames', .slice ABodyKids' xBodyKids.length cBodyKids', .slice ABodyAlts' xBodyAlts.length cBodyAlts'] 173))
  have RDNames := Lib.hid rdNames
  have RDNames' := Lib.hid rdNames'
  have IHNames := Lib.hid ihNames
  have RDBody := Lib.hid rdBody
  have RDBody' := Lib.hid rdBody'
  have IHBody := Lib.hid ihBody
  clear h h' rdNames rdNames' ihNames rdBody rdBody' ihBody
  go_enter Try.func126, Try.ntmps126
  go_wp2_with fail
  refine (IHNames.out _ _ _ (RDNames.out.below HB0.out) (RDNames'.out.below HB0.out)).mono ?_
  rintro e w1 ⟨rfl, hb⟩
  have HB1 := Lib.hid (HB0.out.trans (hb.mono HB0.out.size))
  have BK1 := Lib.hid (blk_below BK0.out hb)
  have BJ1 := Lib.hid (blk_below BJ0.out hb)
  clear hb
  have z1_0 := blk_cell BK1.out 0
  have z1_1 := blk_cell BK1.out 1
  have z1_2 := blk_cell BK1.out 2
  have z1_3 := blk_cell BK1.out 3
  have z1_4 := blk_cell BK1.out 4
  have z1_5 := blk_cell BK1.out 5
  have z1_6 := blk_cell BK1.out 6
  have z1_7 := blk_cell BK1.out 7
  have z1_8 := blk_cell BK1.out 8
  have y1_0 := blk_cell BJ1.out 0
  have y1_1 := blk_cell BJ1.out 1
  have y1_2 := blk_cell BJ1.out 2
  have y1_3 := blk_cell BJ1.out 3
  have y1_4 := blk_cell BJ1.out 4
  have y1_5 := blk_cell BJ1.out 5
  have y1_6 := blk_cell BJ1.out 6
  have y1_7 := blk_cell BJ1.out 7
  have y1_8 := blk_cell BJ1.out 8
  simp at z1_0 z1_1 z1_2 z1_3 z1_4 z1_5 z1_6 z1_7 z1_8 y1_0 y1_1 y1_2 y1_3 y1_4 y1_5 y1_6 y1_7 y1_8
  go_wp2_with fail
  refine (IHBody.out _ _ _ (RDBody.out.below HB1.out) (RDBody'.out.below HB1.out)).mono ?_
  rintro e w2 ⟨rfl, hb⟩
  have HB2 := Lib.hid (HB1.out.trans (hb.mono HB1.out.size))
  have BK2 := Lib.hid (blk_below BK1.out hb)
  have BJ2 := Lib.hid (blk_below BJ1.out hb)
  clear hb
  have z2_0 := blk_cell BK2.out 0
  have z2_1 := blk_cell BK2.out 1
  have z2_2 := blk_cell BK2.out 2
  have z2_3 := blk_cell BK2.out 3
  have z2_4 := blk_cell BK2.out 4
  have z2_5 := blk_cell BK2.out 5
  have z2_6 := blk_cell BK2.out 6
  have z2_7 := blk_cell BK2.out 7
  have z2_8 := blk_cell BK2.out 8
  have y2_0 := blk_cell BJ2.out 0
  have y2_1 := blk_cell BJ2.out 1
  have y2_2 := blk_cell BJ2.out 2
  have y2_3 := blk_cell BJ2.out 3
  have y2_4 := blk_cell BJ2.out 4
  have y2_5 := blk_cell BJ2.out 5
  have y2_6 := blk_cell BJ2.out 6
  have y2_7 := blk_cell BJ2.out 7
  have y2_8 := blk_cell BJ2.out 8
  simp at z2_0 z2_1 z2_2 z2_3 z2_4 z2_5 z2_6 z2_7 z2_8 y2_0 y2_1 y2_2 y2_3 y2_4 y2_5 y2_6 y2_7 y2_8
  clear z1_0 y1_0 z1_1 y1_1 z1_2 y1_2 z1_3 y1_3 z1_4 y1_4 z1_5 y1_5 z1_6 y1_6 z1_7 y1_7 z1_8 y1_8
  go_wp2
  go_ret
  exact ⟨rfl, HB2.out⟩

set_option maxRecDepth 100000 in
set_option maxHeartbeats 2000000 in
theorem toCoreAlt_of (sCon : ByteArray) (xNames : List D) (iBodyKind : Int) (sBodyName : ByteArray) (bBodyBigMinus : Bool) (xBodyBigLimbs : List D) (xBodyNames : List D) (xBodyKids : List D) (xBodyAlts : List D) (ihNames : ToO Try.prog 60 (D.slice 1 xNames)) (ihBody : ToA Try.prog 12 (D.struct [.int .i64 iBodyKind, .str sBodyName, .struct [.bool bBodyBigMinus, .slice 1 xBodyBigLimbs], .slice 1 xBodyNames, .slice 7 xBodyKids, .slice 9 xBodyAlts])) : ToA Try.prog 120 (.struct [.str sCon, .slice 1 xNames, .struct [.int .i64 iBodyKind, .str sBodyName, .struct [.bool bBodyBigMinus, .slice 1 xBodyBigLimbs], .slice 1 xBodyNames, .slice 7 xBodyKids, .slice 9 xBodyAlts]]) := by
  intro w cs h
  obtain ⟨ANames, cNames, ABodyBigLimbs, cBodyBigLimbs, ABodyNames, cBodyNames, ABodyKids, cBodyKids, ABodyAlts, cBodyAlts, rfl, rdNames, rdBody⟩ := openCoreAlt h
  have RDNames := Lib.hid rdNames
  have IHNames := Lib.hid ihNames
  have RDBody := Lib.hid rdBody
  have IHBody := Lib.hid ihBody
  clear h rdNames ihNames rdBody ihBody
  go_enter Try.func120, Try.ntmps120
  go_wp2_with fail
  have HB0 := Lib.hid ((((Below.refl w.heap.size w).alloc (Nat.le_refl _) (.cells #[.string sCon, .slice ANames xNames.length cNames, .int .i64 iBodyKind, .string sBodyName, .bool bBodyBigMinus, .slice ABodyBigLimbs xBodyBigLimbs.length cBodyBigLimbs, .slice ABodyNames xBodyNames.length cBodyNames, .slice ABodyKids xBodyKids.length cBodyKids, .slice ABodyAlts xBodyAlts.length cBodyAlts] 166)).alloc (by simp) (.cells #[.string ⟨#[]⟩, .slice none 0 0, .int .i64 0, .string ⟨#[]⟩, .bool false, .slice none 0 0, .slice none 0 0, .slice none 0 0, .slice none 0 0] 173)).alloc (by simp; omega) (.cells #[.string sCon, .slice none 0 0, .int .i64 0, .string ⟨#[]⟩, .bool false, .slice none 0 0, .slice none 0 0, .slice none 0 0, .slice none 0 0] 173))
  have HS0 := Lib.hid (show (((w.alloc (.cells #[.string sCon, .slice ANames xNames.length cNames, .int .i64 iBodyKind, .string sBodyName, .bool bBodyBigMinus, .slice ABodyBigLimbs xBodyBigLimbs.length cBodyBigLimbs, .slice ABodyNames xBodyNames.length cBodyNames, .slice ABodyKids xBodyKids.length cBodyKids, .slice ABodyAlts xBodyAlts.length cBodyAlts] 166)).alloc (.cells #[.string ⟨#[]⟩, .slice none 0 0, .int .i64 0, .string ⟨#[]⟩, .bool false, .slice none 0 0, .slice none 0 0, .slice none 0 0, .slice none 0 0] 173)).alloc (.cells #[.string sCon, .slice none 0 0, .int .i64 0, .string ⟨#[]⟩, .bool false, .slice none 0 0, .slice none 0 0, .slice none 0 0, .slice none 0 0] 173)).heap.size = w.heap.size + 3 by simp)
  have BA0 := Lib.hid (blk_old (blk_old (blk_new w (.cells #[.string sCon, .slice ANames xNames.length cNames, .int .i64 iBodyKind, .string sBodyName, .bool bBodyBigMinus, .slice ABodyBigLimbs xBodyBigLimbs.length cBodyBigLimbs, .slice ABodyNames xBodyNames.length cBodyNames, .slice ABodyKids xBodyKids.length cBodyKids, .slice ABodyAlts xBodyAlts.length cBodyAlts] 166)) (.cells #[.string ⟨#[]⟩, .slice none 0 0, .int .i64 0, .string ⟨#[]⟩, .bool false, .slice none 0 0, .slice none 0 0, .slice none 0 0, .slice none 0 0] 173)) (.cells #[.string sCon, .slice none 0 0, .int .i64 0, .string ⟨#[]⟩, .bool false, .slice none 0 0, .slice none 0 0, .slice none 0 0, .slice none 0 0] 173))
  have BR0 := Lib.hid (blk_old (blk_new_g (w := w.alloc (.cells #[.string sCon, .slice ANames xNames.length cNames, .int .i64 iBodyKind, .string sBodyName, .bool bBodyBigMinus, .slice ABodyBigLimbs xBodyBigLimbs.length cBodyBigLimbs, .slice ABodyNames xBodyNames.length cBodyNames, .slice ABodyKids xBodyKids.length cBodyKids, .slice ABodyAlts xBodyAlts.length cBodyAlts] 166)) (g := w.heap.size + 1) (o := (.cells #[.string ⟨#[]⟩, .slice none 0 0, .int .i64 0, .string ⟨#[]⟩, .bool false, .slice none 0 0, .slice none 0 0, .slice none 0 0, .slice none 0 0] 173)) (by simp)) (.cells #[.string sCon, .slice none 0 0, .int .i64 0, .string ⟨#[]⟩, .bool false, .slice none 0 0, .slice none 0 0, .slice none 0 0, .slice none 0 0] 173))
  have BO0 := Lib.hid (blk_new_g (w := (w.alloc (.cells #[.string sCon, .slice ANames xNames.length cNames, .int .i64 iBodyKind, .string sBodyName, .bool bBodyBigMinus, .slice ABodyBigLimbs xBodyBigLimbs.length cBodyBigLimbs, .slice ABodyNames xBodyNames.length cBodyNames, .slice ABodyKids xBodyKids.length cBodyKids, .slice ABodyAlts xBodyAlts.length cBodyAlts] 166)).alloc (.cells #[.string ⟨#[]⟩, .slice none 0 0, .int .i64 0, .string ⟨#[]⟩, .bool false, .slice none 0 0, .slice none 0 0, .slice none 0 0, .slice none 0 0] 173)) (g := w.heap.size + 2) (o := (.cells #[.string sCon, .slice none 0 0, .int .i64 0, .string ⟨#[]⟩, .bool false, .slice none 0 0, .slice none 0 0, .slice none 0 0, .slice none 0 0] 173)) (by simp))
  refine (IHNames.out _ _ (RDNames.out.below HB0.out)).mono ?_
  rintro e w1 ⟨vNames, rfl, hfr, hb⟩
  obtain ⟨BNames, dNames, rfl, _, _, _⟩ := hfr.slice
  have hr := hfr.range
  have hsz := hb.size
  rw [HS0.out] at hr hsz
  have FRNames := Lib.hid hr
  have SY1 := Lib.hid hsz
  have SZ1 := Lib.hid (show w.heap.size + 3 ≤ w1.heap.size by omega)
  have HB1 := Lib.hid (HB0.out.trans (hb.mono HB0.out.size))
  have BA1 := Lib.hid (blk_below BA0.out hb)
  have BR1 := Lib.hid (blk_below BR0.out hb)
  have BO1 := Lib.hid (blk_below BO0.out hb)
  clear hb hfr hr hsz
  have za1_0 := blk_cell BA1.out 0
  have za1_1 := blk_cell BA1.out 1
  have za1_2 := blk_cell BA1.out 2
  have za1_3 := blk_cell BA1.out 3
  have za1_4 := blk_cell BA1.out 4
  have za1_5 := blk_cell BA1.out 5
  have za1_6 := blk_cell BA1.out 6
  have za1_7 := blk_cell BA1.out 7
  have za1_8 := blk_cell BA1.out 8
  have zo1_0 := blk_cell BO1.out 0
  have zo1_f0 := blk_frozen BO1.out 0
  have zo1_1 := blk_cell BO1.out 1
  have zo1_f1 := blk_frozen BO1.out 1
  have zo1_2 := blk_cell BO1.out 2
  have zo1_f2 := blk_frozen BO1.out 2
  have zo1_3 := blk_cell BO1.out 3
  have zo1_f3 := blk_frozen BO1.out 3
  have zo1_4 := blk_cell BO1.out 4
  have zo1_f4 := blk_frozen BO1.out 4
  have zo1_5 := blk_cell BO1.out 5
  have zo1_f5 := blk_frozen BO1.out 5
  have zo1_6 := blk_cell BO1.out 6
  have zo1_f6 := blk_frozen BO1.out 6
  have zo1_7 := blk_cell BO1.out 7
  have zo1_f7 := blk_frozen BO1.out 7
  have zo1_8 := blk_cell BO1.out 8
  have zo1_f8 := blk_frozen BO1.out 8
  simp at za1_0 za1_1 za1_2 za1_3 za1_4 za1_5 za1_6 za1_7 za1_8 zo1_0 zo1_f0 zo1_1 zo1_f1 zo1_2 zo1_f2 zo1_3 zo1_f3 zo1_4 zo1_f4 zo1_5 zo1_f5 zo1_6 zo1_f6 zo1_7 zo1_f7 zo1_8 zo1_f8
  have HB1 := Lib.hid (HB1.out.setCell (p := ⟨w.heap.size + 2, 1, none⟩) (by simp) (.slice BNames xNames.length dNames))
  have BA1 := Lib.hid (blk_far BA1.out (p := ⟨w.heap.size + 2, 1, none⟩) (by simp) (.slice BNames xNames.length dNames))
  have BR1 := Lib.hid (blk_far BR1.out (p := ⟨w.heap.size + 2, 1, none⟩) (by simp) (.slice BNames xNames.length dNames))
  have BO1 := Lib.hid ((blk_set BO1.out 1 (.slice BNames xNames.length dNames)).trans (show _ = some (Obj.cells #[.string sCon, .slice BNames xNames.length dNames, .int .i64 0, .string ⟨#[]⟩, .bool false, .slice none 0 0, .slice none 0 0, .slice none 0 0, .slice none 0 0] 173 (0, 0)) from rfl))
  have FRNames := Lib.hid (FRNames.out.set (p := ⟨w.heap.size + 2, 1, none⟩) (by simp) (.slice BNames xNames.length dNames))
  go_wp2_with fail
  refine (IHBody.out _ _ (RDBody.out.below HB1.out)).mono ?_
  rintro e w2 ⟨vBody, rfl, hfr, hb⟩
  obtain ⟨BBodyBigLimbs, dBodyBigLimbs, BBodyNames, dBodyNames, BBodyKids, dBodyKids, BBodyAlts, dBodyAlts, rfl, _, _, _, _⟩ := openCore hfr.rd
  have hr := hfr.range
  have hsz := hb.size
  simp only [sz_setCell] at hr hsz
  have FRBody := Lib.hid hr
  have SY2 := Lib.hid hsz
  have SZ2 := Lib.hid (show w.heap.size + 3 ≤ w2.heap.size by have := SZ1.out; omega)
  have FRNames := Lib.hid (FRNames.out.below hb)
  have HB2 := Lib.hid (HB1.out.trans (hb.mono HB1.out.size))
  have BA2 := Lib.hid (blk_below BA1.out hb)
  have BR2 := Lib.hid (blk_below BR1.out hb)
  have BO2 := Lib.hid (blk_below BO1.out hb)
  clear hb hfr hr hsz
  have za2_0 := blk_cell BA2.out 0
  have za2_1 := blk_cell BA2.out 1
  have za2_2 := blk_cell BA2.out 2
  have za2_3 := blk_cell BA2.out 3
  have za2_4 := blk_cell BA2.out 4
  have za2_5 := blk_cell BA2.out 5
  have za2_6 := blk_cell BA2.out 6
  have za2_7 := blk_cell BA2.out 7
  have za2_8 := blk_cell BA2.out 8
  have zo2_0 := blk_cell BO2.out 0
  have zo2_f0 := blk_frozen BO2.out 0
  have zo2_1 := blk_cell BO2.out 1
  have zo2_f1 := blk_frozen BO2.out 1
  have zo2_2 := blk_cell BO2.out 2
  have zo2_f2 := blk_frozen BO2.out 2
  have zo2_3 := blk_cell BO2.out 3
  have zo2_f3 := blk_frozen BO2.out 3
  have zo2_4 := blk_cell BO2.out 4
  have zo2_f4 := blk_frozen BO2.out 4
  have zo2_5 := blk_cell BO2.out 5
  have zo2_f5 := blk_frozen BO2.out 5
  have zo2_6 := blk_cell BO2.out 6
  have zo2_f6 := blk_frozen BO2.out 6
  have zo2_7 := blk_cell BO2.out 7
  have zo2_f7 := blk_frozen BO2.out 7
  have zo2_8 := blk_cell BO2.out 8
  have zo2_f8 := blk_frozen BO2.out 8
  have zr2_0 := blk_cell BR2.out 0
  have zr2_f0 := blk_frozen BR2.out 0
  have zr2_1 := blk_cell BR2.out 1
  have zr2_f1 := blk_frozen BR2.out 1
  have zr2_2 := blk_cell BR2.out 2
  have zr2_f2 := blk_frozen BR2.out 2
  have zr2_3 := blk_cell BR2.out 3
  have zr2_f3 := blk_frozen BR2.out 3
  have zr2_4 := blk_cell BR2.out 4
  have zr2_f4 := blk_frozen BR2.out 4
  have zr2_5 := blk_cell BR2.out 5
  have zr2_f5 := blk_frozen BR2.out 5
  have zr2_6 := blk_cell BR2.out 6
  have zr2_f6 := blk_frozen BR2.out 6
  have zr2_7 := blk_cell BR2.out 7
  have zr2_f7 := blk_frozen BR2.out 7
  have zr2_8 := blk_cell BR2.out 8
  have zr2_f8 := blk_frozen BR2.out 8
  simp at za2_0 za2_1 za2_2 za2_3 za2_4 za2_5 za2_6 za2_7 za2_8 zo2_0 zo2_f0 zo2_1 zo2_f1 zo2_2 zo2_f2 zo2_3 zo2_f3 zo2_4 zo2_f4 zo2_5 zo2_f5 zo2_6 zo2_f6 zo2_7 zo2_f7 zo2_8 zo2_f8 zr2_0 zr2_f0 zr2_1 zr2_f1 zr2_2 zr2_f2 zr2_3 zr2_f3 zr2_4 zr2_f4 zr2_5 zr2_f5 zr2_6 zr2_f6 zr2_7 zr2_f7 zr2_8 zr2_f8
  clear za1_0 zo1_0 zo1_f0 za1_1 zo1_1 zo1_f1 za1_2 zo1_2 zo1_f2 za1_3 zo1_3 zo1_f3 za1_4 zo1_4 zo1_f4 za1_5 zo1_5 zo1_f5 za1_6 zo1_6 zo1_f6 za1_7 zo1_7 zo1_f7 za1_8 zo1_8 zo1_f8
  have HB2 := Lib.hid (((((((HB2.out.setCell (p := ⟨w.heap.size + 2, 2, none⟩) (by simp) (.int .i64 iBodyKind)).setCell (p := ⟨w.heap.size + 2, 3, none⟩) (by simp) (.string sBodyName)).setCell (p := ⟨w.heap.size + 2, 4, none⟩) (by simp) (.bool bBodyBigMinus)).setCell (p := ⟨w.heap.size + 2, 5, none⟩) (by simp) (.slice BBodyBigLimbs xBodyBigLimbs.length dBodyBigLimbs)).setCell (p := ⟨w.heap.size + 2, 6, none⟩) (by simp) (.slice BBodyNames xBodyNames.length dBodyNames)).setCell (p := ⟨w.heap.size + 2, 7, none⟩) (by simp) (.slice BBodyKids xBodyKids.length dBodyKids)).setCell (p := ⟨w.heap.size + 2, 8, none⟩) (by simp) (.slice BBodyAlts xBodyAlts.length dBodyAlts))
  have BA2 := Lib.hid (blk_far (blk_far (blk_far (blk_far (blk_far (blk_far (blk_far BA2.out (p := ⟨w.heap.size + 2, 2, none⟩) (by simp) (.int .i64 iBodyKind)) (p := ⟨w.heap.size + 2, 3, none⟩) (by simp) (.string sBodyName)) (p := ⟨w.heap.size + 2, 4, none⟩) (by simp) (.bool bBodyBigMinus)) (p := ⟨w.heap.size + 2, 5, none⟩) (by simp) (.slice BBodyBigLimbs xBodyBigLimbs.length dBodyBigLimbs)) (p := ⟨w.heap.size + 2, 6, none⟩) (by simp) (.slice BBodyNames xBodyNames.length dBodyNames)) (p := ⟨w.heap.size + 2, 7, none⟩) (by simp) (.slice BBodyKids xBodyKids.length dBodyKids)) (p := ⟨w.heap.size + 2, 8, none⟩) (by simp) (.slice BBodyAlts xBodyAlts.length dBodyAlts))
  have BR2 := Lib.hid (blk_far (blk_far (blk_far (blk_far (blk_far (blk_far (blk_far BR2.out (p := ⟨w.heap.size + 2, 2, none⟩) (by simp) (.int .i64 iBodyKind)) (p := ⟨w.heap.size + 2, 3, none⟩) (by simp) (.string sBodyName)) (p := ⟨w.heap.size + 2, 4, none⟩) (by simp) (.bool bBodyBigMinus)) (p := ⟨w.heap.size + 2, 5, none⟩) (by simp) (.slice BBodyBigLimbs xBodyBigLimbs.length dBodyBigLimbs)) (p := ⟨w.heap.size + 2, 6, none⟩) (by simp) (.slice BBodyNames xBodyNames.length dBodyNames)) (p := ⟨w.heap.size + 2, 7, none⟩) (by simp) (.slice BBodyKids xBodyKids.length dBodyKids)) (p := ⟨w.heap.size + 2, 8, none⟩) (by simp) (.slice BBodyAlts xBodyAlts.length dBodyAlts))
  have BO2 := Lib.hid ((blk_set (blk_set (blk_set (blk_set (blk_set (blk_set (blk_set BO2.out 2 (.int .i64 iBodyKind)) 3 (.string sBodyName)) 4 (.bool bBodyBigMinus)) 5 (.slice BBodyBigLimbs xBodyBigLimbs.length dBodyBigLimbs)) 6 (.slice BBodyNames xBodyNames.length dBodyNames)) 7 (.slice BBodyKids xBodyKids.length dBodyKids)) 8 (.slice BBodyAlts xBodyAlts.length dBodyAlts)).trans (show _ = some (Obj.cells #[.string sCon, .slice BNames xNames.length dNames, .int .i64 iBodyKind, .string sBodyName, .bool bBodyBigMinus, .slice BBodyBigLimbs xBodyBigLimbs.length dBodyBigLimbs, .slice BBodyNames xBodyNames.length dBodyNames, .slice BBodyKids xBodyKids.length dBodyKids, .slice BBodyAlts xBodyAlts.length dBodyAlts] 173 (0, 0)) from rfl))
  have FRNames := Lib.hid (((((((FRNames.out.set (p := ⟨w.heap.size + 2, 2, none⟩) (by simp) (.int .i64 iBodyKind)).set (p := ⟨w.heap.size + 2, 3, none⟩) (by simp) (.string sBodyName)).set (p := ⟨w.heap.size + 2, 4, none⟩) (by simp) (.bool bBodyBigMinus)).set (p := ⟨w.heap.size + 2, 5, none⟩) (by simp) (.slice BBodyBigLimbs xBodyBigLimbs.length dBodyBigLimbs)).set (p := ⟨w.heap.size + 2, 6, none⟩) (by simp) (.slice BBodyNames xBodyNames.length dBodyNames)).set (p := ⟨w.heap.size + 2, 7, none⟩) (by simp) (.slice BBodyKids xBodyKids.length dBodyKids)).set (p := ⟨w.heap.size + 2, 8, none⟩) (by simp) (.slice BBodyAlts xBodyAlts.length dBodyAlts))
  have FRBody := Lib.hid (((((((FRBody.out.set (p := ⟨w.heap.size + 2, 2, none⟩) (by have := SZ1.out; simp; omega) (.int .i64 iBodyKind)).set (p := ⟨w.heap.size + 2, 3, none⟩) (by have := SZ1.out; simp; omega) (.string sBodyName)).set (p := ⟨w.heap.size + 2, 4, none⟩) (by have := SZ1.out; simp; omega) (.bool bBodyBigMinus)).set (p := ⟨w.heap.size + 2, 5, none⟩) (by have := SZ1.out; simp; omega) (.slice BBodyBigLimbs xBodyBigLimbs.length dBodyBigLimbs)).set (p := ⟨w.heap.size + 2, 6, none⟩) (by have := SZ1.out; simp; omega) (.slice BBodyNames xBodyNames.length dBodyNames)).set (p := ⟨w.heap.size + 2, 7, none⟩) (by have := SZ1.out; simp; omega) (.slice BBodyKids xBodyKids.length dBodyKids)).set (p := ⟨w.heap.size + 2, 8, none⟩) (by have := SZ1.out; simp; omega) (.slice BBodyAlts xBodyAlts.length dBodyAlts))
  go_wp2
  have HB2 := Lib.hid (((((((((HB2.out.setCell (p := ⟨w.heap.size + 1, 0, none⟩) (by simp) (.string sCon)).setCell (p := ⟨w.heap.size + 1, 1, none⟩) (by simp) (.slice BNames xNames.length dNames)).setCell (p := ⟨w.heap.size + 1, 2, none⟩) (by simp) (.int .i64 iBodyKind)).setCell (p := ⟨w.heap.size + 1, 3, none⟩) (by simp) (.string sBodyName)).setCell (p := ⟨w.heap.size + 1, 4, none⟩) (by simp) (.bool bBodyBigMinus)).setCell (p := ⟨w.heap.size + 1, 5, none⟩) (by simp) (.slice BBodyBigLimbs xBodyBigLimbs.length dBodyBigLimbs)).setCell (p := ⟨w.heap.size + 1, 6, none⟩) (by simp) (.slice BBodyNames xBodyNames.length dBodyNames)).setCell (p := ⟨w.heap.size + 1, 7, none⟩) (by simp) (.slice BBodyKids xBodyKids.length dBodyKids)).setCell (p := ⟨w.heap.size + 1, 8, none⟩) (by simp) (.slice BBodyAlts xBodyAlts.length dBodyAlts))
  have FRNames := Lib.hid (((((((((FRNames.out.set (p := ⟨w.heap.size + 1, 0, none⟩) (by simp) (.string sCon)).set (p := ⟨w.heap.size + 1, 1, none⟩) (by simp) (.slice BNames xNames.length dNames)).set (p := ⟨w.heap.size + 1, 2, none⟩) (by simp) (.int .i64 iBodyKind)).set (p := ⟨w.heap.size + 1, 3, none⟩) (by simp) (.string sBodyName)).set (p := ⟨w.heap.size + 1, 4, none⟩) (by simp) (.bool bBodyBigMinus)).set (p := ⟨w.heap.size + 1, 5, none⟩) (by simp) (.slice BBodyBigLimbs xBodyBigLimbs.length dBodyBigLimbs)).set (p := ⟨w.heap.size + 1, 6, none⟩) (by simp) (.slice BBodyNames xBodyNames.length dBodyNames)).set (p := ⟨w.heap.size + 1, 7, none⟩) (by simp) (.slice BBodyKids xBodyKids.length dBodyKids)).set (p := ⟨w.heap.size + 1, 8, none⟩) (by simp) (.slice BBodyAlts xBodyAlts.length dBodyAlts))
  have FRBody := Lib.hid (((((((((FRBody.out.set (p := ⟨w.heap.size + 1, 0, none⟩) (by have := SZ1.out; simp; omega) (.string sCon)).set (p := ⟨w.heap.size + 1, 1, none⟩) (by have := SZ1.out; simp; omega) (.slice BNames xNames.length dNames)).set (p := ⟨w.heap.size + 1, 2, none⟩) (by have := SZ1.out; simp; omega) (.int .i64 iBodyKind)).set (p := ⟨w.heap.size + 1, 3, none⟩) (by have := SZ1.out; simp; omega) (.string sBodyName)).set (p := ⟨w.heap.size + 1, 4, none⟩) (by have := SZ1.out; simp; omega) (.bool bBodyBigMinus)).set (p := ⟨w.heap.size + 1, 5, none⟩) (by have := SZ1.out; simp; omega) (.slice BBodyBigLimbs xBodyBigLimbs.length dBodyBigLimbs)).set (p := ⟨w.heap.size + 1, 6, none⟩) (by have := SZ1.out; simp; omega) (.slice BBodyNames xBodyNames.length dBodyNames)).set (p := ⟨w.heap.size + 1, 7, none⟩) (by have := SZ1.out; simp; omega) (.slice BBodyKids xBodyKids.length dBodyKids)).set (p := ⟨w.heap.size + 1, 8, none⟩) (by have := SZ1.out; simp; omega) (.slice BBodyAlts xBodyAlts.length dBodyAlts))
  refine bodyPost_ret (v := .agg #[.string sCon, .slice BNames xNames.length dNames, .int .i64 iBodyKind, .string sBodyName, .bool bBodyBigMinus, .slice BBodyBigLimbs xBodyBigLimbs.length dBodyBigLimbs, .slice BBodyNames xBodyNames.length dBodyNames, .slice BBodyKids xBodyKids.length dBodyKids, .slice BBodyAlts xBodyAlts.length dBodyAlts]) (by simp [results, Try.results120, go_sem, zr2_0, zr2_1, zr2_2, zr2_3, zr2_4, zr2_5, zr2_6, zr2_7, zr2_8]) rfl ⟨[.string sCon, .slice BNames xNames.length dNames, .int .i64 iBodyKind, .string sBodyName, .bool bBodyBigMinus, .slice BBodyBigLimbs xBodyBigLimbs.length dBodyBigLimbs, .slice BBodyNames xBodyNames.length dBodyNames, .slice BBodyKids xBodyKids.length dBodyKids, .slice BBodyAlts xBodyAlts.length dBodyAlts], rfl, ?_, HB2.out⟩
  rw [fr_struct]
  have sy1 := SY1.out
  have sy2 := SY2.out
  exact FrFR.fr (B := w.heap.size + 3) (frFR_str (frFR_cons (B2 := w1.heap.size) (C := w2.heap.size) FRNames.out (frFR_cons (B2 := w2.heap.size) (C := w2.heap.size) FRBody.out (frFR_nil w2.heap.size w2.heap.size _) (Nat.le_refl _) (by omega) (by omega)) (Nat.le_refl _) (by omega) (by omega))) (by omega)

set_option maxRecDepth 100000 in
set_option maxHeartbeats 2000000 in
theorem szCoreAltS_of (xs : List D) (hn : xs.length ≤ 140737488351232) (ih : ∀ x ∈ xs, SzA Try.prog 115 x) : SzO Try.prog 56 (.slice 9 xs) := by
  intro w v left h h0 h1
  obtain ⟨A, c, rfl, _, _, hrow⟩ := rd_slice1 h
  have IH := Lib.hid ih
  have H := Lib.hid hrow
  have TOT := Lib.hid (show D.bulk (.slice 9 xs) = xs.length + D.bulks xs by simp only [D.bulk])
  clear ih h hrow
  go_enter Try.func56, Try.ntmps56
  go_wp2_with fail
  · go_ret
    exact ⟨ret_int (szR_neg' (by rw [TOT.out]; omega)).symm, Below.refl _ _⟩
  · go_loopw [5, 1] (fun i l wr => ∃ j : Nat, j ≤ xs.length ∧ i = .int .i64 j ∧ l = .int .i64 (left - xs.length - D.bulks (xs.take j)) ∧ 0 ≤ left - xs.length - D.bulks (xs.take j) ∧ Below w.heap.size w wr) (fun i _ _ => xs.length - (intOf i).toNat)
    case atStart => exact ⟨0, Nat.zero_le _, rfl, by simp [D.bulks], by simp [D.bulks]; omega, Below.refl _ _⟩
    case round =>
      obtain ⟨j, hj, rfl, rfl, hl, hb⟩ := hrel
      by_cases hlt : j < xs.length
      · obtain ⟨b, off, cs, rfl, hcl, hrd, hc⟩ := (RdRow.below H.out (by omega) hb).get (List.getElem?_eq_getElem hlt)
        obtain ⟨u0, u1, u2, u3, u4, u5, u6, u7, u8, rfl⟩ := cells9 hcl
        have c0 : wr.cell? ⟨b, off + j * 9, none⟩ = some u0 := hc 0 _ rfl
        have c1 : wr.cell? ⟨b, off + j * 9 + 1, none⟩ = some u1 := hc 1 _ rfl
        have c2 : wr.cell? ⟨b, off + j * 9 + 2, none⟩ = some u2 := hc 2 _ rfl
        have c3 : wr.cell? ⟨b, off + j * 9 + 3, none⟩ = some u3 := hc 3 _ rfl
        have c4 : wr.cell? ⟨b, off + j * 9 + 4, none⟩ = some u4 := hc 4 _ rfl
        have c5 : wr.cell? ⟨b, off + j * 9 + 5, none⟩ = some u5 := hc 5 _ rfl
        have c6 : wr.cell? ⟨b, off + j * 9 + 6, none⟩ = some u6 := hc 6 _ rfl
        have c7 : wr.cell? ⟨b, off + j * 9 + 7, none⟩ = some u7 := hc 7 _ rfl
        have c8 : wr.cell? ⟨b, off + j * 9 + 8, none⟩ = some u8 := hc 8 _ rfl
        have CAL := Lib.hid (IH.out _ (List.getElem_mem hlt) wr _ (left - xs.length - D.bulks (xs.take j)) hrd hl (by omega))
        have HB := Lib.hid hb
        have T := Lib.hid (D.bulks_take xs j hlt)
        have T2 := Lib.hid (D.bulks_take_le xs (j + 1))
        clear hrd hcl hc hb
        go_wp2_with fail
        refine CAL.out.mono ?_
        rintro e w1 ⟨rfl, hb1⟩
        have HB1 := Lib.hid (HB.out.trans (hb1.mono HB.out.size))
        clear hb1 CAL
        by_cases hz : left - xs.length - D.bulks (xs.take j) < xs[j].bulk
        · rw [szR_neg' hz]
          go_wp2
          go_ret
          exact ⟨ret_int (szR_neg' (by rw [TOT.out]; have h6 := T.out; have h7 := T2.out; omega)).symm, HB1.out⟩
        · rw [szR_fit (by omega)]
          go_wp2
          go_roundw
          case rel => exact ⟨j + 1, by omega, by go_num, by rw [T.out]; go_num, by rw [T.out]; omega, HB1.out⟩
          case measure => simp [intOf]; omega
      · obtain rfl : j = xs.length := by omega
        rw [List.take_length] at hl ⊢
        have HB := Lib.hid hb
        clear hb
        go_wp2
        go_ret
        exact ⟨ret_int ((szR_fit (by rw [TOT.out]; omega)).trans (by rw [TOT.out] <;> omega)).symm, HB.out⟩

set_option maxRecDepth 100000 in
set_option maxHeartbeats 2000000 in
theorem eqCoreAltS_of (xs : List D) (hn : xs.length ≤ 140737488351232) (ih : ∀ x ∈ xs, EqA Try.prog 126 x) : EqO Try.prog 68 (.slice 9 xs) := by
  intro w v v' h h'
  obtain ⟨A, c, rfl, _, _, hrow⟩ := rd_slice1 h
  obtain ⟨A', c', rfl, _, _, hrow'⟩ := rd_slice1 h'
  have IH := Lib.hid ih
  have H := Lib.hid hrow
  have H' := Lib.hid hrow'
  clear ih h h' hrow hrow'
  go_enter Try.func68, Try.ntmps68
  go_wp2_with fail
  go_loopw [5] (fun i wr => ∃ j : Nat, j ≤ xs.length ∧ i = .int .i64 j ∧ Below w.heap.size w wr) (fun i _ => xs.length - (intOf i).toNat)
  case atStart => exact ⟨0, Nat.zero_le _, rfl, Below.refl _ _⟩
  case round =>
    obtain ⟨j, hj, rfl, hb⟩ := hrel
    by_cases hlt : j < xs.length
    · obtain ⟨b, off, cs, rfl, hcl, hrd, hc⟩ := (RdRow.below H.out (by omega) hb).get (List.getElem?_eq_getElem hlt)
      obtain ⟨b', off', cs', rfl, hcl', hrd', hc'⟩ := (RdRow.below H'.out (by omega) hb).get (List.getElem?_eq_getElem hlt)
      obtain ⟨u0, u1, u2, u3, u4, u5, u6, u7, u8, rfl⟩ := cells9 hcl
      obtain ⟨v0, v1, v2, v3, v4, v5, v6, v7, v8, rfl⟩ := cells9 hcl'
      have c0 : wr.cell? ⟨b, off + j * 9, none⟩ = some u0 := hc 0 _ rfl
      have d0 : wr.cell? ⟨b', off' + j * 9, none⟩ = some v0 := hc' 0 _ rfl
      have c1 : wr.cell? ⟨b, off + j * 9 + 1, none⟩ = some u1 := hc 1 _ rfl
      have d1 : wr.cell? ⟨b', off' + j * 9 + 1, none⟩ = some v1 := hc' 1 _ rfl
      have c2 : wr.cell? ⟨b, off + j * 9 + 2, none⟩ = some u2 := hc 2 _ rfl
      have d2 : wr.cell? ⟨b', off' + j * 9 + 2, none⟩ = some v2 := hc' 2 _ rfl
      have c3 : wr.cell? ⟨b, off + j * 9 + 3, none⟩ = some u3 := hc 3 _ rfl
      have d3 : wr.cell? ⟨b', off' + j * 9 + 3, none⟩ = some v3 := hc' 3 _ rfl
      have c4 : wr.cell? ⟨b, off + j * 9 + 4, none⟩ = some u4 := hc 4 _ rfl
      have d4 : wr.cell? ⟨b', off' + j * 9 + 4, none⟩ = some v4 := hc' 4 _ rfl
      have c5 : wr.cell? ⟨b, off + j * 9 + 5, none⟩ = some u5 := hc 5 _ rfl
      have d5 : wr.cell? ⟨b', off' + j * 9 + 5, none⟩ = some v5 := hc' 5 _ rfl
      have c6 : wr.cell? ⟨b, off + j * 9 + 6, none⟩ = some u6 := hc 6 _ rfl
      have d6 : wr.cell? ⟨b', off' + j * 9 + 6, none⟩ = some v6 := hc' 6 _ rfl
      have c7 : wr.cell? ⟨b, off + j * 9 + 7, none⟩ = some u7 := hc 7 _ rfl
      have d7 : wr.cell? ⟨b', off' + j * 9 + 7, none⟩ = some v7 := hc' 7 _ rfl
      have c8 : wr.cell? ⟨b, off + j * 9 + 8, none⟩ = some u8 := hc 8 _ rfl
      have d8 : wr.cell? ⟨b', off' + j * 9 + 8, none⟩ = some v8 := hc' 8 _ rfl
      have CAL := Lib.hid (IH.out _ (List.getElem_mem hlt) wr.drew _ _ (hrd.below (Below.refl _ _).drew) (hrd'.below (Below.refl _ _).drew))
      have HB := Lib.hid hb
      clear hrd hcl hc hb hrd' hcl' hc' H H'
      go_wp2_with fail
      go_still_tail 8, (by kernel_rfl)
      go_wp2_with fail
      refine CAL.out.mono ?_
      rintro e w1 ⟨rfl, hb1⟩
      have HB1 := Lib.hid (HB.out.drew.trans (hb1.mono HB.out.size))
      clear hb1 CAL
      go_wp2
      go_roundw
      case rel => exact ⟨j + 1, by omega, by go_num, HB1.out⟩
      case measure => simp [intOf]; omega
    · obtain rfl : j = xs.length := by omega
      have HB := Lib.hid hb
      clear hb
      go_wp2
      go_ret
      exact ⟨rfl, HB.out⟩

theorem infoCoreAltS : (Try.prog.info? 173).map (fun i => (i.zero, i.size, i.bytes)) = some (some (.agg #[.string ⟨#[]⟩, .slice none 0 0, .int .i64 0, .string ⟨#[]⟩, .bool false, .slice none 0 0, .slice none 0 0, .slice none 0 0, .slice none 0 0]), 9, 168) := by kernel_rfl
theorem infoZCoreAltS : (Try.prog.info? 173).map (·.size) = some 9 := by kernel_rfl
theorem infoLCoreAltS : (Try.prog.info? 166).map (·.size) = some 9 := by kernel_rfl
set_option maxRecDepth 100000 in
set_option maxHeartbeats 2000000 in
theorem toCoreAltS_of (xs : List D) (hn : xs.length ≤ 1048576) (hsz : ∀ x ∈ xs, x.n = 9) (ih : ∀ x ∈ xs, ToA Try.prog 120 x) : ToO Try.prog 62 (.slice 9 xs) := by
  intro w v h
  obtain ⟨A, c, rfl, _, _, hrow⟩ := rd_slice1 h
  have IH := Lib.hid ih
  have H := Lib.hid hrow
  clear ih h hrow
  obtain ⟨i0, hi, hz0, hz1, hz2⟩ := info_parts infoCoreAltS
  have hmk := run_make (P := Try.prog) w 34 173 i0 _ Try.underlying34 hi hz0 .i64 .i64 (xs.length : Int) (xs.length : Int) (by omega) (by omega) (by rw [hz2]; omega) (by omega)
  rw [hz1, Int.toNat_natCast] at hmk
  clear hi hz0 hz1 hz2
  go_enter Try.func62, Try.ntmps62
  go_wp2_with fail
  go_loopw [4] (fun i wr => ∃ j : Nat, j ≤ xs.length ∧ i = .int .i64 j ∧ Below w.heap.size w wr ∧ Fill w.heap.size wr w.heap.size 173 9 xs.length (xs.take j)) (fun i _ => xs.length - (intOf i).toNat)
  case atStart => exact ⟨0, Nat.zero_le _, rfl, (Below.refl _ _).alloc (Nat.le_refl _) _, by rw [List.take_zero]; exact Fill.start (Nat.le_refl _) (by simp [size_madeCells])⟩
  case round =>
    obtain ⟨j, hj, rfl, hb, hf⟩ := hrel
    clear hmk
    by_cases hlt : j < xs.length
    · have hk : (xs.take j).length = j := by rw [List.length_take]; omega
      obtain ⟨b, off, cs, rfl, hcl, hrd, hc⟩ := (RdRow.below H.out (by omega) hb).get (List.getElem?_eq_getElem hlt)
      have CAL := Lib.hid (IH.out _ (List.getElem_mem hlt) wr _ hrd)
      have HB := Lib.hid hb
      have HF := Lib.hid hf
      have HC := Lib.hid hc
      clear hrd hc hb hf H
      go_wp2_with (refine wpList_load_mid rfl 166 (.tmp 18) rfl b (off + j * 9) rfl cs _ HC.out Try.underlying166 rfl (by rw [hcl]; exact infoLCoreAltS) ?_)
      refine CAL.out.mono ?_
      rintro e w1 ⟨cs', rfl, hfr, hb1⟩
      have hl : cs'.length = 9 := hfr.len.trans (hsz _ (List.getElem_mem hlt))
      have HL := Lib.hid hl
      have TH := Lib.hid ((HF.out.below hb1).there hlt)
      have HF1 := Lib.hid (HF.out.store hb1 hfr hl (by rw [hk]; exact hlt))
      rw [hk] at HF1
      have HONE := Lib.hid hfr.all
      have HB1 := Lib.hid (below_setCells (Nat.le_refl w.heap.size) cs' (j * 9) (HB.out.trans (hb1.mono HB.out.size)))
      clear hb1 hfr hl hk CAL
      go_wp2_with (refine wpList_store_mid rfl 173 (.tmp 21) (.tmp 20) rfl w.heap.size (j * 9) cs'.toArray rfl rfl (by simpa [HL.out] using TH.out) (by simpa [HL.out] using infoZCoreAltS) HONE.out ?_)
      go_roundw
      case rel =>
        refine ⟨j + 1, by omega, by go_num, HB1.out, ?_⟩
        rw [List.take_succ_eq_append_getElem hlt]
        exact HF1.out
      case measure => simp [intOf]; omega
    · obtain rfl : j = xs.length := by omega
      rw [List.take_length] at hf
      have HB := Lib.hid hb
      have HF := Lib.hid (hf.done rfl (by simp only [maxLen]; omega))
      clear hb hf H
      go_wp2
      go_ret
      exact ⟨_, rfl, HF.out, HB.out⟩

set_option maxRecDepth 100000 in
set_option maxHeartbeats 2000000 in
theorem szCoreS_of (xs : List D) (hn : xs.length ≤ 140737488351232) (ih : ∀ x ∈ xs, SzA Try.prog 10 x) : SzO Try.prog 55 (.slice 7 xs) := by
  intro w v left h h0 h1
  obtain ⟨A, c, rfl, _, _, hrow⟩ := rd_slice1 h
  have IH := Lib.hid ih
  have H := Lib.hid hrow
  have TOT := Lib.hid (show D.bulk (.slice 7 xs) = xs.length + D.bulks xs by simp only [D.bulk])
  clear ih h hrow
  go_enter Try.func55, Try.ntmps55
  go_wp2_with fail
  · go_ret
    exact ⟨ret_int (szR_neg' (by rw [TOT.out]; omega)).symm, Below.refl _ _⟩
  · go_loopw [5, 1] (fun i l wr => ∃ j : Nat, j ≤ xs.length ∧ i = .int .i64 j ∧ l = .int .i64 (left - xs.length - D.bulks (xs.take j)) ∧ 0 ≤ left - xs.length - D.bulks (xs.take j) ∧ Below w.heap.size w wr) (fun i _ _ => xs.length - (intOf i).toNat)
    case atStart => exact ⟨0, Nat.zero_le _, rfl, by simp [D.bulks], by simp [D.bulks]; omega, Below.refl _ _⟩
    case round =>
      obtain ⟨j, hj, rfl, rfl, hl, hb⟩ := hrel
      by_cases hlt : j < xs.length
      · obtain ⟨b, off, cs, rfl, hcl, hrd, hc⟩ := (RdRow.below H.out (by omega) hb).get (List.getElem?_eq_getElem hlt)
        obtain ⟨u0, u1, u2, u3, u4, u5, u6, rfl⟩ := cells7 hcl
        have c0 : wr.cell? ⟨b, off + j * 7, none⟩ = some u0 := hc 0 _ rfl
        have c1 : wr.cell? ⟨b, off + j * 7 + 1, none⟩ = some u1 := hc 1 _ rfl
        have c2 : wr.cell? ⟨b, off + j * 7 + 2, none⟩ = some u2 := hc 2 _ rfl
        have c3 : wr.cell? ⟨b, off + j * 7 + 3, none⟩ = some u3 := hc 3 _ rfl
        have c4 : wr.cell? ⟨b, off + j * 7 + 4, none⟩ = some u4 := hc 4 _ rfl
        have c5 : wr.cell? ⟨b, off + j * 7 + 5, none⟩ = some u5 := hc 5 _ rfl
        have c6 : wr.cell? ⟨b, off + j * 7 + 6, none⟩ = some u6 := hc 6 _ rfl
        have CAL := Lib.hid (IH.out _ (List.getElem_mem hlt) wr _ (left - xs.length - D.bulks (xs.take j)) hrd hl (by omega))
        have HB := Lib.hid hb
        have T := Lib.hid (D.bulks_take xs j hlt)
        have T2 := Lib.hid (D.bulks_take_le xs (j + 1))
        clear hrd hcl hc hb
        go_wp2_with fail
        refine CAL.out.mono ?_
        rintro e w1 ⟨rfl, hb1⟩
        have HB1 := Lib.hid (HB.out.trans (hb1.mono HB.out.size))
        clear hb1 CAL
        by_cases hz : left - xs.length - D.bulks (xs.take j) < xs[j].bulk
        · rw [szR_neg' hz]
          go_wp2
          go_ret
          exact ⟨ret_int (szR_neg' (by rw [TOT.out]; have h6 := T.out; have h7 := T2.out; omega)).symm, HB1.out⟩
        · rw [szR_fit (by omega)]
          go_wp2
          go_roundw
          case rel => exact ⟨j + 1, by omega, by go_num, by rw [T.out]; go_num, by rw [T.out]; omega, HB1.out⟩
          case measure => simp [intOf]; omega
      · obtain rfl : j = xs.length := by omega
        rw [List.take_length] at hl ⊢
        have HB := Lib.hid hb
        clear hb
        go_wp2
        go_ret
        exact ⟨ret_int ((szR_fit (by rw [TOT.out]; omega)).trans (by rw [TOT.out] <;> omega)).symm, HB.out⟩

set_option maxRecDepth 100000 in
set_option maxHeartbeats 2000000 in
theorem eqCoreS_of (xs : List D) (hn : xs.length ≤ 140737488351232) (ih : ∀ x ∈ xs, EqA Try.prog 15 x) : EqO Try.prog 67 (.slice 7 xs) := by
  intro w v v' h h'
  obtain ⟨A, c, rfl, _, _, hrow⟩ := rd_slice1 h
  obtain ⟨A', c', rfl, _, _, hrow'⟩ := rd_slice1 h'
  have IH := Lib.hid ih
  have H := Lib.hid hrow
  have H' := Lib.hid hrow'
  clear ih h h' hrow hrow'
  go_enter Try.func67, Try.ntmps67
  go_wp2_with fail
  go_loopw [5] (fun i wr => ∃ j : Nat, j ≤ xs.length ∧ i = .int .i64 j ∧ Below w.heap.size w wr) (fun i _ => xs.length - (intOf i).toNat)
  case atStart => exact ⟨0, Nat.zero_le _, rfl, Below.refl _ _⟩
  case round =>
    obtain ⟨j, hj, rfl, hb⟩ := hrel
    by_cases hlt : j < xs.length
    · obtain ⟨b, off, cs, rfl, hcl, hrd, hc⟩ := (RdRow.below H.out (by omega) hb).get (List.getElem?_eq_getElem hlt)
      obtain ⟨b', off', cs', rfl, hcl', hrd', hc'⟩ := (RdRow.below H'.out (by omega) hb).get (List.getElem?_eq_getElem hlt)
      obtain ⟨u0, u1, u2, u3, u4, u5, u6, rfl⟩ := cells7 hcl
      obtain ⟨v0, v1, v2, v3, v4, v5, v6, rfl⟩ := cells7 hcl'
      have c0 : wr.cell? ⟨b, off + j * 7, none⟩ = some u0 := hc 0 _ rfl
      have d0 : wr.cell? ⟨b', off' + j * 7, none⟩ = some v0 := hc' 0 _ rfl
      have c1 : wr.cell? ⟨b, off + j * 7 + 1, none⟩ = some u1 := hc 1 _ rfl
      have d1 : wr.cell? ⟨b', off' + j * 7 + 1, none⟩ = some v1 := hc' 1 _ rfl
      have c2 : wr.cell? ⟨b, off + j * 7 + 2, none⟩ = some u2 := hc 2 _ rfl
      have d2 : wr.cell? ⟨b', off' + j * 7 + 2, none⟩ = some v2 := hc' 2 _ rfl
      have c3 : wr.cell? ⟨b, off + j * 7 + 3, none⟩ = some u3 := hc 3 _ rfl
      have d3 : wr.cell? ⟨b', off' + j * 7 + 3, none⟩ = some v3 := hc' 3 _ rfl
      have c4 : wr.cell? ⟨b, off + j * 7 + 4, none⟩ = some u4 := hc 4 _ rfl
      have d4 : wr.cell? ⟨b', off' + j * 7 + 4, none⟩ = some v4 := hc' 4 _ rfl
      have c5 : wr.cell? ⟨b, off + j * 7 + 5, none⟩ = some u5 := hc 5 _ rfl
      have d5 : wr.cell? ⟨b', off' + j * 7 + 5, none⟩ = some v5 := hc' 5 _ rfl
      have c6 : wr.cell? ⟨b, off + j * 7 + 6, none⟩ = some u6 := hc 6 _ rfl
      have d6 : wr.cell? ⟨b', off' + j * 7 + 6, none⟩ = some v6 := hc' 6 _ rfl
      have CAL := Lib.hid (IH.out _ (List.getElem_mem hlt) wr.drew _ _ (hrd.below (Below.refl _ _).drew) (hrd'.below (Below.refl _ _).drew))
      have HB := Lib.hid hb
      clear hrd hcl hc hb hrd' hcl' hc' H H'
      go_wp2_with fail
      go_still_tail 8, (by kernel_rfl)
      go_wp2_with fail
      refine CAL.out.mono ?_
      rintro e w1 ⟨rfl, hb1⟩
      have HB1 := Lib.hid (HB.out.drew.trans (hb1.mono HB.out.size))
      clear hb1 CAL
      go_wp2
      go_roundw
      case rel => exact ⟨j + 1, by omega, by go_num, HB1.out⟩
      case measure => simp [intOf]; omega
    · obtain rfl : j = xs.length := by omega
      have HB := Lib.hid hb
      clear hb
      go_wp2
      go_ret
      exact ⟨rfl, HB.out⟩

theorem infoCoreS : (Try.prog.info? 36).map (fun i => (i.zero, i.size, i.bytes)) = some (some (.agg #[.int .i64 0, .string ⟨#[]⟩, .bool false, .slice none 0 0, .slice none 0 0, .slice none 0 0, .slice none 0 0]), 7, 128) := by kernel_rfl
theorem infoZCoreS : (Try.prog.info? 36).map (·.size) = some 7 := by kernel_rfl
theorem infoLCoreS : (Try.prog.info? 29).map (·.size) = some 7 := by kernel_rfl
set_option maxRecDepth 100000 in
set_option maxHeartbeats 2000000 in
theorem toCoreS_of (xs : List D) (hn : xs.length ≤ 1048576) (hsz : ∀ x ∈ xs, x.n = 7) (ih : ∀ x ∈ xs, ToA Try.prog 12 x) : ToO Try.prog 61 (.slice 7 xs) := by
  intro w v h
  obtain ⟨A, c, rfl, _, _, hrow⟩ := rd_slice1 h
  have IH := Lib.hid ih
  have H := Lib.hid hrow
  clear ih h hrow
  obtain ⟨i0, hi, hz0, hz1, hz2⟩ := info_parts infoCoreS
  have hmk := run_make (P := Try.prog) w 33 36 i0 _ Try.underlying33 hi hz0 .i64 .i64 (xs.length : Int) (xs.length : Int) (by omega) (by omega) (by rw [hz2]; omega) (by omega)
  rw [hz1, Int.toNat_natCast] at hmk
  clear hi hz0 hz1 hz2
  go_enter Try.func61, Try.ntmps61
  go_wp2_with fail
  go_loopw [4] (fun i wr => ∃ j : Nat, j ≤ xs.length ∧ i = .int .i64 j ∧ Below w.heap.size w wr ∧ Fill w.heap.size wr w.heap.size 36 7 xs.length (xs.take j)) (fun i _ => xs.length - (intOf i).toNat)
  case atStart => exact ⟨0, Nat.zero_le _, rfl, (Below.refl _ _).alloc (Nat.le_refl _) _, by rw [List.take_zero]; exact Fill.start (Nat.le_refl _) (by simp [size_madeCells])⟩
  case round =>
    obtain ⟨j, hj, rfl, hb, hf⟩ := hrel
    clear hmk
    by_cases hlt : j < xs.length
    · have hk : (xs.take j).length = j := by rw [List.length_take]; omega
      obtain ⟨b, off, cs, rfl, hcl, hrd, hc⟩ := (RdRow.below H.out (by omega) hb).get (List.getElem?_eq_getElem hlt)
      have CAL := Lib.hid (IH.out _ (List.getElem_mem hlt) wr _ hrd)
      have HB := Lib.hid hb
      have HF := Lib.hid hf
      have HC := Lib.hid hc
      clear hrd hc hb hf H
      go_wp2_with (refine wpList_load_mid rfl 29 (.tmp 18) rfl b (off + j * 7) rfl cs _ HC.out Try.underlying29 rfl (by rw [hcl]; exact infoLCoreS) ?_)
      refine CAL.out.mono ?_
      rintro e w1 ⟨cs', rfl, hfr, hb1⟩
      have hl : cs'.length = 7 := hfr.len.trans (hsz _ (List.getElem_mem hlt))
      have HL := Lib.hid hl
      have TH := Lib.hid ((HF.out.below hb1).there hlt)
      have HF1 := Lib.hid (HF.out.store hb1 hfr hl (by rw [hk]; exact hlt))
      rw [hk] at HF1
      have HONE := Lib.hid hfr.all
      have HB1 := Lib.hid (below_setCells (Nat.le_refl w.heap.size) cs' (j * 7) (HB.out.trans (hb1.mono HB.out.size)))
      clear hb1 hfr hl hk CAL
      go_wp2_with (refine wpList_store_mid rfl 36 (.tmp 21) (.tmp 20) rfl w.heap.size (j * 7) cs'.toArray rfl rfl (by simpa [HL.out] using TH.out) (by simpa [HL.out] using infoZCoreS) HONE.out ?_)
      go_roundw
      case rel =>
        refine ⟨j + 1, by omega, by go_num, HB1.out, ?_⟩
        rw [List.take_succ_eq_append_getElem hlt]
        exact HF1.out
      case measure => simp [intOf]; omega
    · obtain rfl : j = xs.length := by omega
      rw [List.take_length] at hf
      have HB := Lib.hid hb
      have HF := Lib.hid (hf.done rfl (by simp only [maxLen]; omega))
      clear hb hf H
      go_wp2
      go_ret
      exact ⟨_, rfl, HF.out, HB.out⟩

end Go.Proofs.Ythidbmjdphfddaa
