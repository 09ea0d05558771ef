/- What the laws' own helpers do with Scheme; no condition. -/
import Derived.Test.YtifmnijdaboenaaHs
import Derived.Test.YtifmnijdaboenaaProg
import Derived.Test.YtifmnijdaboenaaFamType
import Derived.Test.YtifmnijdaboenaaFamPred
namespace Go.Proofs.Ytifmnijdaboenaa
open Go.RowKit
set_option linter.unusedVariables false
set_option linter.unusedSimpArgs false

theorem openScheme {iCount : Int} {xPreds : List D} {iTypeKind : Int} {iTypeId : Int} {sTypeName : ByteArray} {xTypeArgs : List D} {w : World} {cs : List Value} (h : Rd w (.struct [.int .i64 iCount, .slice 2 xPreds, .struct [.int .i64 iTypeKind, .int .i64 iTypeId, .str sTypeName, .slice 4 xTypeArgs]]) cs) : ∃ (APreds : Option Addr) (cPreds : Nat) (ATypeArgs : Option Addr) (cTypeArgs : Nat), cs = [.int .i64 iCount, .slice APreds xPreds.length cPreds, .int .i64 iTypeKind, .int .i64 iTypeId, .string sTypeName, .slice ATypeArgs xTypeArgs.length cTypeArgs] ∧ Rd w (D.slice 2 xPreds) [.slice APreds xPreds.length cPreds] ∧ Rd w (D.struct [.int .i64 iTypeKind, .int .i64 iTypeId, .str sTypeName, .slice 4 xTypeArgs]) [.int .i64 iTypeKind, .int .i64 iTypeId, .string sTypeName, .slice ATypeArgs xTypeArgs.length cTypeArgs] := by
  rw [rd_struct] at h
  simp only [rdF_cons, rdF_nil, rd_int, rd_bool, rd_str] at h
  obtain ⟨e0, r0, rfl, rfl, e1, r1, rfl, hPreds, e2, r2, rfl, hType, rfl⟩ := h
  have kPreds := hPreds
  obtain ⟨APreds, cPreds, rfl, _⟩ := rd_slice hPreds
  have kType := hType
  obtain ⟨ATypeArgs, cTypeArgs, rfl, _⟩ := openType hType
  exact ⟨APreds, cPreds, ATypeArgs, cTypeArgs, by simp, kPreds, kType⟩

set_option maxRecDepth 100000 in
theorem szScheme_of (iCount : Int) (xPreds : List D) (iTypeKind : Int) (iTypeId : Int) (sTypeName : ByteArray) (xTypeArgs : List D) (ihPreds : SzO Try.prog 157 (D.slice 2 xPreds)) (ihType : SzA Try.prog 173 (D.struct [.int .i64 iTypeKind, .int .i64 iTypeId, .str sTypeName, .slice 4 xTypeArgs])) : SzA Try.prog 156 (.struct [.int .i64 iCount, .slice 2 xPreds, .struct [.int .i64 iTypeKind, .int .i64 iTypeId, .str sTypeName, .slice 4 xTypeArgs]]) := by
  intro w cs left h h0 h1
  obtain ⟨APreds, cPreds, ATypeArgs, cTypeArgs, rfl, rdPreds, rdType⟩ := openScheme h
  have TOT := Lib.hid (show D.bulk (.struct [.int .i64 iCount, .slice 2 xPreds, .struct [.int .i64 iTypeKind, .int .i64 iTypeId, .str sTypeName, .slice 4 xTypeArgs]]) = (D.slice 2 xPreds).bulk + (D.struct [.int .i64 iTypeKind, .int .i64 iTypeId, .str sTypeName, .slice 4 xTypeArgs]).bulk by simp only [D.bulk, D.bulks] <;> omega)
  have HB0 := Lib.hid ((Below.refl w.heap.size w).alloc (Nat.le_refl _) (.cells #[.int .i64 iCount, .slice APreds xPreds.length cPreds, .int .i64 iTypeKind, .int .i64 iTypeId, .string sTypeName, .slice ATypeArgs xTypeArgs.length cTypeArgs] 178))
  have BK0 := Lib.hid (blk_new w (.cells #[.int .i64 iCount, .slice APreds xPreds.length cPreds, .int .i64 iTypeKind, .int .i64 iTypeId, .string sTypeName, .slice ATypeArgs xTypeArgs.length cTypeArgs] 178))
  have RDPreds := Lib.hid rdPreds
  have IHPreds := Lib.hid ihPreds
  have RDType := Lib.hid rdType
  have IHType := Lib.hid ihType
  clear h rdPreds ihPreds rdType ihType
  go_enter Try.func156, Try.ntmps156
  go_wp2_with fail
  have hlPreds : 0 ≤ left := by omega
  refine (IHPreds.out _ _ (left) (RDPreds.out.below HB0.out) hlPreds (by omega)).mono ?_
  rintro e w1 ⟨rfl, hb⟩
  have HB1 := Lib.hid (HB0.out.trans (hb.mono HB0.out.size))
  have BK1 := Lib.hid (blk_below BK0.out hb)
  clear hb
  have z1_0 := blk_cell BK1.out 0
  have z1_1 := blk_cell BK1.out 1
  have z1_2 := blk_cell BK1.out 2
  have z1_3 := blk_cell BK1.out 3
  have z1_4 := blk_cell BK1.out 4
  have z1_5 := blk_cell BK1.out 5
  simp at z1_0 z1_1 z1_2 z1_3 z1_4 z1_5
  by_cases hzPreds : left < ((D.slice 2 xPreds).bulk : Int)
  · rw [szR_neg' hzPreds]
    go_wp2
    go_ret
    exact ⟨ret_int (szR_neg' (by rw [TOT.out]; omega)).symm, HB1.out⟩
  · rw [szR_fit (by omega)]
    go_wp2_with fail
    have hlType : 0 ≤ left - ((D.slice 2 xPreds).bulk : Int) := by omega
    refine (IHType.out _ _ (left - ((D.slice 2 xPreds).bulk : Int)) (RDType.out.below HB1.out) hlType (by omega)).mono ?_
    rintro e w2 ⟨rfl, hb⟩
    have HB2 := Lib.hid (HB1.out.trans (hb.mono HB1.out.size))
    have BK2 := Lib.hid (blk_below BK1.out hb)
    clear hb
    have z2_0 := blk_cell BK2.out 0
    have z2_1 := blk_cell BK2.out 1
    have z2_2 := blk_cell BK2.out 2
    have z2_3 := blk_cell BK2.out 3
    have z2_4 := blk_cell BK2.out 4
    have z2_5 := blk_cell BK2.out 5
    simp at z2_0 z2_1 z2_2 z2_3 z2_4 z2_5
    by_cases hzType : left - ((D.slice 2 xPreds).bulk : Int) < ((D.struct [.int .i64 iTypeKind, .int .i64 iTypeId, .str sTypeName, .slice 4 xTypeArgs]).bulk : Int)
    · rw [szR_neg' hzType]
      go_wp2
      go_ret
      exact ⟨ret_int (szR_neg' (by rw [TOT.out]; omega)).symm, HB2.out⟩
    · rw [szR_fit (by omega)]
      go_wp2_with fail
      go_ret
      exact ⟨ret_int ((szR_fit (by rw [TOT.out]; omega)).trans (by rw [TOT.out] <;> omega)).symm, HB2.out⟩

set_option maxRecDepth 100000 in
theorem eqScheme_of (iCount : Int) (xPreds : List D) (iTypeKind : Int) (iTypeId : Int) (sTypeName : ByteArray) (xTypeArgs : List D) (ihPreds : EqO Try.prog 87 (D.slice 2 xPreds)) (ihType : EqA Try.prog 126 (D.struct [.int .i64 iTypeKind, .int .i64 iTypeId, .str sTypeName, .slice 4 xTypeArgs])) : EqA Try.prog 153 (.struct [.int .i64 iCount, .slice 2 xPreds, .struct [.int .i64 iTypeKind, .int .i64 iTypeId, .str sTypeName, .slice 4 xTypeArgs]]) := by
  intro w cs cs' h h'
  obtain ⟨APreds, cPreds, ATypeArgs, cTypeArgs, rfl, rdPreds, rdType⟩ := openScheme h
  obtain ⟨APreds', cPreds', ATypeArgs', cTypeArgs', rfl, rdPreds', rdType'⟩ := openScheme h'
  have HB0 := Lib.hid (((Below.refl w.heap.size w).alloc (Nat.le_refl _) (.cells #[.int .i64 iCount, .slice APreds xPreds.length cPreds, .int .i64 iTypeKind, .int .i64 iTypeId, .string sTypeName, .slice ATypeArgs xTypeArgs.length cTypeArgs] 161)).alloc (by simp) (.cells #[.int .i64 iCount, .slice APreds' xPreds.length cPreds', .int .i64 iTypeKind, .int .i64 iTypeId, .string sTypeName, .slice ATypeArgs' xTypeArgs.length cTypeArgs'] 161))
  have BK0 := Lib.hid (blk_old (blk_new w (.cells #[.int .i64 iCount, .slice APreds xPreds.length cPreds, .int .i64 iTypeKind, .int .i64 iTypeId, .string sTypeName, .slice ATypeArgs xTypeArgs.length cTypeArgs] 161)) (.cells #[.int .i64 iCount, .slice APreds' xPreds.length cPreds', .int .i64 iTypeKind, .int .i64 iTypeId, .string sTypeName, .slice ATypeArgs' xTypeArgs.length cTypeArgs'] 161))
  have BJ0 := Lib.hid (blk_new (w.alloc (.cells #[.int .i64 iCount, .slice APreds xPreds.length cPreds, .int .i64 iTypeKind, .int .i64 iTypeId, .string sTypeName, .slice ATypeArgs xTypeArgs.length cTypeArgs] 161)) (.cells #[.int .i64 iCount, .slice APreds' xPreds.length cPreds', .int .i64 iTypeKind, .int .i64 iTypeId, .string sTypeName, .slice ATypeArgs' xTypeArgs.length cTypeArgs'] 161))
  have RDPreds := Lib.hid rdPreds
  have RDPreds' := Lib.hid rdPreds'
  have IHPreds := Lib.hid ihPreds
  have RDType := Lib.hid rdType
  have RDType' := Lib.hid rdType'
  have IHType := Lib.hid ihType
  clear h h' rdPreds rdPreds' ihPreds rdType rdType' ihType
  go_enter Try.func153, Try.ntmps153
  go_wp2_with fail
  refine (IHPreds.out _ _ _ (RDPreds.out.below HB0.out) (RDPreds'.out.below HB0.out)).mono ?_
  rintro e w1 ⟨rfl, hb⟩
  have HB1 := Lib.hid (HB0.out.trans (hb.mono HB0.out.size))
  have BK1 := Lib.hid (blk_below BK0.out hb)
  have BJ1 := Lib.hid (blk_below BJ0.out hb)
  clear hb
  have z1_0 := blk_cell BK1.out 0
  have z1_1 := blk_cell BK1.out 1
  have z1_2 := blk_cell BK1.out 2
  have z1_3 := blk_cell BK1.out 3
  have z1_4 := blk_cell BK1.out 4
  have z1_5 := blk_cell BK1.out 5
  have y1_0 := blk_cell BJ1.out 0
  have y1_1 := blk_cell BJ1.out 1
  have y1_2 := blk_cell BJ1.out 2
  have y1_3 := blk_cell BJ1.out 3
  have y1_4 := blk_cell BJ1.out 4
  have y1_5 := blk_cell BJ1.out 5
  simp at z1_0 z1_1 z1_2 z1_3 z1_4 z1_5 y1_0 y1_1 y1_2 y1_3 y1_4 y1_5
  go_wp2_with fail
  refine (IHType.out _ _ _ (RDType.out.below HB1.out) (RDType'.out.below HB1.out)).mono ?_
  rintro e w2 ⟨rfl, hb⟩
  have HB2 := Lib.hid (HB1.out.trans (hb.mono HB1.out.size))
  have BK2 := Lib.hid (blk_below BK1.out hb)
  have BJ2 := Lib.hid (blk_below BJ1.out hb)
  clear hb
  have z2_0 := blk_cell BK2.out 0
  have z2_1 := blk_cell BK2.out 1
  have z2_2 := blk_cell BK2.out 2
  have z2_3 := blk_cell BK2.out 3
  have z2_4 := blk_cell BK2.out 4
  have z2_5 := blk_cell BK2.out 5
  have y2_0 := blk_cell BJ2.out 0
  have y2_1 := blk_cell BJ2.out 1
  have y2_2 := blk_cell BJ2.out 2
  have y2_3 := blk_cell BJ2.out 3
  have y2_4 := blk_cell BJ2.out 4
  have y2_5 := blk_cell BJ2.out 5
  simp at z2_0 z2_1 z2_2 z2_3 z2_4 z2_5 y2_0 y2_1 y2_2 y2_3 y2_4 y2_5
  clear z1_0 y1_0 z1_1 y1_1 z1_2 y1_2 z1_3 y1_3 z1_4 y1_4 z1_5 y1_5
  go_wp2
  go_ret
  exact ⟨rfl, HB2.out⟩

set_option maxRecDepth 100000 in
theorem toScheme_of (iCount : Int) (xPreds : List D) (iTypeKind : Int) (iTypeId : Int) (sTypeName : ByteArray) (xTypeArgs : List D) (ihPreds : ToO Try.prog 161 (D.slice 2 xPreds)) (ihType : ToA Try.prog 175 (D.struct [.int .i64 iTypeKind, .int .i64 iTypeId, .str sTypeName, .slice 4 xTypeArgs])) : ToA Try.prog 160 (.struct [.int .i64 iCount, .slice 2 xPreds, .struct [.int .i64 iTypeKind, .int .i64 iTypeId, .str sTypeName, .slice 4 xTypeArgs]]) := by
  intro w cs h
  obtain ⟨APreds, cPreds, ATypeArgs, cTypeArgs, rfl, rdPreds, rdType⟩ := openScheme h
  have RDPreds := Lib.hid rdPreds
  have IHPreds := Lib.hid ihPreds
  have RDType := Lib.hid rdType
  have IHType := Lib.hid ihType
  clear h rdPreds ihPreds rdType ihType
  go_enter Try.func160, Try.ntmps160
  go_wp2_with fail
  have HB0 := Lib.hid ((((Below.refl w.heap.size w).alloc (Nat.le_refl _) (.cells #[.int .i64 iCount, .slice APreds xPreds.length cPreds, .int .i64 iTypeKind, .int .i64 iTypeId, .string sTypeName, .slice ATypeArgs xTypeArgs.length cTypeArgs] 178)).alloc (by simp) (.cells #[.int .i64 0, .slice none 0 0, .int .i64 0, .int .i64 0, .string ⟨#[]⟩, .slice none 0 0] 161)).alloc (by simp; omega) (.cells #[.int .i64 iCount, .slice none 0 0, .int .i64 0, .int .i64 0, .string ⟨#[]⟩, .slice none 0 0] 161))
  have HS0 := Lib.hid (show (((w.alloc (.cells #[.int .i64 iCount, .slice APreds xPreds.length cPreds, .int .i64 iTypeKind, .int .i64 iTypeId, .string sTypeName, .slice ATypeArgs xTypeArgs.length cTypeArgs] 178)).alloc (.cells #[.int .i64 0, .slice none 0 0, .int .i64 0, .int .i64 0, .string ⟨#[]⟩, .slice none 0 0] 161)).alloc (.cells #[.int .i64 iCount, .slice none 0 0, .int .i64 0, .int .i64 0, .string ⟨#[]⟩, .slice none 0 0] 161)).heap.size = w.heap.size + 3 by simp)
  have BA0 := Lib.hid (blk_old (blk_old (blk_new w (.cells #[.int .i64 iCount, .slice APreds xPreds.length cPreds, .int .i64 iTypeKind, .int .i64 iTypeId, .string sTypeName, .slice ATypeArgs xTypeArgs.length cTypeArgs] 178)) (.cells #[.int .i64 0, .slice none 0 0, .int .i64 0, .int .i64 0, .string ⟨#[]⟩, .slice none 0 0] 161)) (.cells #[.int .i64 iCount, .slice none 0 0, .int .i64 0, .int .i64 0, .string ⟨#[]⟩, .slice none 0 0] 161))
  have BR0 := Lib.hid (blk_old (blk_new_g (w := w.alloc (.cells #[.int .i64 iCount, .slice APreds xPreds.length cPreds, .int .i64 iTypeKind, .int .i64 iTypeId, .string sTypeName, .slice ATypeArgs xTypeArgs.length cTypeArgs] 178)) (g := w.heap.size + 1) (o := (.cells #[.int .i64 0, .slice none 0 0, .int .i64 0, .int .i64 0, .string ⟨#[]⟩, .slice none 0 0] 161)) (by simp)) (.cells #[.int .i64 iCount, .slice none 0 0, .int .i64 0, .int .i64 0, .string ⟨#[]⟩, .slice none 0 0] 161))
  have BO0 := Lib.hid (blk_new_g (w := (w.alloc (.cells #[.int .i64 iCount, .slice APreds xPreds.length cPreds, .int .i64 iTypeKind, .int .i64 iTypeId, .string sTypeName, .slice ATypeArgs xTypeArgs.length cTypeArgs] 178)).alloc (.cells #[.int .i64 0, .slice none 0 0, .int .i64 0, .int .i64 0, .string ⟨#[]⟩, .slice none 0 0] 161)) (g := w.heap.size + 2) (o := (.cells #[.int .i64 iCount, .slice none 0 0, .int .i64 0, .int .i64 0, .string ⟨#[]⟩, .slice none 0 0] 161)) (by simp))
  refine (IHPreds.out _ _ (RDPreds.out.below HB0.out)).mono ?_
  rintro e w1 ⟨vPreds, rfl, hfr, hb⟩
  obtain ⟨BPreds, dPreds, rfl, _, _, _⟩ := hfr.slice
  have hr := hfr.range
  have hsz := hb.size
  rw [HS0.out] at hr hsz
  have FRPreds := Lib.hid hr
  have SY1 := Lib.hid hsz
  have SZ1 := Lib.hid (show w.heap.size + 3 ≤ w1.heap.size by omega)
  have HB1 := Lib.hid (HB0.out.trans (hb.mono HB0.out.size))
  have BA1 := Lib.hid (blk_below BA0.out hb)
  have BR1 := Lib.hid (blk_below BR0.out hb)
  have BO1 := Lib.hid (blk_below BO0.out hb)
  clear hb hfr hr hsz
  have za1_0 := blk_cell BA1.out 0
  have za1_1 := blk_cell BA1.out 1
  have za1_2 := blk_cell BA1.out 2
  have za1_3 := blk_cell BA1.out 3
  have za1_4 := blk_cell BA1.out 4
  have za1_5 := blk_cell BA1.out 5
  have zo1_0 := blk_cell BO1.out 0
  have zo1_f0 := blk_frozen BO1.out 0
  have zo1_1 := blk_cell BO1.out 1
  have zo1_f1 := blk_frozen BO1.out 1
  have zo1_2 := blk_cell BO1.out 2
  have zo1_f2 := blk_frozen BO1.out 2
  have zo1_3 := blk_cell BO1.out 3
  have zo1_f3 := blk_frozen BO1.out 3
  have zo1_4 := blk_cell BO1.out 4
  have zo1_f4 := blk_frozen BO1.out 4
  have zo1_5 := blk_cell BO1.out 5
  have zo1_f5 := blk_frozen BO1.out 5
  simp at za1_0 za1_1 za1_2 za1_3 za1_4 za1_5 zo1_0 zo1_f0 zo1_1 zo1_f1 zo1_2 zo1_f2 zo1_3 zo1_f3 zo1_4 zo1_f4 zo1_5 zo1_f5
  have HB1 := Lib.hid (HB1.out.setCell (p := ⟨w.heap.size + 2, 1, none⟩) (by simp) (.slice BPreds xPreds.length dPreds))
  have BA1 := Lib.hid (blk_far BA1.out (p := ⟨w.heap.size + 2, 1, none⟩) (by simp) (.slice BPreds xPreds.length dPreds))
  have BR1 := Lib.hid (blk_far BR1.out (p := ⟨w.heap.size + 2, 1, none⟩) (by simp) (.slice BPreds xPreds.length dPreds))
  have BO1 := Lib.hid ((blk_set BO1.out 1 (.slice BPreds xPreds.length dPreds)).trans (show _ = some (Obj.cells #[.int .i64 iCount, .slice BPreds xPreds.length dPreds, .int .i64 0, .int .i64 0, .string ⟨#[]⟩, .slice none 0 0] 161 (0, 0)) from rfl))
  have FRPreds := Lib.hid (FRPreds.out.set (p := ⟨w.heap.size + 2, 1, none⟩) (by simp) (.slice BPreds xPreds.length dPreds))
  go_wp2_with fail
  refine (IHType.out _ _ (RDType.out.below HB1.out)).mono ?_
  rintro e w2 ⟨vType, rfl, hfr, hb⟩
  obtain ⟨BTypeArgs, dTypeArgs, rfl, _⟩ := openType hfr.rd
  have hr := hfr.range
  have hsz := hb.size
  simp only [sz_setCell] at hr hsz
  have FRType := Lib.hid hr
  have SY2 := Lib.hid hsz
  have SZ2 := Lib.hid (show w.heap.size + 3 ≤ w2.heap.size by have := SZ1.out; omega)
  have FRPreds := Lib.hid (FRPreds.out.below hb)
  have HB2 := Lib.hid (HB1.out.trans (hb.mono HB1.out.size))
  have BA2 := Lib.hid (blk_below BA1.out hb)
  have BR2 := Lib.hid (blk_below BR1.out hb)
  have BO2 := Lib.hid (blk_below BO1.out hb)
  clear hb hfr hr hsz
  have za2_0 := blk_cell BA2.out 0
  have za2_1 := blk_cell BA2.out 1
  have za2_2 := blk_cell BA2.out 2
  have za2_3 := blk_cell BA2.out 3
  have za2_4 := blk_cell BA2.out 4
  have za2_5 := blk_cell BA2.out 5
  have zo2_0 := blk_cell BO2.out 0
  have zo2_f0 := blk_frozen BO2.out 0
  have zo2_1 := blk_cell BO2.out 1
  have zo2_f1 := blk_frozen BO2.out 1
  have zo2_2 := blk_cell BO2.out 2
  have zo2_f2 := blk_frozen BO2.out 2
  have zo2_3 := blk_cell BO2.out 3
  have zo2_f3 := blk_frozen BO2.out 3
  have zo2_4 := blk_cell BO2.out 4
  have zo2_f4 := blk_frozen BO2.out 4
  have zo2_5 := blk_cell BO2.out 5
  have zo2_f5 := blk_frozen BO2.out 5
  have zr2_0 := blk_cell BR2.out 0
  have zr2_f0 := blk_frozen BR2.out 0
  have zr2_1 := blk_cell BR2.out 1
  have zr2_f1 := blk_frozen BR2.out 1
  have zr2_2 := blk_cell BR2.out 2
  have zr2_f2 := blk_frozen BR2.out 2
  have zr2_3 := blk_cell BR2.out 3
  have zr2_f3 := blk_frozen BR2.out 3
  have zr2_4 := blk_cell BR2.out 4
  have zr2_f4 := blk_frozen BR2.out 4
  have zr2_5 := blk_cell BR2.out 5
  have zr2_f5 := blk_frozen BR2.out 5
  simp at za2_0 za2_1 za2_2 za2_3 za2_4 za2_5 zo2_0 zo2_f0 zo2_1 zo2_f1 zo2_2 zo2_f2 zo2_3 zo2_f3 zo2_4 zo2_f4 zo2_5 zo2_f5 zr2_0 zr2_f0 zr2_1 zr2_f1 zr2_2 zr2_f2 zr2_3 zr2_f3 zr2_4 zr2_f4 zr2_5 zr2_f5
  clear za1_0 zo1_0 zo1_f0 za1_1 zo1_1 zo1_f1 za1_2 zo1_2 zo1_f2 za1_3 zo1_3 zo1_f3 za1_4 zo1_4 zo1_f4 za1_5 zo1_5 zo1_f5
  have HB2 := Lib.hid ((((HB2.out.setCell (p := ⟨w.heap.size + 2, 2, none⟩) (by simp) (.int .i64 iTypeKind)).setCell (p := ⟨w.heap.size + 2, 3, none⟩) (by simp) (.int .i64 iTypeId)).setCell (p := ⟨w.heap.size + 2, 4, none⟩) (by simp) (.string sTypeName)).setCell (p := ⟨w.heap.size + 2, 5, none⟩) (by simp) (.slice BTypeArgs xTypeArgs.length dTypeArgs))
  have BA2 := Lib.hid (blk_far (blk_far (blk_far (blk_far BA2.out (p := ⟨w.heap.size + 2, 2, none⟩) (by simp) (.int .i64 iTypeKind)) (p := ⟨w.heap.size + 2, 3, none⟩) (by simp) (.int .i64 iTypeId)) (p := ⟨w.heap.size + 2, 4, none⟩) (by simp) (.string sTypeName)) (p := ⟨w.heap.size + 2, 5, none⟩) (by simp) (.slice BTypeArgs xTypeArgs.length dTypeArgs))
  have BR2 := Lib.hid (blk_far (blk_far (blk_far (blk_far BR2.out (p := ⟨w.heap.size + 2, 2, none⟩) (by simp) (.int .i64 iTypeKind)) (p := ⟨w.heap.size + 2, 3, none⟩) (by simp) (.int .i64 iTypeId)) (p := ⟨w.heap.size + 2, 4, none⟩) (by simp) (.string sTypeName)) (p := ⟨w.heap.size + 2, 5, none⟩) (by simp) (.slice BTypeArgs xTypeArgs.length dTypeArgs))
  have BO2 := Lib.hid ((blk_set (blk_set (blk_set (blk_set BO2.out 2 (.int .i64 iTypeKind)) 3 (.int .i64 iTypeId)) 4 (.string sTypeName)) 5 (.slice BTypeArgs xTypeArgs.length dTypeArgs)).trans (show _ = some (Obj.cells #[.int .i64 iCount, .slice BPreds xPreds.length dPreds, .int .i64 iTypeKind, .int .i64 iTypeId, .string sTypeName, .slice BTypeArgs xTypeArgs.length dTypeArgs] 161 (0, 0)) from rfl))
  have FRPreds := Lib.hid ((((FRPreds.out.set (p := ⟨w.heap.size + 2, 2, none⟩) (by simp) (.int .i64 iTypeKind)).set (p := ⟨w.heap.size + 2, 3, none⟩) (by simp) (.int .i64 iTypeId)).set (p := ⟨w.heap.size + 2, 4, none⟩) (by simp) (.string sTypeName)).set (p := ⟨w.heap.size + 2, 5, none⟩) (by simp) (.slice BTypeArgs xTypeArgs.length dTypeArgs))
  have FRType := Lib.hid ((((FRType.out.set (p := ⟨w.heap.size + 2, 2, none⟩) (by have := SZ1.out; simp; omega) (.int .i64 iTypeKind)).set (p := ⟨w.heap.size + 2, 3, none⟩) (by have := SZ1.out; simp; omega) (.int .i64 iTypeId)).set (p := ⟨w.heap.size + 2, 4, none⟩) (by have := SZ1.out; simp; omega) (.string sTypeName)).set (p := ⟨w.heap.size + 2, 5, none⟩) (by have := SZ1.out; simp; omega) (.slice BTypeArgs xTypeArgs.length dTypeArgs))
  go_wp2
  have HB2 := Lib.hid ((((((HB2.out.setCell (p := ⟨w.heap.size + 1, 0, none⟩) (by simp) (.int .i64 iCount)).setCell (p := ⟨w.heap.size + 1, 1, none⟩) (by simp) (.slice BPreds xPreds.length dPreds)).setCell (p := ⟨w.heap.size + 1, 2, none⟩) (by simp) (.int .i64 iTypeKind)).setCell (p := ⟨w.heap.size + 1, 3, none⟩) (by simp) (.int .i64 iTypeId)).setCell (p := ⟨w.heap.size + 1, 4, none⟩) (by simp) (.string sTypeName)).setCell (p := ⟨w.heap.size + 1, 5, none⟩) (by simp) (.slice BTypeArgs xTypeArgs.length dTypeArgs))
  have FRPreds := Lib.hid ((((((FRPreds.out.set (p := ⟨w.heap.size + 1, 0, none⟩) (by simp) (.int .i64 iCount)).set (p := ⟨w.heap.size + 1, 1, none⟩) (by simp) (.slice BPreds xPreds.length dPreds)).set (p := ⟨w.heap.size + 1, 2, none⟩) (by simp) (.int .i64 iTypeKind)).set (p := ⟨w.heap.size + 1, 3, none⟩) (by simp) (.int .i64 iTypeId)).set (p := ⟨w.heap.size + 1, 4, none⟩) (by simp) (.string sTypeName)).set (p := ⟨w.heap.size + 1, 5, none⟩) (by simp) (.slice BTypeArgs xTypeArgs.length dTypeArgs))
  have FRType := Lib.hid ((((((FRType.out.set (p := ⟨w.heap.size + 1, 0, none⟩) (by have := SZ1.out; simp; omega) (.int .i64 iCount)).set (p := ⟨w.heap.size + 1, 1, none⟩) (by have := SZ1.out; simp; omega) (.slice BPreds xPreds.length dPreds)).set (p := ⟨w.heap.size + 1, 2, none⟩) (by have := SZ1.out; simp; omega) (.int .i64 iTypeKind)).set (p := ⟨w.heap.size + 1, 3, none⟩) (by have := SZ1.out; simp; omega) (.int .i64 iTypeId)).set (p := ⟨w.heap.size + 1, 4, none⟩) (by have := SZ1.out; simp; omega) (.string sTypeName)).set (p := ⟨w.heap.size + 1, 5, none⟩) (by have := SZ1.out; simp; omega) (.slice BTypeArgs xTypeArgs.length dTypeArgs))
  refine bodyPost_ret (v := .agg #[.int .i64 iCount, .slice BPreds xPreds.length dPreds, .int .i64 iTypeKind, .int .i64 iTypeId, .string sTypeName, .slice BTypeArgs xTypeArgs.length dTypeArgs]) (by simp [results, Try.results160, go_sem, zr2_0, zr2_1, zr2_2, zr2_3, zr2_4, zr2_5]) rfl ⟨[.int .i64 iCount, .slice BPreds xPreds.length dPreds, .int .i64 iTypeKind, .int .i64 iTypeId, .string sTypeName, .slice BTypeArgs xTypeArgs.length dTypeArgs], rfl, ?_, HB2.out⟩
  rw [fr_struct]
  have sy1 := SY1.out
  have sy2 := SY2.out
  exact FrFR.fr (B := w.heap.size + 3) (frFR_int (frFR_cons (B2 := w1.heap.size) (C := w2.heap.size) FRPreds.out (frFR_cons (B2 := w2.heap.size) (C := w2.heap.size) FRType.out (frFR_nil w2.heap.size w2.heap.size _) (Nat.le_refl _) (by omega) (by omega)) (Nat.le_refl _) (by omega) (by omega))) (by omega)

end Go.Proofs.Ytifmnijdaboenaa
