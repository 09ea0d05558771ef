/- What the laws' own helpers do with ConInfo,[]ConInfo,DataInfo,[]DataInfo,MethodInfo,[]MethodInfo,ClassInfo,[]ClassInfo,InstInfo,[]InstInfo,Tables; no condition. -/
import Derived.Test.YtifmnijdaboenaaHs
import Derived.Test.YtifmnijdaboenaaProg
import Derived.Test.YtifmnijdaboenaaFamStr
import Derived.Test.YtifmnijdaboenaaFamType
import Derived.Test.YtifmnijdaboenaaFamPred
import Derived.Test.YtifmnijdaboenaaFamScheme
namespace Go.Proofs.Ytifmnijdaboenaa
open Go.RowKit
set_option linter.unusedVariables false
set_option linter.unusedSimpArgs false

theorem openConInfo {sName : ByteArray} {sData : ByteArray} {iTag : Int} {iVars : Int} {xFields : List D} {w : World} {cs : List Value} (h : Rd w (.struct [.str sName, .str sData, .int .i64 iTag, .int .i64 iVars, .slice 4 xFields]) cs) : ∃ (AFields : Option Addr) (cFields : Nat), cs = [.string sName, .string sData, .int .i64 iTag, .int .i64 iVars, .slice AFields xFields.length cFields] ∧ Rd w (D.slice 4 xFields) [.slice AFields xFields.length cFields] := by
  rw [rd_struct] at h
  simp only [rdF_cons, rdF_nil, rd_int, rd_bool, rd_str] at h
  obtain ⟨e0, r0, rfl, rfl, e1, r1, rfl, rfl, e2, r2, rfl, rfl, e3, r3, rfl, rfl, e4, r4, rfl, hFields, rfl⟩ := h
  have kFields := hFields
  obtain ⟨AFields, cFields, rfl, _⟩ := rd_slice hFields
  exact ⟨AFields, cFields, by simp, kFields⟩

set_option maxRecDepth 100000 in
theorem szConInfo_of (sName : ByteArray) (sData : ByteArray) (iTag : Int) (iVars : Int) (xFields : List D) (hsName : sName.size ≤ 140737488351232) (hsData : sData.size ≤ 140737488351232) (ihFields : SzO Try.prog 154 (D.slice 4 xFields)) : SzA Try.prog 115 (.struct [.str sName, .str sData, .int .i64 iTag, .int .i64 iVars, .slice 4 xFields]) := by
  intro w cs left h h0 h1
  obtain ⟨AFields, cFields, rfl, rdFields⟩ := openConInfo h
  have TOT := Lib.hid (show D.bulk (.struct [.str sName, .str sData, .int .i64 iTag, .int .i64 iVars, .slice 4 xFields]) = sName.size + sData.size + (D.slice 4 xFields).bulk by simp only [D.bulk, D.bulks] <;> omega)
  have HB0 := Lib.hid ((Below.refl w.heap.size w).alloc (Nat.le_refl _) (.cells #[.string sName, .string sData, .int .i64 iTag, .int .i64 iVars, .slice AFields xFields.length cFields] 170))
  have BK0 := Lib.hid (blk_new w (.cells #[.string sName, .string sData, .int .i64 iTag, .int .i64 iVars, .slice AFields xFields.length cFields] 170))
  have RDFields := Lib.hid rdFields
  have IHFields := Lib.hid ihFields
  clear h rdFields ihFields
  go_enter Try.func115, Try.ntmps115
  go_wp2_with fail
  · go_ret
    exact ⟨ret_int (szR_neg' (by rw [TOT.out]; omega)).symm, HB0.out⟩
  · go_ret
    exact ⟨ret_int (szR_neg' (by rw [TOT.out]; omega)).symm, HB0.out⟩
  · skip
    have hlFields : 0 ≤ left - (sName.size : Int) - (sData.size : Int) := by omega
    refine (IHFields.out _ _ (left - (sName.size : Int) - (sData.size : Int)) (RDFields.out.below HB0.out) hlFields (by omega)).mono ?_
    rintro e w1 ⟨rfl, hb⟩
    have HB1 := Lib.hid (HB0.out.trans (hb.mono HB0.out.size))
    have BK1 := Lib.hid (blk_below BK0.out hb)
    clear hb
    have z1_0 := blk_cell BK1.out 0
    have z1_1 := blk_cell BK1.out 1
    have z1_2 := blk_cell BK1.out 2
    have z1_3 := blk_cell BK1.out 3
    have z1_4 := blk_cell BK1.out 4
    simp at z1_0 z1_1 z1_2 z1_3 z1_4
    by_cases hzFields : left - (sName.size : Int) - (sData.size : Int) < ((D.slice 4 xFields).bulk : Int)
    · rw [szR_neg' hzFields]
      go_wp2
      go_ret
      exact ⟨ret_int (szR_neg' (by rw [TOT.out]; omega)).symm, HB1.out⟩
    · rw [szR_fit (by omega)]
      go_wp2_with fail
      go_ret
      exact ⟨ret_int ((szR_fit (by rw [TOT.out]; omega)).trans (by rw [TOT.out] <;> omega)).symm, HB1.out⟩

set_option maxRecDepth 100000 in
theorem eqConInfo_of (sName : ByteArray) (sData : ByteArray) (iTag : Int) (iVars : Int) (xFields : List D) (ihFields : EqO Try.prog 92 (D.slice 4 xFields)) : EqA Try.prog 32 (.struct [.str sName, .str sData, .int .i64 iTag, .int .i64 iVars, .slice 4 xFields]) := by
  intro w cs cs' h h'
  obtain ⟨AFields, cFields, rfl, rdFields⟩ := openConInfo h
  obtain ⟨AFields', cFields', rfl, rdFields'⟩ := openConInfo h'
  have HB0 := Lib.hid (((Below.refl w.heap.size w).alloc (Nat.le_refl _) (.cells #[.string sName, .string sData, .int .i64 iTag, .int .i64 iVars, .slice AFields xFields.length cFields] 63)).alloc (by simp) (.cells #[.string sName, .string sData, .int .i64 iTag, .int .i64 iVars, .slice AFields' xFields.length cFields'] 63))
  have BK0 := Lib.hid (blk_old (blk_new w (.cells #[.string sName, .string sData, .int .i64 iTag, .int .i64 iVars, .slice AFields xFields.length cFields] 63)) (.cells #[.string sName, .string sData, .int .i64 iTag, .int .i64 iVars, .slice AFields' xFields.length cFields'] 63))
  have BJ0 := Lib.hid (blk_new (w.alloc (.cells #[.string sName, .string sData, .int .i64 iTag, .int .i64 iVars, .slice AFields xFields.length cFields] 63)) (.cells #[.string sName, .string sData, .int .i64 iTag, .int .i64 iVars, .slice AFields' xFields.length cFields'] 63))
  have RDFields := Lib.hid rdFields
  have RDFields' := Lib.hid rdFields'
  have IHFields := Lib.hid ihFields
  clear h h' rdFields rdFields' ihFields
  go_enter Try.func32, Try.ntmps32
  go_wp2_with fail
  refine (IHFields.out _ _ _ (RDFields.out.below HB0.out) (RDFields'.out.below HB0.out)).mono ?_
  rintro e w1 ⟨rfl, hb⟩
  have HB1 := Lib.hid (HB0.out.trans (hb.mono HB0.out.size))
  have BK1 := Lib.hid (blk_below BK0.out hb)
  have BJ1 := Lib.hid (blk_below BJ0.out hb)
  clear hb
  have z1_0 := blk_cell BK1.out 0
  have z1_1 := blk_cell BK1.out 1
  have z1_2 := blk_cell BK1.out 2
  have z1_3 := blk_cell BK1.out 3
  have z1_4 := blk_cell BK1.out 4
  have y1_0 := blk_cell BJ1.out 0
  have y1_1 := blk_cell BJ1.out 1
  have y1_2 := blk_cell BJ1.out 2
  have y1_3 := blk_cell BJ1.out 3
  have y1_4 := blk_cell BJ1.out 4
  simp at z1_0 z1_1 z1_2 z1_3 z1_4 y1_0 y1_1 y1_2 y1_3 y1_4
  go_wp2
  go_ret
  exact ⟨rfl, HB1.out⟩

set_option maxRecDepth 100000 in
theorem toConInfo_of (sName : ByteArray) (sData : ByteArray) (iTag : Int) (iVars : Int) (xFields : List D) (ihFields : ToO Try.prog 158 (D.slice 4 xFields)) : ToA Try.prog 120 (.struct [.str sName, .str sData, .int .i64 iTag, .int .i64 iVars, .slice 4 xFields]) := by
  intro w cs h
  obtain ⟨AFields, cFields, rfl, rdFields⟩ := openConInfo h
  have RDFields := Lib.hid rdFields
  have IHFields := Lib.hid ihFields
  clear h rdFields ihFields
  go_enter Try.func120, Try.ntmps120
  go_wp2_with fail
  have HB0 := Lib.hid ((((Below.refl w.heap.size w).alloc (Nat.le_refl _) (.cells #[.string sName, .string sData, .int .i64 iTag, .int .i64 iVars, .slice AFields xFields.length cFields] 170)).alloc (by simp) (.cells #[.string ⟨#[]⟩, .string ⟨#[]⟩, .int .i64 0, .int .i64 0, .slice none 0 0] 63)).alloc (by simp; omega) (.cells #[.string sName, .string sData, .int .i64 iTag, .int .i64 iVars, .slice none 0 0] 63))
  have HS0 := Lib.hid (show (((w.alloc (.cells #[.string sName, .string sData, .int .i64 iTag, .int .i64 iVars, .slice AFields xFields.length cFields] 170)).alloc (.cells #[.string ⟨#[]⟩, .string ⟨#[]⟩, .int .i64 0, .int .i64 0, .slice none 0 0] 63)).alloc (.cells #[.string sName, .string sData, .int .i64 iTag, .int .i64 iVars, .slice none 0 0] 63)).heap.size = w.heap.size + 3 by simp)
  have BA0 := Lib.hid (blk_old (blk_old (blk_new w (.cells #[.string sName, .string sData, .int .i64 iTag, .int .i64 iVars, .slice AFields xFields.length cFields] 170)) (.cells #[.string ⟨#[]⟩, .string ⟨#[]⟩, .int .i64 0, .int .i64 0, .slice none 0 0] 63)) (.cells #[.string sName, .string sData, .int .i64 iTag, .int .i64 iVars, .slice none 0 0] 63))
  have BR0 := Lib.hid (blk_old (blk_new_g (w := w.alloc (.cells #[.string sName, .string sData, .int .i64 iTag, .int .i64 iVars, .slice AFields xFields.length cFields] 170)) (g := w.heap.size + 1) (o := (.cells #[.string ⟨#[]⟩, .string ⟨#[]⟩, .int .i64 0, .int .i64 0, .slice none 0 0] 63)) (by simp)) (.cells #[.string sName, .string sData, .int .i64 iTag, .int .i64 iVars, .slice none 0 0] 63))
  have BO0 := Lib.hid (blk_new_g (w := (w.alloc (.cells #[.string sName, .string sData, .int .i64 iTag, .int .i64 iVars, .slice AFields xFields.length cFields] 170)).alloc (.cells #[.string ⟨#[]⟩, .string ⟨#[]⟩, .int .i64 0, .int .i64 0, .slice none 0 0] 63)) (g := w.heap.size + 2) (o := (.cells #[.string sName, .string sData, .int .i64 iTag, .int .i64 iVars, .slice none 0 0] 63)) (by simp))
  refine (IHFields.out _ _ (RDFields.out.below HB0.out)).mono ?_
  rintro e w1 ⟨vFields, rfl, hfr, hb⟩
  obtain ⟨BFields, dFields, rfl, _, _, _⟩ := hfr.slice
  have hr := hfr.range
  have hsz := hb.size
  rw [HS0.out] at hr hsz
  have FRFields := Lib.hid hr
  have SY1 := Lib.hid hsz
  have SZ1 := Lib.hid (show w.heap.size + 3 ≤ w1.heap.size by omega)
  have HB1 := Lib.hid (HB0.out.trans (hb.mono HB0.out.size))
  have BA1 := Lib.hid (blk_below BA0.out hb)
  have BR1 := Lib.hid (blk_below BR0.out hb)
  have BO1 := Lib.hid (blk_below BO0.out hb)
  clear hb hfr hr hsz
  have za1_0 := blk_cell BA1.out 0
  have za1_1 := blk_cell BA1.out 1
  have za1_2 := blk_cell BA1.out 2
  have za1_3 := blk_cell BA1.out 3
  have za1_4 := blk_cell BA1.out 4
  have zo1_0 := blk_cell BO1.out 0
  have zo1_f0 := blk_frozen BO1.out 0
  have zo1_1 := blk_cell BO1.out 1
  have zo1_f1 := blk_frozen BO1.out 1
  have zo1_2 := blk_cell BO1.out 2
  have zo1_f2 := blk_frozen BO1.out 2
  have zo1_3 := blk_cell BO1.out 3
  have zo1_f3 := blk_frozen BO1.out 3
  have zo1_4 := blk_cell BO1.out 4
  have zo1_f4 := blk_frozen BO1.out 4
  have zr1_0 := blk_cell BR1.out 0
  have zr1_f0 := blk_frozen BR1.out 0
  have zr1_1 := blk_cell BR1.out 1
  have zr1_f1 := blk_frozen BR1.out 1
  have zr1_2 := blk_cell BR1.out 2
  have zr1_f2 := blk_frozen BR1.out 2
  have zr1_3 := blk_cell BR1.out 3
  have zr1_f3 := blk_frozen BR1.out 3
  have zr1_4 := blk_cell BR1.out 4
  have zr1_f4 := blk_frozen BR1.out 4
  simp at za1_0 za1_1 za1_2 za1_3 za1_4 zo1_0 zo1_f0 zo1_1 zo1_f1 zo1_2 zo1_f2 zo1_3 zo1_f3 zo1_4 zo1_f4 zr1_0 zr1_f0 zr1_1 zr1_f1 zr1_2 zr1_f2 zr1_3 zr1_f3 zr1_4 zr1_f4
  have HB1 := Lib.hid (HB1.out.setCell (p := ⟨w.heap.size + 2, 4, none⟩) (by simp) (.slice BFields xFields.length dFields))
  have BA1 := Lib.hid (blk_far BA1.out (p := ⟨w.heap.size + 2, 4, none⟩) (by simp) (.slice BFields xFields.length dFields))
  have BR1 := Lib.hid (blk_far BR1.out (p := ⟨w.heap.size + 2, 4, none⟩) (by simp) (.slice BFields xFields.length dFields))
  have BO1 := Lib.hid ((blk_set BO1.out 4 (.slice BFields xFields.length dFields)).trans (show _ = some (Obj.cells #[.string sName, .string sData, .int .i64 iTag, .int .i64 iVars, .slice BFields xFields.length dFields] 63 (0, 0)) from rfl))
  have FRFields := Lib.hid (FRFields.out.set (p := ⟨w.heap.size + 2, 4, none⟩) (by simp) (.slice BFields xFields.length dFields))
  go_wp2
  have HB1 := Lib.hid (((((HB1.out.setCell (p := ⟨w.heap.size + 1, 0, none⟩) (by simp) (.string sName)).setCell (p := ⟨w.heap.size + 1, 1, none⟩) (by simp) (.string sData)).setCell (p := ⟨w.heap.size + 1, 2, none⟩) (by simp) (.int .i64 iTag)).setCell (p := ⟨w.heap.size + 1, 3, none⟩) (by simp) (.int .i64 iVars)).setCell (p := ⟨w.heap.size + 1, 4, none⟩) (by simp) (.slice BFields xFields.length dFields))
  have FRFields := Lib.hid (((((FRFields.out.set (p := ⟨w.heap.size + 1, 0, none⟩) (by simp) (.string sName)).set (p := ⟨w.heap.size + 1, 1, none⟩) (by simp) (.string sData)).set (p := ⟨w.heap.size + 1, 2, none⟩) (by simp) (.int .i64 iTag)).set (p := ⟨w.heap.size + 1, 3, none⟩) (by simp) (.int .i64 iVars)).set (p := ⟨w.heap.size + 1, 4, none⟩) (by simp) (.slice BFields xFields.length dFields))
  refine bodyPost_ret (v := .agg #[.string sName, .string sData, .int .i64 iTag, .int .i64 iVars, .slice BFields xFields.length dFields]) (by simp [results, Try.results120, go_sem, zr1_0, zr1_1, zr1_2, zr1_3, zr1_4]) rfl ⟨[.string sName, .string sData, .int .i64 iTag, .int .i64 iVars, .slice BFields xFields.length dFields], rfl, ?_, HB1.out⟩
  rw [fr_struct]
  have sy1 := SY1.out
  exact FrFR.fr (B := w.heap.size + 3) (frFR_str (frFR_str (frFR_int (frFR_int (frFR_cons (B2 := w1.heap.size) (C := w1.heap.size) FRFields.out (frFR_nil w1.heap.size w1.heap.size _) (Nat.le_refl _) (by omega) (by omega)))))) (by omega)

set_option maxRecDepth 100000 in
theorem szConInfoS_of (xs : List D) (hn : xs.length ≤ 140737488351232) (ih : ∀ x ∈ xs, SzA Try.prog 115 x) : SzO Try.prog 77 (.slice 5 xs) := by
  intro w v left h h0 h1
  obtain ⟨A, c, rfl, _, _, hrow⟩ := rd_slice1 h
  have IH := Lib.hid ih
  have H := Lib.hid hrow
  have TOT := Lib.hid (show D.bulk (.slice 5 xs) = xs.length + D.bulks xs by simp only [D.bulk])
  clear ih h hrow
  go_enter Try.func77, Try.ntmps77
  go_wp2_with fail
  · go_ret
    exact ⟨ret_int (szR_neg' (by rw [TOT.out]; omega)).symm, Below.refl _ _⟩
  · go_loopw [5, 1] (fun i l wr => ∃ j : Nat, j ≤ xs.length ∧ i = .int .i64 j ∧ l = .int .i64 (left - xs.length - D.bulks (xs.take j)) ∧ 0 ≤ left - xs.length - D.bulks (xs.take j) ∧ Below w.heap.size w wr) (fun i _ _ => xs.length - (intOf i).toNat)
    case atStart => exact ⟨0, Nat.zero_le _, rfl, by simp [D.bulks], by simp [D.bulks]; omega, Below.refl _ _⟩
    case round =>
      obtain ⟨j, hj, rfl, rfl, hl, hb⟩ := hrel
      by_cases hlt : j < xs.length
      · obtain ⟨b, off, cs, rfl, hcl, hrd, hc⟩ := (RdRow.below H.out (by omega) hb).get (List.getElem?_eq_getElem hlt)
        obtain ⟨u0, u1, u2, u3, u4, rfl⟩ := cells5 hcl
        have c0 : wr.cell? ⟨b, off + j * 5, none⟩ = some u0 := hc 0 _ rfl
        have c1 : wr.cell? ⟨b, off + j * 5 + 1, none⟩ = some u1 := hc 1 _ rfl
        have c2 : wr.cell? ⟨b, off + j * 5 + 2, none⟩ = some u2 := hc 2 _ rfl
        have c3 : wr.cell? ⟨b, off + j * 5 + 3, none⟩ = some u3 := hc 3 _ rfl
        have c4 : wr.cell? ⟨b, off + j * 5 + 4, none⟩ = some u4 := hc 4 _ rfl
        have CAL := Lib.hid (IH.out _ (List.getElem_mem hlt) wr _ (left - xs.length - D.bulks (xs.take j)) hrd hl (by omega))
        have HB := Lib.hid hb
        have T := Lib.hid (D.bulks_take xs j hlt)
        have T2 := Lib.hid (D.bulks_take_le xs (j + 1))
        clear hrd hcl hc hb
        go_wp2_with fail
        refine CAL.out.mono ?_
        rintro e w1 ⟨rfl, hb1⟩
        have HB1 := Lib.hid (HB.out.trans (hb1.mono HB.out.size))
        clear hb1 CAL
        by_cases hz : left - xs.length - D.bulks (xs.take j) < xs[j].bulk
        · rw [szR_neg' hz]
          go_wp2
          go_ret
          exact ⟨ret_int (szR_neg' (by rw [TOT.out]; have h6 := T.out; have h7 := T2.out; omega)).symm, HB1.out⟩
        · rw [szR_fit (by omega)]
          go_wp2
          go_roundw
          case rel => exact ⟨j + 1, by omega, by go_num, by rw [T.out]; go_num, by rw [T.out]; omega, HB1.out⟩
          case measure => simp [intOf]; omega
      · obtain rfl : j = xs.length := by omega
        rw [List.take_length] at hl ⊢
        have HB := Lib.hid hb
        clear hb
        go_wp2
        go_ret
        exact ⟨ret_int ((szR_fit (by rw [TOT.out]; omega)).trans (by rw [TOT.out] <;> omega)).symm, HB.out⟩

set_option maxRecDepth 100000 in
theorem eqConInfoS_of (xs : List D) (hn : xs.length ≤ 140737488351232) (ih : ∀ x ∈ xs, EqA Try.prog 32 x) : EqO Try.prog 62 (.slice 5 xs) := by
  intro w v v' h h'
  obtain ⟨A, c, rfl, _, _, hrow⟩ := rd_slice1 h
  obtain ⟨A', c', rfl, _, _, hrow'⟩ := rd_slice1 h'
  have IH := Lib.hid ih
  have H := Lib.hid hrow
  have H' := Lib.hid hrow'
  clear ih h h' hrow hrow'
  go_enter Try.func62, Try.ntmps62
  go_wp2_with fail
  go_loopw [5] (fun i wr => ∃ j : Nat, j ≤ xs.length ∧ i = .int .i64 j ∧ Below w.heap.size w wr) (fun i _ => xs.length - (intOf i).toNat)
  case atStart => exact ⟨0, Nat.zero_le _, rfl, Below.refl _ _⟩
  case round =>
    obtain ⟨j, hj, rfl, hb⟩ := hrel
    by_cases hlt : j < xs.length
    · obtain ⟨b, off, cs, rfl, hcl, hrd, hc⟩ := (RdRow.below H.out (by omega) hb).get (List.getElem?_eq_getElem hlt)
      obtain ⟨b', off', cs', rfl, hcl', hrd', hc'⟩ := (RdRow.below H'.out (by omega) hb).get (List.getElem?_eq_getElem hlt)
      obtain ⟨u0, u1, u2, u3, u4, rfl⟩ := cells5 hcl
      obtain ⟨v0, v1, v2, v3, v4, rfl⟩ := cells5 hcl'
      have c0 : wr.cell? ⟨b, off + j * 5, none⟩ = some u0 := hc 0 _ rfl
      have d0 : wr.cell? ⟨b', off' + j * 5, none⟩ = some v0 := hc' 0 _ rfl
      have c1 : wr.cell? ⟨b, off + j * 5 + 1, none⟩ = some u1 := hc 1 _ rfl
      have d1 : wr.cell? ⟨b', off' + j * 5 + 1, none⟩ = some v1 := hc' 1 _ rfl
      have c2 : wr.cell? ⟨b, off + j * 5 + 2, none⟩ = some u2 := hc 2 _ rfl
      have d2 : wr.cell? ⟨b', off' + j * 5 + 2, none⟩ = some v2 := hc' 2 _ rfl
      have c3 : wr.cell? ⟨b, off + j * 5 + 3, none⟩ = some u3 := hc 3 _ rfl
      have d3 : wr.cell? ⟨b', off' + j * 5 + 3, none⟩ = some v3 := hc' 3 _ rfl
      have c4 : wr.cell? ⟨b, off + j * 5 + 4, none⟩ = some u4 := hc 4 _ rfl
      have d4 : wr.cell? ⟨b', off' + j * 5 + 4, none⟩ = some v4 := hc' 4 _ rfl
      have CAL := Lib.hid (IH.out _ (List.getElem_mem hlt) wr.drew _ _ (hrd.below (Below.refl _ _).drew) (hrd'.below (Below.refl _ _).drew))
      have HB := Lib.hid hb
      clear hrd hcl hc hb hrd' hcl' hc' H H'
      go_wp2_with fail
      go_still_tail 8, (by kernel_rfl)
      go_wp2_with fail
      refine CAL.out.mono ?_
      rintro e w1 ⟨rfl, hb1⟩
      have HB1 := Lib.hid (HB.out.drew.trans (hb1.mono HB.out.size))
      clear hb1 CAL
      go_wp2
      go_roundw
      case rel => exact ⟨j + 1, by omega, by go_num, HB1.out⟩
      case measure => simp [intOf]; omega
    · obtain rfl : j = xs.length := by omega
      have HB := Lib.hid hb
      clear hb
      go_wp2
      go_ret
      exact ⟨rfl, HB.out⟩

theorem infoConInfoS : (Try.prog.info? 63).map (fun i => (i.zero, i.size, i.bytes)) = some (some (.agg #[.string ⟨#[]⟩, .string ⟨#[]⟩, .int .i64 0, .int .i64 0, .slice none 0 0]), 5, 72) := by kernel_rfl
theorem infoZConInfoS : (Try.prog.info? 63).map (·.size) = some 5 := by kernel_rfl
theorem infoLConInfoS : (Try.prog.info? 170).map (·.size) = some 5 := by kernel_rfl
set_option maxRecDepth 100000 in
theorem toConInfoS_of (xs : List D) (hn : xs.length ≤ 1048576) (hsz : ∀ x ∈ xs, x.n = 5) (ih : ∀ x ∈ xs, ToA Try.prog 120 x) : ToO Try.prog 82 (.slice 5 xs) := by
  intro w v h
  obtain ⟨A, c, rfl, _, _, hrow⟩ := rd_slice1 h
  have IH := Lib.hid ih
  have H := Lib.hid hrow
  clear ih h hrow
  obtain ⟨i0, hi, hz0, hz1, hz2⟩ := info_parts infoConInfoS
  have hmk := run_make (P := Try.prog) w 34 63 i0 _ Try.underlying34 hi hz0 .i64 .i64 (xs.length : Int) (xs.length : Int) (by omega) (by omega) (by rw [hz2]; omega) (by omega)
  rw [hz1, Int.toNat_natCast] at hmk
  clear hi hz0 hz1 hz2
  go_enter Try.func82, Try.ntmps82
  go_wp2_with fail
  go_loopw [4] (fun i wr => ∃ j : Nat, j ≤ xs.length ∧ i = .int .i64 j ∧ Below w.heap.size w wr ∧ Fill w.heap.size wr w.heap.size 63 5 xs.length (xs.take j)) (fun i _ => xs.length - (intOf i).toNat)
  case atStart => exact ⟨0, Nat.zero_le _, rfl, (Below.refl _ _).alloc (Nat.le_refl _) _, by rw [List.take_zero]; exact Fill.start (Nat.le_refl _) (by simp [size_madeCells])⟩
  case round =>
    obtain ⟨j, hj, rfl, hb, hf⟩ := hrel
    clear hmk
    by_cases hlt : j < xs.length
    · have hk : (xs.take j).length = j := by rw [List.length_take]; omega
      obtain ⟨b, off, cs, rfl, hcl, hrd, hc⟩ := (RdRow.below H.out (by omega) hb).get (List.getElem?_eq_getElem hlt)
      have CAL := Lib.hid (IH.out _ (List.getElem_mem hlt) wr _ hrd)
      have HB := Lib.hid hb
      have HF := Lib.hid hf
      have HC := Lib.hid hc
      clear hrd hc hb hf H
      go_wp2_with (refine wpList_load_mid rfl 170 (.tmp 18) rfl b (off + j * 5) rfl cs _ HC.out Try.underlying170 rfl (by rw [hcl]; exact infoLConInfoS) ?_)
      refine CAL.out.mono ?_
      rintro e w1 ⟨cs', rfl, hfr, hb1⟩
      have hl : cs'.length = 5 := hfr.len.trans (hsz _ (List.getElem_mem hlt))
      have HL := Lib.hid hl
      have TH := Lib.hid ((HF.out.below hb1).there hlt)
      have HF1 := Lib.hid (HF.out.store hb1 hfr hl (by rw [hk]; exact hlt))
      rw [hk] at HF1
      have HONE := Lib.hid hfr.all
      have HB1 := Lib.hid (below_setCells (Nat.le_refl w.heap.size) cs' (j * 5) (HB.out.trans (hb1.mono HB.out.size)))
      clear hb1 hfr hl hk CAL
      go_wp2_with (refine wpList_store_mid rfl 63 (.tmp 21) (.tmp 20) rfl w.heap.size (j * 5) cs'.toArray rfl rfl (by simpa [HL.out] using TH.out) (by simpa [HL.out] using infoZConInfoS) HONE.out ?_)
      go_roundw
      case rel =>
        refine ⟨j + 1, by omega, by go_num, HB1.out, ?_⟩
        rw [List.take_succ_eq_append_getElem hlt]
        exact HF1.out
      case measure => simp [intOf]; omega
    · obtain rfl : j = xs.length := by omega
      rw [List.take_length] at hf
      have HB := Lib.hid hb
      have HF := Lib.hid (hf.done rfl (by simp only [maxLen]; omega))
      clear hb hf H
      go_wp2
      go_ret
      exact ⟨_, rfl, HF.out, HB.out⟩

theorem openDataInfo {sName : ByteArray} {iVars : Int} {xCons : List D} {w : World} {cs : List Value} (h : Rd w (.struct [.str sName, .int .i64 iVars, .slice 1 xCons]) cs) : ∃ (ACons : Option Addr) (cCons : Nat), cs = [.string sName, .int .i64 iVars, .slice ACons xCons.length cCons] ∧ Rd w (D.slice 1 xCons) [.slice ACons xCons.length cCons] := by
  rw [rd_struct] at h
  simp only [rdF_cons, rdF_nil, rd_int, rd_bool, rd_str] at h
  obtain ⟨e0, r0, rfl, rfl, e1, r1, rfl, rfl, e2, r2, rfl, hCons, rfl⟩ := h
  have kCons := hCons
  obtain ⟨ACons, cCons, rfl, _⟩ := rd_slice hCons
  exact ⟨ACons, cCons, by simp, kCons⟩

set_option maxRecDepth 100000 in
theorem szDataInfo_of (sName : ByteArray) (iVars : Int) (xCons : List D) (hsName : sName.size ≤ 140737488351232) (ihCons : SzO Try.prog 155 (D.slice 1 xCons)) : SzA Try.prog 116 (.struct [.str sName, .int .i64 iVars, .slice 1 xCons]) := by
  intro w cs left h h0 h1
  obtain ⟨ACons, cCons, rfl, rdCons⟩ := openDataInfo h
  have TOT := Lib.hid (show D.bulk (.struct [.str sName, .int .i64 iVars, .slice 1 xCons]) = sName.size + (D.slice 1 xCons).bulk by simp only [D.bulk, D.bulks] <;> omega)
  have HB0 := Lib.hid ((Below.refl w.heap.size w).alloc (Nat.le_refl _) (.cells #[.string sName, .int .i64 iVars, .slice ACons xCons.length cCons] 172))
  have BK0 := Lib.hid (blk_new w (.cells #[.string sName, .int .i64 iVars, .slice ACons xCons.length cCons] 172))
  have RDCons := Lib.hid rdCons
  have IHCons := Lib.hid ihCons
  clear h rdCons ihCons
  go_enter Try.func116, Try.ntmps116
  go_wp2_with fail
  · go_ret
    exact ⟨ret_int (szR_neg' (by rw [TOT.out]; omega)).symm, HB0.out⟩
  · skip
    have hlCons : 0 ≤ left - (sName.size : Int) := by omega
    refine (IHCons.out _ _ (left - (sName.size : Int)) (RDCons.out.below HB0.out) hlCons (by omega)).mono ?_
    rintro e w1 ⟨rfl, hb⟩
    have HB1 := Lib.hid (HB0.out.trans (hb.mono HB0.out.size))
    have BK1 := Lib.hid (blk_below BK0.out hb)
    clear hb
    have z1_0 := blk_cell BK1.out 0
    have z1_1 := blk_cell BK1.out 1
    have z1_2 := blk_cell BK1.out 2
    simp at z1_0 z1_1 z1_2
    by_cases hzCons : left - (sName.size : Int) < ((D.slice 1 xCons).bulk : Int)
    · rw [szR_neg' hzCons]
      go_wp2
      go_ret
      exact ⟨ret_int (szR_neg' (by rw [TOT.out]; omega)).symm, HB1.out⟩
    · rw [szR_fit (by omega)]
      go_wp2_with fail
      go_ret
      exact ⟨ret_int ((szR_fit (by rw [TOT.out]; omega)).trans (by rw [TOT.out] <;> omega)).symm, HB1.out⟩

set_option maxRecDepth 100000 in
theorem eqDataInfo_of (sName : ByteArray) (iVars : Int) (xCons : List D) (ihCons : EqO Try.prog 37 (D.slice 1 xCons)) : EqA Try.prog 112 (.struct [.str sName, .int .i64 iVars, .slice 1 xCons]) := by
  intro w cs cs' h h'
  obtain ⟨ACons, cCons, rfl, rdCons⟩ := openDataInfo h
  obtain ⟨ACons', cCons', rfl, rdCons'⟩ := openDataInfo h'
  have HB0 := Lib.hid (((Below.refl w.heap.size w).alloc (Nat.le_refl _) (.cells #[.string sName, .int .i64 iVars, .slice ACons xCons.length cCons] 102)).alloc (by simp) (.cells #[.string sName, .int .i64 iVars, .slice ACons' xCons.length cCons'] 102))
  have BK0 := Lib.hid (blk_old (blk_new w (.cells #[.string sName, .int .i64 iVars, .slice ACons xCons.length cCons] 102)) (.cells #[.string sName, .int .i64 iVars, .slice ACons' xCons.length cCons'] 102))
  have BJ0 := Lib.hid (blk_new (w.alloc (.cells #[.string sName, .int .i64 iVars, .slice ACons xCons.length cCons] 102)) (.cells #[.string sName, .int .i64 iVars, .slice ACons' xCons.length cCons'] 102))
  have RDCons := Lib.hid rdCons
  have RDCons' := Lib.hid rdCons'
  have IHCons := Lib.hid ihCons
  clear h h' rdCons rdCons' ihCons
  go_enter Try.func112, Try.ntmps112
  go_wp2_with fail
  refine (IHCons.out _ _ _ (RDCons.out.below HB0.out) (RDCons'.out.below HB0.out)).mono ?_
  rintro e w1 ⟨rfl, hb⟩
  have HB1 := Lib.hid (HB0.out.trans (hb.mono HB0.out.size))
  have BK1 := Lib.hid (blk_below BK0.out hb)
  have BJ1 := Lib.hid (blk_below BJ0.out hb)
  clear hb
  have z1_0 := blk_cell BK1.out 0
  have z1_1 := blk_cell BK1.out 1
  have z1_2 := blk_cell BK1.out 2
  have y1_0 := blk_cell BJ1.out 0
  have y1_1 := blk_cell BJ1.out 1
  have y1_2 := blk_cell BJ1.out 2
  simp at z1_0 z1_1 z1_2 y1_0 y1_1 y1_2
  go_wp2
  go_ret
  exact ⟨rfl, HB1.out⟩

set_option maxRecDepth 100000 in
theorem toDataInfo_of (sName : ByteArray) (iVars : Int) (xCons : List D) (ihCons : ToO Try.prog 159 (D.slice 1 xCons)) : ToA Try.prog 121 (.struct [.str sName, .int .i64 iVars, .slice 1 xCons]) := by
  intro w cs h
  obtain ⟨ACons, cCons, rfl, rdCons⟩ := openDataInfo h
  have RDCons := Lib.hid rdCons
  have IHCons := Lib.hid ihCons
  clear h rdCons ihCons
  go_enter Try.func121, Try.ntmps121
  go_wp2_with fail
  have HB0 := Lib.hid ((((Below.refl w.heap.size w).alloc (Nat.le_refl _) (.cells #[.string sName, .int .i64 iVars, .slice ACons xCons.length cCons] 172)).alloc (by simp) (.cells #[.string ⟨#[]⟩, .int .i64 0, .slice none 0 0] 102)).alloc (by simp; omega) (.cells #[.string sName, .int .i64 iVars, .slice none 0 0] 102))
  have HS0 := Lib.hid (show (((w.alloc (.cells #[.string sName, .int .i64 iVars, .slice ACons xCons.length cCons] 172)).alloc (.cells #[.string ⟨#[]⟩, .int .i64 0, .slice none 0 0] 102)).alloc (.cells #[.string sName, .int .i64 iVars, .slice none 0 0] 102)).heap.size = w.heap.size + 3 by simp)
  have BA0 := Lib.hid (blk_old (blk_old (blk_new w (.cells #[.string sName, .int .i64 iVars, .slice ACons xCons.length cCons] 172)) (.cells #[.string ⟨#[]⟩, .int .i64 0, .slice none 0 0] 102)) (.cells #[.string sName, .int .i64 iVars, .slice none 0 0] 102))
  have BR0 := Lib.hid (blk_old (blk_new_g (w := w.alloc (.cells #[.string sName, .int .i64 iVars, .slice ACons xCons.length cCons] 172)) (g := w.heap.size + 1) (o := (.cells #[.string ⟨#[]⟩, .int .i64 0, .slice none 0 0] 102)) (by simp)) (.cells #[.string sName, .int .i64 iVars, .slice none 0 0] 102))
  have BO0 := Lib.hid (blk_new_g (w := (w.alloc (.cells #[.string sName, .int .i64 iVars, .slice ACons xCons.length cCons] 172)).alloc (.cells #[.string ⟨#[]⟩, .int .i64 0, .slice none 0 0] 102)) (g := w.heap.size + 2) (o := (.cells #[.string sName, .int .i64 iVars, .slice none 0 0] 102)) (by simp))
  refine (IHCons.out _ _ (RDCons.out.below HB0.out)).mono ?_
  rintro e w1 ⟨vCons, rfl, hfr, hb⟩
  obtain ⟨BCons, dCons, rfl, _, _, _⟩ := hfr.slice
  have hr := hfr.range
  have hsz := hb.size
  rw [HS0.out] at hr hsz
  have FRCons := Lib.hid hr
  have SY1 := Lib.hid hsz
  have SZ1 := Lib.hid (show w.heap.size + 3 ≤ w1.heap.size by omega)
  have HB1 := Lib.hid (HB0.out.trans (hb.mono HB0.out.size))
  have BA1 := Lib.hid (blk_below BA0.out hb)
  have BR1 := Lib.hid (blk_below BR0.out hb)
  have BO1 := Lib.hid (blk_below BO0.out hb)
  clear hb hfr hr hsz
  have za1_0 := blk_cell BA1.out 0
  have za1_1 := blk_cell BA1.out 1
  have za1_2 := blk_cell BA1.out 2
  have zo1_0 := blk_cell BO1.out 0
  have zo1_f0 := blk_frozen BO1.out 0
  have zo1_1 := blk_cell BO1.out 1
  have zo1_f1 := blk_frozen BO1.out 1
  have zo1_2 := blk_cell BO1.out 2
  have zo1_f2 := blk_frozen BO1.out 2
  have zr1_0 := blk_cell BR1.out 0
  have zr1_f0 := blk_frozen BR1.out 0
  have zr1_1 := blk_cell BR1.out 1
  have zr1_f1 := blk_frozen BR1.out 1
  have zr1_2 := blk_cell BR1.out 2
  have zr1_f2 := blk_frozen BR1.out 2
  simp at za1_0 za1_1 za1_2 zo1_0 zo1_f0 zo1_1 zo1_f1 zo1_2 zo1_f2 zr1_0 zr1_f0 zr1_1 zr1_f1 zr1_2 zr1_f2
  have HB1 := Lib.hid (HB1.out.setCell (p := ⟨w.heap.size + 2, 2, none⟩) (by simp) (.slice BCons xCons.length dCons))
  have BA1 := Lib.hid (blk_far BA1.out (p := ⟨w.heap.size + 2, 2, none⟩) (by simp) (.slice BCons xCons.length dCons))
  have BR1 := Lib.hid (blk_far BR1.out (p := ⟨w.heap.size + 2, 2, none⟩) (by simp) (.slice BCons xCons.length dCons))
  have BO1 := Lib.hid ((blk_set BO1.out 2 (.slice BCons xCons.length dCons)).trans (show _ = some (Obj.cells #[.string sName, .int .i64 iVars, .slice BCons xCons.length dCons] 102 (0, 0)) from rfl))
  have FRCons := Lib.hid (FRCons.out.set (p := ⟨w.heap.size + 2, 2, none⟩) (by simp) (.slice BCons xCons.length dCons))
  go_wp2
  have HB1 := Lib.hid (((HB1.out.setCell (p := ⟨w.heap.size + 1, 0, none⟩) (by simp) (.string sName)).setCell (p := ⟨w.heap.size + 1, 1, none⟩) (by simp) (.int .i64 iVars)).setCell (p := ⟨w.heap.size + 1, 2, none⟩) (by simp) (.slice BCons xCons.length dCons))
  have FRCons := Lib.hid (((FRCons.out.set (p := ⟨w.heap.size + 1, 0, none⟩) (by simp) (.string sName)).set (p := ⟨w.heap.size + 1, 1, none⟩) (by simp) (.int .i64 iVars)).set (p := ⟨w.heap.size + 1, 2, none⟩) (by simp) (.slice BCons xCons.length dCons))
  refine bodyPost_ret (v := .agg #[.string sName, .int .i64 iVars, .slice BCons xCons.length dCons]) (by simp [results, Try.results121, go_sem, zr1_0, zr1_1, zr1_2]) rfl ⟨[.string sName, .int .i64 iVars, .slice BCons xCons.length dCons], rfl, ?_, HB1.out⟩
  rw [fr_struct]
  have sy1 := SY1.out
  exact FrFR.fr (B := w.heap.size + 3) (frFR_str (frFR_int (frFR_cons (B2 := w1.heap.size) (C := w1.heap.size) FRCons.out (frFR_nil w1.heap.size w1.heap.size _) (Nat.le_refl _) (by omega) (by omega)))) (by omega)

set_option maxRecDepth 100000 in
theorem szDataInfoS_of (xs : List D) (hn : xs.length ≤ 140737488351232) (ih : ∀ x ∈ xs, SzA Try.prog 116 x) : SzO Try.prog 78 (.slice 3 xs) := by
  intro w v left h h0 h1
  obtain ⟨A, c, rfl, _, _, hrow⟩ := rd_slice1 h
  have IH := Lib.hid ih
  have H := Lib.hid hrow
  have TOT := Lib.hid (show D.bulk (.slice 3 xs) = xs.length + D.bulks xs by simp only [D.bulk])
  clear ih h hrow
  go_enter Try.func78, Try.ntmps78
  go_wp2_with fail
  · go_ret
    exact ⟨ret_int (szR_neg' (by rw [TOT.out]; omega)).symm, Below.refl _ _⟩
  · go_loopw [5, 1] (fun i l wr => ∃ j : Nat, j ≤ xs.length ∧ i = .int .i64 j ∧ l = .int .i64 (left - xs.length - D.bulks (xs.take j)) ∧ 0 ≤ left - xs.length - D.bulks (xs.take j) ∧ Below w.heap.size w wr) (fun i _ _ => xs.length - (intOf i).toNat)
    case atStart => exact ⟨0, Nat.zero_le _, rfl, by simp [D.bulks], by simp [D.bulks]; omega, Below.refl _ _⟩
    case round =>
      obtain ⟨j, hj, rfl, rfl, hl, hb⟩ := hrel
      by_cases hlt : j < xs.length
      · obtain ⟨b, off, cs, rfl, hcl, hrd, hc⟩ := (RdRow.below H.out (by omega) hb).get (List.getElem?_eq_getElem hlt)
        obtain ⟨u0, u1, u2, rfl⟩ := cells3 hcl
        have c0 : wr.cell? ⟨b, off + j * 3, none⟩ = some u0 := hc 0 _ rfl
        have c1 : wr.cell? ⟨b, off + j * 3 + 1, none⟩ = some u1 := hc 1 _ rfl
        have c2 : wr.cell? ⟨b, off + j * 3 + 2, none⟩ = some u2 := hc 2 _ rfl
        have CAL := Lib.hid (IH.out _ (List.getElem_mem hlt) wr _ (left - xs.length - D.bulks (xs.take j)) hrd hl (by omega))
        have HB := Lib.hid hb
        have T := Lib.hid (D.bulks_take xs j hlt)
        have T2 := Lib.hid (D.bulks_take_le xs (j + 1))
        clear hrd hcl hc hb
        go_wp2_with fail
        refine CAL.out.mono ?_
        rintro e w1 ⟨rfl, hb1⟩
        have HB1 := Lib.hid (HB.out.trans (hb1.mono HB.out.size))
        clear hb1 CAL
        by_cases hz : left - xs.length - D.bulks (xs.take j) < xs[j].bulk
        · rw [szR_neg' hz]
          go_wp2
          go_ret
          exact ⟨ret_int (szR_neg' (by rw [TOT.out]; have h6 := T.out; have h7 := T2.out; omega)).symm, HB1.out⟩
        · rw [szR_fit (by omega)]
          go_wp2
          go_roundw
          case rel => exact ⟨j + 1, by omega, by go_num, by rw [T.out]; go_num, by rw [T.out]; omega, HB1.out⟩
          case measure => simp [intOf]; omega
      · obtain rfl : j = xs.length := by omega
        rw [List.take_length] at hl ⊢
        have HB := Lib.hid hb
        clear hb
        go_wp2
        go_ret
        exact ⟨ret_int ((szR_fit (by rw [TOT.out]; omega)).trans (by rw [TOT.out] <;> omega)).symm, HB.out⟩

set_option maxRecDepth 100000 in
theorem eqDataInfoS_of (xs : List D) (hn : xs.length ≤ 140737488351232) (ih : ∀ x ∈ xs, EqA Try.prog 112 x) : EqO Try.prog 63 (.slice 3 xs) := by
  intro w v v' h h'
  obtain ⟨A, c, rfl, _, _, hrow⟩ := rd_slice1 h
  obtain ⟨A', c', rfl, _, _, hrow'⟩ := rd_slice1 h'
  have IH := Lib.hid ih
  have H := Lib.hid hrow
  have H' := Lib.hid hrow'
  clear ih h h' hrow hrow'
  go_enter Try.func63, Try.ntmps63
  go_wp2_with fail
  go_loopw [5] (fun i wr => ∃ j : Nat, j ≤ xs.length ∧ i = .int .i64 j ∧ Below w.heap.size w wr) (fun i _ => xs.length - (intOf i).toNat)
  case atStart => exact ⟨0, Nat.zero_le _, rfl, Below.refl _ _⟩
  case round =>
    obtain ⟨j, hj, rfl, hb⟩ := hrel
    by_cases hlt : j < xs.length
    · obtain ⟨b, off, cs, rfl, hcl, hrd, hc⟩ := (RdRow.below H.out (by omega) hb).get (List.getElem?_eq_getElem hlt)
      obtain ⟨b', off', cs', rfl, hcl', hrd', hc'⟩ := (RdRow.below H'.out (by omega) hb).get (List.getElem?_eq_getElem hlt)
      obtain ⟨u0, u1, u2, rfl⟩ := cells3 hcl
      obtain ⟨v0, v1, v2, rfl⟩ := cells3 hcl'
      have c0 : wr.cell? ⟨b, off + j * 3, none⟩ = some u0 := hc 0 _ rfl
      have d0 : wr.cell? ⟨b', off' + j * 3, none⟩ = some v0 := hc' 0 _ rfl
      have c1 : wr.cell? ⟨b, off + j * 3 + 1, none⟩ = some u1 := hc 1 _ rfl
      have d1 : wr.cell? ⟨b', off' + j * 3 + 1, none⟩ = some v1 := hc' 1 _ rfl
      have c2 : wr.cell? ⟨b, off + j * 3 + 2, none⟩ = some u2 := hc 2 _ rfl
      have d2 : wr.cell? ⟨b', off' + j * 3 + 2, none⟩ = some v2 := hc' 2 _ rfl
      have CAL := Lib.hid (IH.out _ (List.getElem_mem hlt) wr.drew _ _ (hrd.below (Below.refl _ _).drew) (hrd'.below (Below.refl _ _).drew))
      have HB := Lib.hid hb
      clear hrd hcl hc hb hrd' hcl' hc' H H'
      go_wp2_with fail
      go_still_tail 8, (by kernel_rfl)
      go_wp2_with fail
      refine CAL.out.mono ?_
      rintro e w1 ⟨rfl, hb1⟩
      have HB1 := Lib.hid (HB.out.drew.trans (hb1.mono HB.out.size))
      clear hb1 CAL
      go_wp2
      go_roundw
      case rel => exact ⟨j + 1, by omega, by go_num, HB1.out⟩
      case measure => simp [intOf]; omega
    · obtain rfl : j = xs.length := by omega
      have HB := Lib.hid hb
      clear hb
      go_wp2
      go_ret
      exact ⟨rfl, HB.out⟩

theorem infoDataInfoS : (Try.prog.info? 102).map (fun i => (i.zero, i.size, i.bytes)) = some (some (.agg #[.string ⟨#[]⟩, .int .i64 0, .slice none 0 0]), 3, 48) := by kernel_rfl
theorem infoZDataInfoS : (Try.prog.info? 102).map (·.size) = some 3 := by kernel_rfl
theorem infoLDataInfoS : (Try.prog.info? 172).map (·.size) = some 3 := by kernel_rfl
set_option maxRecDepth 100000 in
theorem toDataInfoS_of (xs : List D) (hn : xs.length ≤ 1048576) (hsz : ∀ x ∈ xs, x.n = 3) (ih : ∀ x ∈ xs, ToA Try.prog 121 x) : ToO Try.prog 83 (.slice 3 xs) := by
  intro w v h
  obtain ⟨A, c, rfl, _, _, hrow⟩ := rd_slice1 h
  have IH := Lib.hid ih
  have H := Lib.hid hrow
  clear ih h hrow
  obtain ⟨i0, hi, hz0, hz1, hz2⟩ := info_parts infoDataInfoS
  have hmk := run_make (P := Try.prog) w 35 102 i0 _ Try.underlying35 hi hz0 .i64 .i64 (xs.length : Int) (xs.length : Int) (by omega) (by omega) (by rw [hz2]; omega) (by omega)
  rw [hz1, Int.toNat_natCast] at hmk
  clear hi hz0 hz1 hz2
  go_enter Try.func83, Try.ntmps83
  go_wp2_with fail
  go_loopw [4] (fun i wr => ∃ j : Nat, j ≤ xs.length ∧ i = .int .i64 j ∧ Below w.heap.size w wr ∧ Fill w.heap.size wr w.heap.size 102 3 xs.length (xs.take j)) (fun i _ => xs.length - (intOf i).toNat)
  case atStart => exact ⟨0, Nat.zero_le _, rfl, (Below.refl _ _).alloc (Nat.le_refl _) _, by rw [List.take_zero]; exact Fill.start (Nat.le_refl _) (by simp [size_madeCells])⟩
  case round =>
    obtain ⟨j, hj, rfl, hb, hf⟩ := hrel
    clear hmk
    by_cases hlt : j < xs.length
    · have hk : (xs.take j).length = j := by rw [List.length_take]; omega
      obtain ⟨b, off, cs, rfl, hcl, hrd, hc⟩ := (RdRow.below H.out (by omega) hb).get (List.getElem?_eq_getElem hlt)
      have CAL := Lib.hid (IH.out _ (List.getElem_mem hlt) wr _ hrd)
      have HB := Lib.hid hb
      have HF := Lib.hid hf
      have HC := Lib.hid hc
      clear hrd hc hb hf H
      go_wp2_with (refine wpList_load_mid rfl 172 (.tmp 18) rfl b (off + j * 3) rfl cs _ HC.out Try.underlying172 rfl (by rw [hcl]; exact infoLDataInfoS) ?_)
      refine CAL.out.mono ?_
      rintro e w1 ⟨cs', rfl, hfr, hb1⟩
      have hl : cs'.length = 3 := hfr.len.trans (hsz _ (List.getElem_mem hlt))
      have HL := Lib.hid hl
      have TH := Lib.hid ((HF.out.below hb1).there hlt)
      have HF1 := Lib.hid (HF.out.store hb1 hfr hl (by rw [hk]; exact hlt))
      rw [hk] at HF1
      have HONE := Lib.hid hfr.all
      have HB1 := Lib.hid (below_setCells (Nat.le_refl w.heap.size) cs' (j * 3) (HB.out.trans (hb1.mono HB.out.size)))
      clear hb1 hfr hl hk CAL
      go_wp2_with (refine wpList_store_mid rfl 102 (.tmp 21) (.tmp 20) rfl w.heap.size (j * 3) cs'.toArray rfl rfl (by simpa [HL.out] using TH.out) (by simpa [HL.out] using infoZDataInfoS) HONE.out ?_)
      go_roundw
      case rel =>
        refine ⟨j + 1, by omega, by go_num, HB1.out, ?_⟩
        rw [List.take_succ_eq_append_getElem hlt]
        exact HF1.out
      case measure => simp [intOf]; omega
    · obtain rfl : j = xs.length := by omega
      rw [List.take_length] at hf
      have HB := Lib.hid hb
      have HF := Lib.hid (hf.done rfl (by simp only [maxLen]; omega))
      clear hb hf H
      go_wp2
      go_ret
      exact ⟨_, rfl, HF.out, HB.out⟩

theorem openMethodInfo {sName : ByteArray} {sClass : ByteArray} {iSchemeCount : Int} {xSchemePreds : List D} {iSchemeTypeKind : Int} {iSchemeTypeId : Int} {sSchemeTypeName : ByteArray} {xSchemeTypeArgs : List D} {w : World} {cs : List Value} (h : Rd w (.struct [.str sName, .str sClass, .struct [.int .i64 iSchemeCount, .slice 2 xSchemePreds, .struct [.int .i64 iSchemeTypeKind, .int .i64 iSchemeTypeId, .str sSchemeTypeName, .slice 4 xSchemeTypeArgs]]]) cs) : ∃ (ASchemePreds : Option Addr) (cSchemePreds : Nat) (ASchemeTypeArgs : Option Addr) (cSchemeTypeArgs : Nat), cs = [.string sName, .string sClass, .int .i64 iSchemeCount, .slice ASchemePreds xSchemePreds.length cSchemePreds, .int .i64 iSchemeTypeKind, .int .i64 iSchemeTypeId, .string sSchemeTypeName, .slice ASchemeTypeArgs xSchemeTypeArgs.length cSchemeTypeArgs] ∧ Rd w (D.struct [.int .i64 iSchemeCount, .slice 2 xSchemePreds, .struct [.int .i64 iSchemeTypeKind, .int .i64 iSchemeTypeId, .str sSchemeTypeName, .slice 4 xSchemeTypeArgs]]) [.int .i64 iSchemeCount, .slice ASchemePreds xSchemePreds.length cSchemePreds, .int .i64 iSchemeTypeKind, .int .i64 iSchemeTypeId, .string sSchemeTypeName, .slice ASchemeTypeArgs xSchemeTypeArgs.length cSchemeTypeArgs] := by
  rw [rd_struct] at h
  simp only [rdF_cons, rdF_nil, rd_int, rd_bool, rd_str] at h
  obtain ⟨e0, r0, rfl, rfl, e1, r1, rfl, rfl, e2, r2, rfl, hScheme, rfl⟩ := h
  have kScheme := hScheme
  obtain ⟨ASchemePreds, cSchemePreds, ASchemeTypeArgs, cSchemeTypeArgs, rfl, _, _⟩ := openScheme hScheme
  exact ⟨ASchemePreds, cSchemePreds, ASchemeTypeArgs, cSchemeTypeArgs, by simp, kScheme⟩

set_option maxRecDepth 100000 in
theorem szMethodInfo_of (sName : ByteArray) (sClass : ByteArray) (iSchemeCount : Int) (xSchemePreds : List D) (iSchemeTypeKind : Int) (iSchemeTypeId : Int) (sSchemeTypeName : ByteArray) (xSchemeTypeArgs : List D) (hsName : sName.size ≤ 140737488351232) (hsClass : sClass.size ≤ 140737488351232) (ihScheme : SzA Try.prog 156 (D.struct [.int .i64 iSchemeCount, .slice 2 xSchemePreds, .struct [.int .i64 iSchemeTypeKind, .int .i64 iSchemeTypeId, .str sSchemeTypeName, .slice 4 xSchemeTypeArgs]])) : SzA Try.prog 117 (.struct [.str sName, .str sClass, .struct [.int .i64 iSchemeCount, .slice 2 xSchemePreds, .struct [.int .i64 iSchemeTypeKind, .int .i64 iSchemeTypeId, .str sSchemeTypeName, .slice 4 xSchemeTypeArgs]]]) := by
  intro w cs left h h0 h1
  obtain ⟨ASchemePreds, cSchemePreds, ASchemeTypeArgs, cSchemeTypeArgs, rfl, rdScheme⟩ := openMethodInfo h
  have TOT := Lib.hid (show D.bulk (.struct [.str sName, .str sClass, .struct [.int .i64 iSchemeCount, .slice 2 xSchemePreds, .struct [.int .i64 iSchemeTypeKind, .int .i64 iSchemeTypeId, .str sSchemeTypeName, .slice 4 xSchemeTypeArgs]]]) = sName.size + sClass.size + (D.struct [.int .i64 iSchemeCount, .slice 2 xSchemePreds, .struct [.int .i64 iSchemeTypeKind, .int .i64 iSchemeTypeId, .str sSchemeTypeName, .slice 4 xSchemeTypeArgs]]).bulk by simp only [D.bulk, D.bulks] <;> omega)
  have HB0 := Lib.hid ((Below.refl w.heap.size w).alloc (Nat.le_refl _) (.cells #[.string sName, .string sClass, .int .i64 iSchemeCount, .slice ASchemePreds xSchemePreds.length cSchemePreds, .int .i64 iSchemeTypeKind, .int .i64 iSchemeTypeId, .string sSchemeTypeName, .slice ASchemeTypeArgs xSchemeTypeArgs.length cSchemeTypeArgs] 180))
  have BK0 := Lib.hid (blk_new w (.cells #[.string sName, .string sClass, .int .i64 iSchemeCount, .slice ASchemePreds xSchemePreds.length cSchemePreds, .int .i64 iSchemeTypeKind, .int .i64 iSchemeTypeId, .string sSchemeTypeName, .slice ASchemeTypeArgs xSchemeTypeArgs.length cSchemeTypeArgs] 180))
  have RDScheme := Lib.hid rdScheme
  have IHScheme := Lib.hid ihScheme
  clear h rdScheme ihScheme
  go_enter Try.func117, Try.ntmps117
  go_wp2_with fail
  · go_ret
    exact ⟨ret_int (szR_neg' (by rw [TOT.out]; omega)).symm, HB0.out⟩
  · go_ret
    exact ⟨ret_int (szR_neg' (by rw [TOT.out]; omega)).symm, HB0.out⟩
  · skip
    have hlScheme : 0 ≤ left - (sName.size : Int) - (sClass.size : Int) := by omega
    refine (IHScheme.out _ _ (left - (sName.size : Int) - (sClass.size : Int)) (RDScheme.out.below HB0.out) hlScheme (by omega)).mono ?_
    rintro e w1 ⟨rfl, hb⟩
    have HB1 := Lib.hid (HB0.out.trans (hb.mono HB0.out.size))
    have BK1 := Lib.hid (blk_below BK0.out hb)
    clear hb
    have z1_0 := blk_cell BK1.out 0
    have z1_1 := blk_cell BK1.out 1
    have z1_2 := blk_cell BK1.out 2
    have z1_3 := blk_cell BK1.out 3
    have z1_4 := blk_cell BK1.out 4
    have z1_5 := blk_cell BK1.out 5
    have z1_6 := blk_cell BK1.out 6
    have z1_7 := blk_cell BK1.out 7
    simp at z1_0 z1_1 z1_2 z1_3 z1_4 z1_5 z1_6 z1_7
    by_cases hzScheme : left - (sName.size : Int) - (sClass.size : Int) < ((D.struct [.int .i64 iSchemeCount, .slice 2 xSchemePreds, .struct [.int .i64 iSchemeTypeKind, .int .i64 iSchemeTypeId, .str sSchemeTypeName, .slice 4 xSchemeTypeArgs]]).bulk : Int)
    · rw [szR_neg' hzScheme]
      go_wp2
      go_ret
      exact ⟨ret_int (szR_neg' (by rw [TOT.out]; omega)).symm, HB1.out⟩
    · rw [szR_fit (by omega)]
      go_wp2_with fail
      go_ret
      exact ⟨ret_int ((szR_fit (by rw [TOT.out]; omega)).trans (by rw [TOT.out] <;> omega)).symm, HB1.out⟩

set_option maxRecDepth 100000 in
theorem eqMethodInfo_of (sName : ByteArray) (sClass : ByteArray) (iSchemeCount : Int) (xSchemePreds : List D) (iSchemeTypeKind : Int) (iSchemeTypeId : Int) (sSchemeTypeName : ByteArray) (xSchemeTypeArgs : List D) (ihScheme : EqA Try.prog 153 (D.struct [.int .i64 iSchemeCount, .slice 2 xSchemePreds, .struct [.int .i64 iSchemeTypeKind, .int .i64 iSchemeTypeId, .str sSchemeTypeName, .slice 4 xSchemeTypeArgs]])) : EqA Try.prog 113 (.struct [.str sName, .str sClass, .struct [.int .i64 iSchemeCount, .slice 2 xSchemePreds, .struct [.int .i64 iSchemeTypeKind, .int .i64 iSchemeTypeId, .str sSchemeTypeName, .slice 4 xSchemeTypeArgs]]]) := by
  intro w cs cs' h h'
  obtain ⟨ASchemePreds, cSchemePreds, ASchemeTypeArgs, cSchemeTypeArgs, rfl, rdScheme⟩ := openMethodInfo h
  obtain ⟨ASchemePreds', cSchemePreds', ASchemeTypeArgs', cSchemeTypeArgs', rfl, rdScheme'⟩ := openMethodInfo h'
  have HB0 := Lib.hid (((Below.refl w.heap.size w).alloc (Nat.le_refl _) (.cells #[.string sName, .string sClass, .int .i64 iSchemeCount, .slice ASchemePreds xSchemePreds.length cSchemePreds, .int .i64 iSchemeTypeKind, .int .i64 iSchemeTypeId, .string sSchemeTypeName, .slice ASchemeTypeArgs xSchemeTypeArgs.length cSchemeTypeArgs] 163)).alloc (by simp) (.cells #[.string sName, .string sClass, .int .i64 iSchemeCount, .slice ASchemePreds' xSchemePreds.length cSchemePreds', .int .i64 iSchemeTypeKind, .int .i64 iSchemeTypeId, .string sSchemeTypeName, .slice ASchemeTypeArgs' xSchemeTypeArgs.length cSchemeTypeArgs'] 163))
  have BK0 := Lib.hid (blk_old (blk_new w (.cells #[.string sName, .string sClass, .int .i64 iSchemeCount, .slice ASchemePreds xSchemePreds.length cSchemePreds, .int .i64 iSchemeTypeKind, .int .i64 iSchemeTypeId, .string sSchemeTypeName, .slice ASchemeTypeArgs xSchemeTypeArgs.length cSchemeTypeArgs] 163)) (.cells #[.string sName, .string sClass, .int .i64 iSchemeCount, .slice ASchemePreds' xSchemePreds.length cSchemePreds', .int .i64 iSchemeTypeKind, .int .i64 iSchemeTypeId, .string sSchemeTypeName, .slice ASchemeTypeArgs' xSchemeTypeArgs.length cSchemeTypeArgs'] 163))
  have BJ0 := Lib.hid (blk_new (w.alloc (.cells #[.string sName, .string sClass, .int .i64 iSchemeCount, .slice ASchemePreds xSchemePreds.length cSchemePreds, .int .i64 iSchemeTypeKind, .int .i64 iSchemeTypeId, .string sSchemeTypeName, .slice ASchemeTypeArgs xSchemeTypeArgs.length cSchemeTypeArgs] 163)) (.cells #[.string sName, .string sClass, .int .i64 iSchemeCount, .slice ASchemePreds' xSchemePreds.length cSchemePreds', .int .i64 iSchemeTypeKind, .int .i64 iSchemeTypeId, .string sSchemeTypeName, .slice ASchemeTypeArgs' xSchemeTypeArgs.length cSchemeTypeArgs'] 163))
  have RDScheme := Lib.hid rdScheme
  have RDScheme' := Lib.hid rdScheme'
  have IHScheme := Lib.hid ihScheme
  clear h h' rdScheme rdScheme' ihScheme
  go_enter Try.func113, Try.ntmps113
  go_wp2_with fail
  refine (IHScheme.out _ _ _ (RDScheme.out.below HB0.out) (RDScheme'.out.below HB0.out)).mono ?_
  rintro e w1 ⟨rfl, hb⟩
  have HB1 := Lib.hid (HB0.out.trans (hb.mono HB0.out.size))
  have BK1 := Lib.hid (blk_below BK0.out hb)
  have BJ1 := Lib.hid (blk_below BJ0.out hb)
  clear hb
  have z1_0 := blk_cell BK1.out 0
  have z1_1 := blk_cell BK1.out 1
  have z1_2 := blk_cell BK1.out 2
  have z1_3 := blk_cell BK1.out 3
  have z1_4 := blk_cell BK1.out 4
  have z1_5 := blk_cell BK1.out 5
  have z1_6 := blk_cell BK1.out 6
  have z1_7 := blk_cell BK1.out 7
  have y1_0 := blk_cell BJ1.out 0
  have y1_1 := blk_cell BJ1.out 1
  have y1_2 := blk_cell BJ1.out 2
  have y1_3 := blk_cell BJ1.out 3
  have y1_4 := blk_cell BJ1.out 4
  have y1_5 := blk_cell BJ1.out 5
  have y1_6 := blk_cell BJ1.out 6
  have y1_7 := blk_cell BJ1.out 7
  simp at z1_0 z1_1 z1_2 z1_3 z1_4 z1_5 z1_6 z1_7 y1_0 y1_1 y1_2 y1_3 y1_4 y1_5 y1_6 y1_7
  go_wp2
  go_ret
  exact ⟨rfl, HB1.out⟩

set_option maxRecDepth 100000 in
theorem toMethodInfo_of (sName : ByteArray) (sClass : ByteArray) (iSchemeCount : Int) (xSchemePreds : List D) (iSchemeTypeKind : Int) (iSchemeTypeId : Int) (sSchemeTypeName : ByteArray) (xSchemeTypeArgs : List D) (ihScheme : ToA Try.prog 160 (D.struct [.int .i64 iSchemeCount, .slice 2 xSchemePreds, .struct [.int .i64 iSchemeTypeKind, .int .i64 iSchemeTypeId, .str sSchemeTypeName, .slice 4 xSchemeTypeArgs]])) : ToA Try.prog 122 (.struct [.str sName, .str sClass, .struct [.int .i64 iSchemeCount, .slice 2 xSchemePreds, .struct [.int .i64 iSchemeTypeKind, .int .i64 iSchemeTypeId, .str sSchemeTypeName, .slice 4 xSchemeTypeArgs]]]) := by
  intro w cs h
  obtain ⟨ASchemePreds, cSchemePreds, ASchemeTypeArgs, cSchemeTypeArgs, rfl, rdScheme⟩ := openMethodInfo h
  have RDScheme := Lib.hid rdScheme
  have IHScheme := Lib.hid ihScheme
  clear h rdScheme ihScheme
  go_enter Try.func122, Try.ntmps122
  go_wp2_with fail
  have HB0 := Lib.hid ((((Below.refl w.heap.size w).alloc (Nat.le_refl _) (.cells #[.string sName, .string sClass, .int .i64 iSchemeCount, .slice ASchemePreds xSchemePreds.length cSchemePreds, .int .i64 iSchemeTypeKind, .int .i64 iSchemeTypeId, .string sSchemeTypeName, .slice ASchemeTypeArgs xSchemeTypeArgs.length cSchemeTypeArgs] 180)).alloc (by simp) (.cells #[.string ⟨#[]⟩, .string ⟨#[]⟩, .int .i64 0, .slice none 0 0, .int .i64 0, .int .i64 0, .string ⟨#[]⟩, .slice none 0 0] 163)).alloc (by simp; omega) (.cells #[.string sName, .string sClass, .int .i64 0, .slice none 0 0, .int .i64 0, .int .i64 0, .string ⟨#[]⟩, .slice none 0 0] 163))
  have HS0 := Lib.hid (show (((w.alloc (.cells #[.string sName, .string sClass, .int .i64 iSchemeCount, .slice ASchemePreds xSchemePreds.length cSchemePreds, .int .i64 iSchemeTypeKind, .int .i64 iSchemeTypeId, .string sSchemeTypeName, .slice ASchemeTypeArgs xSchemeTypeArgs.length cSchemeTypeArgs] 180)).alloc (.cells #[.string ⟨#[]⟩, .string ⟨#[]⟩, .int .i64 0, .slice none 0 0, .int .i64 0, .int .i64 0, .string ⟨#[]⟩, .slice none 0 0] 163)).alloc (.cells #[.string sName, .string sClass, .int .i64 0, .slice none 0 0, .int .i64 0, .int .i64 0, .string ⟨#[]⟩, .slice none 0 0] 163)).heap.size = w.heap.size + 3 by simp)
  have BA0 := Lib.hid (blk_old (blk_old (blk_new w (.cells #[.string sName, .string sClass, .int .i64 iSchemeCount, .slice ASchemePreds xSchemePreds.length cSchemePreds, .int .i64 iSchemeTypeKind, .int .i64 iSchemeTypeId, .string sSchemeTypeName, .slice ASchemeTypeArgs xSchemeTypeArgs.length cSchemeTypeArgs] 180)) (.cells #[.string ⟨#[]⟩, .string ⟨#[]⟩, .int .i64 0, .slice none 0 0, .int .i64 0, .int .i64 0, .string ⟨#[]⟩, .slice none 0 0] 163)) (.cells #[.string sName, .string sClass, .int .i64 0, .slice none 0 0, .int .i64 0, .int .i64 0, .string ⟨#[]⟩, .slice none 0 0] 163))
  have BR0 := Lib.hid (blk_old (blk_new_g (w := w.alloc (.cells #[.string sName, .string sClass, .int .i64 iSchemeCount, .slice ASchemePreds xSchemePreds.length cSchemePreds, .int .i64 iSchemeTypeKind, .int .i64 iSchemeTypeId, .string sSchemeTypeName, .slice ASchemeTypeArgs xSchemeTypeArgs.length cSchemeTypeArgs] 180)) (g := w.heap.size + 1) (o := (.cells #[.string ⟨#[]⟩, .string ⟨#[]⟩, .int .i64 0, .slice none 0 0, .int .i64 0, .int .i64 0, .string ⟨#[]⟩, .slice none 0 0] 163)) (by simp)) (.cells #[.string sName, .string sClass, .int .i64 0, .slice none 0 0, .int .i64 0, .int .i64 0, .string ⟨#[]⟩, .slice none 0 0] 163))
  have BO0 := Lib.hid (blk_new_g (w := (w.alloc (.cells #[.string sName, .string sClass, .int .i64 iSchemeCount, .slice ASchemePreds xSchemePreds.length cSchemePreds, .int .i64 iSchemeTypeKind, .int .i64 iSchemeTypeId, .string sSchemeTypeName, .slice ASchemeTypeArgs xSchemeTypeArgs.length cSchemeTypeArgs] 180)).alloc (.cells #[.string ⟨#[]⟩, .string ⟨#[]⟩, .int .i64 0, .slice none 0 0, .int .i64 0, .int .i64 0, .string ⟨#[]⟩, .slice none 0 0] 163)) (g := w.heap.size + 2) (o := (.cells #[.string sName, .string sClass, .int .i64 0, .slice none 0 0, .int .i64 0, .int .i64 0, .string ⟨#[]⟩, .slice none 0 0] 163)) (by simp))
  refine (IHScheme.out _ _ (RDScheme.out.below HB0.out)).mono ?_
  rintro e w1 ⟨vScheme, rfl, hfr, hb⟩
  obtain ⟨BSchemePreds, dSchemePreds, BSchemeTypeArgs, dSchemeTypeArgs, rfl, _, _⟩ := openScheme hfr.rd
  have hr := hfr.range
  have hsz := hb.size
  rw [HS0.out] at hr hsz
  have FRScheme := Lib.hid hr
  have SY1 := Lib.hid hsz
  have SZ1 := Lib.hid (show w.heap.size + 3 ≤ w1.heap.size by omega)
  have HB1 := Lib.hid (HB0.out.trans (hb.mono HB0.out.size))
  have BA1 := Lib.hid (blk_below BA0.out hb)
  have BR1 := Lib.hid (blk_below BR0.out hb)
  have BO1 := Lib.hid (blk_below BO0.out hb)
  clear hb hfr hr hsz
  have za1_0 := blk_cell BA1.out 0
  have za1_1 := blk_cell BA1.out 1
  have za1_2 := blk_cell BA1.out 2
  have za1_3 := blk_cell BA1.out 3
  have za1_4 := blk_cell BA1.out 4
  have za1_5 := blk_cell BA1.out 5
  have za1_6 := blk_cell BA1.out 6
  have za1_7 := blk_cell BA1.out 7
  have zo1_0 := blk_cell BO1.out 0
  have zo1_f0 := blk_frozen BO1.out 0
  have zo1_1 := blk_cell BO1.out 1
  have zo1_f1 := blk_frozen BO1.out 1
  have zo1_2 := blk_cell BO1.out 2
  have zo1_f2 := blk_frozen BO1.out 2
  have zo1_3 := blk_cell BO1.out 3
  have zo1_f3 := blk_frozen BO1.out 3
  have zo1_4 := blk_cell BO1.out 4
  have zo1_f4 := blk_frozen BO1.out 4
  have zo1_5 := blk_cell BO1.out 5
  have zo1_f5 := blk_frozen BO1.out 5
  have zo1_6 := blk_cell BO1.out 6
  have zo1_f6 := blk_frozen BO1.out 6
  have zo1_7 := blk_cell BO1.out 7
  have zo1_f7 := blk_frozen BO1.out 7
  have zr1_0 := blk_cell BR1.out 0
  have zr1_f0 := blk_frozen BR1.out 0
  have zr1_1 := blk_cell BR1.out 1
  have zr1_f1 := blk_frozen BR1.out 1
  have zr1_2 := blk_cell BR1.out 2
  have zr1_f2 := blk_frozen BR1.out 2
  have zr1_3 := blk_cell BR1.out 3
  have zr1_f3 := blk_frozen BR1.out 3
  have zr1_4 := blk_cell BR1.out 4
  have zr1_f4 := blk_frozen BR1.out 4
  have zr1_5 := blk_cell BR1.out 5
  have zr1_f5 := blk_frozen BR1.out 5
  have zr1_6 := blk_cell BR1.out 6
  have zr1_f6 := blk_frozen BR1.out 6
  have zr1_7 := blk_cell BR1.out 7
  have zr1_f7 := blk_frozen BR1.out 7
  simp at za1_0 za1_1 za1_2 za1_3 za1_4 za1_5 za1_6 za1_7 zo1_0 zo1_f0 zo1_1 zo1_f1 zo1_2 zo1_f2 zo1_3 zo1_f3 zo1_4 zo1_f4 zo1_5 zo1_f5 zo1_6 zo1_f6 zo1_7 zo1_f7 zr1_0 zr1_f0 zr1_1 zr1_f1 zr1_2 zr1_f2 zr1_3 zr1_f3 zr1_4 zr1_f4 zr1_5 zr1_f5 zr1_6 zr1_f6 zr1_7 zr1_f7
  have HB1 := Lib.hid ((((((HB1.out.setCell (p := ⟨w.heap.size + 2, 2, none⟩) (by simp) (.int .i64 iSchemeCount)).setCell (p := ⟨w.heap.size + 2, 3, none⟩) (by simp) (.slice BSchemePreds xSchemePreds.length dSchemePreds)).setCell (p := ⟨w.heap.size + 2, 4, none⟩) (by simp) (.int .i64 iSchemeTypeKind)).setCell (p := ⟨w.heap.size + 2, 5, none⟩) (by simp) (.int .i64 iSchemeTypeId)).setCell (p := ⟨w.heap.size + 2, 6, none⟩) (by simp) (.string sSchemeTypeName)).setCell (p := ⟨w.heap.size + 2, 7, none⟩) (by simp) (.slice BSchemeTypeArgs xSchemeTypeArgs.length dSchemeTypeArgs))
  have BA1 := Lib.hid (blk_far (blk_far (blk_far (blk_far (blk_far (blk_far BA1.out (p := ⟨w.heap.size + 2, 2, none⟩) (by simp) (.int .i64 iSchemeCount)) (p := ⟨w.heap.size + 2, 3, none⟩) (by simp) (.slice BSchemePreds xSchemePreds.length dSchemePreds)) (p := ⟨w.heap.size + 2, 4, none⟩) (by simp) (.int .i64 iSchemeTypeKind)) (p := ⟨w.heap.size + 2, 5, none⟩) (by simp) (.int .i64 iSchemeTypeId)) (p := ⟨w.heap.size + 2, 6, none⟩) (by simp) (.string sSchemeTypeName)) (p := ⟨w.heap.size + 2, 7, none⟩) (by simp) (.slice BSchemeTypeArgs xSchemeTypeArgs.length dSchemeTypeArgs))
  have BR1 := Lib.hid (blk_far (blk_far (blk_far (blk_far (blk_far (blk_far BR1.out (p := ⟨w.heap.size + 2, 2, none⟩) (by simp) (.int .i64 iSchemeCount)) (p := ⟨w.heap.size + 2, 3, none⟩) (by simp) (.slice BSchemePreds xSchemePreds.length dSchemePreds)) (p := ⟨w.heap.size + 2, 4, none⟩) (by simp) (.int .i64 iSchemeTypeKind)) (p := ⟨w.heap.size + 2, 5, none⟩) (by simp) (.int .i64 iSchemeTypeId)) (p := ⟨w.heap.size + 2, 6, none⟩) (by simp) (.string sSchemeTypeName)) (p := ⟨w.heap.size + 2, 7, none⟩) (by simp) (.slice BSchemeTypeArgs xSchemeTypeArgs.length dSchemeTypeArgs))
  have BO1 := Lib.hid ((blk_set (blk_set (blk_set (blk_set (blk_set (blk_set BO1.out 2 (.int .i64 iSchemeCount)) 3 (.slice BSchemePreds xSchemePreds.length dSchemePreds)) 4 (.int .i64 iSchemeTypeKind)) 5 (.int .i64 iSchemeTypeId)) 6 (.string sSchemeTypeName)) 7 (.slice BSchemeTypeArgs xSchemeTypeArgs.length dSchemeTypeArgs)).trans (show _ = some (Obj.cells #[.string sName, .string sClass, .int .i64 iSchemeCount, .slice BSchemePreds xSchemePreds.length dSchemePreds, .int .i64 iSchemeTypeKind, .int .i64 iSchemeTypeId, .string sSchemeTypeName, .slice BSchemeTypeArgs xSchemeTypeArgs.length dSchemeTypeArgs] 163 (0, 0)) from rfl))
  have FRScheme := Lib.hid ((((((FRScheme.out.set (p := ⟨w.heap.size + 2, 2, none⟩) (by simp) (.int .i64 iSchemeCount)).set (p := ⟨w.heap.size + 2, 3, none⟩) (by simp) (.slice BSchemePreds xSchemePreds.length dSchemePreds)).set (p := ⟨w.heap.size + 2, 4, none⟩) (by simp) (.int .i64 iSchemeTypeKind)).set (p := ⟨w.heap.size + 2, 5, none⟩) (by simp) (.int .i64 iSchemeTypeId)).set (p := ⟨w.heap.size + 2, 6, none⟩) (by simp) (.string sSchemeTypeName)).set (p := ⟨w.heap.size + 2, 7, none⟩) (by simp) (.slice BSchemeTypeArgs xSchemeTypeArgs.length dSchemeTypeArgs))
  go_wp2
  have HB1 := Lib.hid ((((((((HB1.out.setCell (p := ⟨w.heap.size + 1, 0, none⟩) (by simp) (.string sName)).setCell (p := ⟨w.heap.size + 1, 1, none⟩) (by simp) (.string sClass)).setCell (p := ⟨w.heap.size + 1, 2, none⟩) (by simp) (.int .i64 iSchemeCount)).setCell (p := ⟨w.heap.size + 1, 3, none⟩) (by simp) (.slice BSchemePreds xSchemePreds.length dSchemePreds)).setCell (p := ⟨w.heap.size + 1, 4, none⟩) (by simp) (.int .i64 iSchemeTypeKind)).setCell (p := ⟨w.heap.size + 1, 5, none⟩) (by simp) (.int .i64 iSchemeTypeId)).setCell (p := ⟨w.heap.size + 1, 6, none⟩) (by simp) (.string sSchemeTypeName)).setCell (p := ⟨w.heap.size + 1, 7, none⟩) (by simp) (.slice BSchemeTypeArgs xSchemeTypeArgs.length dSchemeTypeArgs))
  have FRScheme := Lib.hid ((((((((FRScheme.out.set (p := ⟨w.heap.size + 1, 0, none⟩) (by simp) (.string sName)).set (p := ⟨w.heap.size + 1, 1, none⟩) (by simp) (.string sClass)).set (p := ⟨w.heap.size + 1, 2, none⟩) (by simp) (.int .i64 iSchemeCount)).set (p := ⟨w.heap.size + 1, 3, none⟩) (by simp) (.slice BSchemePreds xSchemePreds.length dSchemePreds)).set (p := ⟨w.heap.size + 1, 4, none⟩) (by simp) (.int .i64 iSchemeTypeKind)).set (p := ⟨w.heap.size + 1, 5, none⟩) (by simp) (.int .i64 iSchemeTypeId)).set (p := ⟨w.heap.size + 1, 6, none⟩) (by simp) (.string sSchemeTypeName)).set (p := ⟨w.heap.size + 1, 7, none⟩) (by simp) (.slice BSchemeTypeArgs xSchemeTypeArgs.length dSchemeTypeArgs))
  refine bodyPost_ret (v := .agg #[.string sName, .string sClass, .int .i64 iSchemeCount, .slice BSchemePreds xSchemePreds.length dSchemePreds, .int .i64 iSchemeTypeKind, .int .i64 iSchemeTypeId, .string sSchemeTypeName, .slice BSchemeTypeArgs xSchemeTypeArgs.length dSchemeTypeArgs]) (by simp [results, Try.results122, go_sem, zr1_0, zr1_1, zr1_2, zr1_3, zr1_4, zr1_5, zr1_6, zr1_7]) rfl ⟨[.string sName, .string sClass, .int .i64 iSchemeCount, .slice BSchemePreds xSchemePreds.length dSchemePreds, .int .i64 iSchemeTypeKind, .int .i64 iSchemeTypeId, .string sSchemeTypeName, .slice BSchemeTypeArgs xSchemeTypeArgs.length dSchemeTypeArgs], rfl, ?_, HB1.out⟩
  rw [fr_struct]
  have sy1 := SY1.out
  exact FrFR.fr (B := w.heap.size + 3) (frFR_str (frFR_str (frFR_cons (B2 := w1.heap.size) (C := w1.heap.size) FRScheme.out (frFR_nil w1.heap.size w1.heap.size _) (Nat.le_refl _) (by omega) (by omega)))) (by omega)

set_option maxRecDepth 100000 in
theorem szMethodInfoS_of (xs : List D) (hn : xs.length ≤ 140737488351232) (ih : ∀ x ∈ xs, SzA Try.prog 117 x) : SzO Try.prog 79 (.slice 8 xs) := by
  intro w v left h h0 h1
  obtain ⟨A, c, rfl, _, _, hrow⟩ := rd_slice1 h
  have IH := Lib.hid ih
  have H := Lib.hid hrow
  have TOT := Lib.hid (show D.bulk (.slice 8 xs) = xs.length + D.bulks xs by simp only [D.bulk])
  clear ih h hrow
  go_enter Try.func79, Try.ntmps79
  go_wp2_with fail
  · go_ret
    exact ⟨ret_int (szR_neg' (by rw [TOT.out]; omega)).symm, Below.refl _ _⟩
  · go_loopw [5, 1] (fun i l wr => ∃ j : Nat, j ≤ xs.length ∧ i = .int .i64 j ∧ l = .int .i64 (left - xs.length - D.bulks (xs.take j)) ∧ 0 ≤ left - xs.length - D.bulks (xs.take j) ∧ Below w.heap.size w wr) (fun i _ _ => xs.length - (intOf i).toNat)
    case atStart => exact ⟨0, Nat.zero_le _, rfl, by simp [D.bulks], by simp [D.bulks]; omega, Below.refl _ _⟩
    case round =>
      obtain ⟨j, hj, rfl, rfl, hl, hb⟩ := hrel
      by_cases hlt : j < xs.length
      · obtain ⟨b, off, cs, rfl, hcl, hrd, hc⟩ := (RdRow.below H.out (by omega) hb).get (List.getElem?_eq_getElem hlt)
        obtain ⟨u0, u1, u2, u3, u4, u5, u6, u7, rfl⟩ := cells8 hcl
        have c0 : wr.cell? ⟨b, off + j * 8, none⟩ = some u0 := hc 0 _ rfl
        have c1 : wr.cell? ⟨b, off + j * 8 + 1, none⟩ = some u1 := hc 1 _ rfl
        have c2 : wr.cell? ⟨b, off + j * 8 + 2, none⟩ = some u2 := hc 2 _ rfl
        have c3 : wr.cell? ⟨b, off + j * 8 + 3, none⟩ = some u3 := hc 3 _ rfl
        have c4 : wr.cell? ⟨b, off + j * 8 + 4, none⟩ = some u4 := hc 4 _ rfl
        have c5 : wr.cell? ⟨b, off + j * 8 + 5, none⟩ = some u5 := hc 5 _ rfl
        have c6 : wr.cell? ⟨b, off + j * 8 + 6, none⟩ = some u6 := hc 6 _ rfl
        have c7 : wr.cell? ⟨b, off + j * 8 + 7, none⟩ = some u7 := hc 7 _ rfl
        have CAL := Lib.hid (IH.out _ (List.getElem_mem hlt) wr _ (left - xs.length - D.bulks (xs.take j)) hrd hl (by omega))
        have HB := Lib.hid hb
        have T := Lib.hid (D.bulks_take xs j hlt)
        have T2 := Lib.hid (D.bulks_take_le xs (j + 1))
        clear hrd hcl hc hb
        go_wp2_with fail
        refine CAL.out.mono ?_
        rintro e w1 ⟨rfl, hb1⟩
        have HB1 := Lib.hid (HB.out.trans (hb1.mono HB.out.size))
        clear hb1 CAL
        by_cases hz : left - xs.length - D.bulks (xs.take j) < xs[j].bulk
        · rw [szR_neg' hz]
          go_wp2
          go_ret
          exact ⟨ret_int (szR_neg' (by rw [TOT.out]; have h6 := T.out; have h7 := T2.out; omega)).symm, HB1.out⟩
        · rw [szR_fit (by omega)]
          go_wp2
          go_roundw
          case rel => exact ⟨j + 1, by omega, by go_num, by rw [T.out]; go_num, by rw [T.out]; omega, HB1.out⟩
          case measure => simp [intOf]; omega
      · obtain rfl : j = xs.length := by omega
        rw [List.take_length] at hl ⊢
        have HB := Lib.hid hb
        clear hb
        go_wp2
        go_ret
        exact ⟨ret_int ((szR_fit (by rw [TOT.out]; omega)).trans (by rw [TOT.out] <;> omega)).symm, HB.out⟩

set_option maxRecDepth 100000 in
theorem eqMethodInfoS_of (xs : List D) (hn : xs.length ≤ 140737488351232) (ih : ∀ x ∈ xs, EqA Try.prog 113 x) : EqO Try.prog 64 (.slice 8 xs) := by
  intro w v v' h h'
  obtain ⟨A, c, rfl, _, _, hrow⟩ := rd_slice1 h
  obtain ⟨A', c', rfl, _, _, hrow'⟩ := rd_slice1 h'
  have IH := Lib.hid ih
  have H := Lib.hid hrow
  have H' := Lib.hid hrow'
  clear ih h h' hrow hrow'
  go_enter Try.func64, Try.ntmps64
  go_wp2_with fail
  go_loopw [5] (fun i wr => ∃ j : Nat, j ≤ xs.length ∧ i = .int .i64 j ∧ Below w.heap.size w wr) (fun i _ => xs.length - (intOf i).toNat)
  case atStart => exact ⟨0, Nat.zero_le _, rfl, Below.refl _ _⟩
  case round =>
    obtain ⟨j, hj, rfl, hb⟩ := hrel
    by_cases hlt : j < xs.length
    · obtain ⟨b, off, cs, rfl, hcl, hrd, hc⟩ := (RdRow.below H.out (by omega) hb).get (List.getElem?_eq_getElem hlt)
      obtain ⟨b', off', cs', rfl, hcl', hrd', hc'⟩ := (RdRow.below H'.out (by omega) hb).get (List.getElem?_eq_getElem hlt)
      obtain ⟨u0, u1, u2, u3, u4, u5, u6, u7, rfl⟩ := cells8 hcl
      obtain ⟨v0, v1, v2, v3, v4, v5, v6, v7, rfl⟩ := cells8 hcl'
      have c0 : wr.cell? ⟨b, off + j * 8, none⟩ = some u0 := hc 0 _ rfl
      have d0 : wr.cell? ⟨b', off' + j * 8, none⟩ = some v0 := hc' 0 _ rfl
      have c1 : wr.cell? ⟨b, off + j * 8 + 1, none⟩ = some u1 := hc 1 _ rfl
      have d1 : wr.cell? ⟨b', off' + j * 8 + 1, none⟩ = some v1 := hc' 1 _ rfl
      have c2 : wr.cell? ⟨b, off + j * 8 + 2, none⟩ = some u2 := hc 2 _ rfl
      have d2 : wr.cell? ⟨b', off' + j * 8 + 2, none⟩ = some v2 := hc' 2 _ rfl
      have c3 : wr.cell? ⟨b, off + j * 8 + 3, none⟩ = some u3 := hc 3 _ rfl
      have d3 : wr.cell? ⟨b', off' + j * 8 + 3, none⟩ = some v3 := hc' 3 _ rfl
      have c4 : wr.cell? ⟨b, off + j * 8 + 4, none⟩ = some u4 := hc 4 _ rfl
      have d4 : wr.cell? ⟨b', off' + j * 8 + 4, none⟩ = some v4 := hc' 4 _ rfl
      have c5 : wr.cell? ⟨b, off + j * 8 + 5, none⟩ = some u5 := hc 5 _ rfl
      have d5 : wr.cell? ⟨b', off' + j * 8 + 5, none⟩ = some v5 := hc' 5 _ rfl
      have c6 : wr.cell? ⟨b, off + j * 8 + 6, none⟩ = some u6 := hc 6 _ rfl
      have d6 : wr.cell? ⟨b', off' + j * 8 + 6, none⟩ = some v6 := hc' 6 _ rfl
      have c7 : wr.cell? ⟨b, off + j * 8 + 7, none⟩ = some u7 := hc 7 _ rfl
      have d7 : wr.cell? ⟨b', off' + j * 8 + 7, none⟩ = some v7 := hc' 7 _ rfl
      have CAL := Lib.hid (IH.out _ (List.getElem_mem hlt) wr.drew _ _ (hrd.below (Below.refl _ _).drew) (hrd'.below (Below.refl _ _).drew))
      have HB := Lib.hid hb
      clear hrd hcl hc hb hrd' hcl' hc' H H'
      go_wp2_with fail
      go_still_tail 8, (by kernel_rfl)
      go_wp2_with fail
      refine CAL.out.mono ?_
      rintro e w1 ⟨rfl, hb1⟩
      have HB1 := Lib.hid (HB.out.drew.trans (hb1.mono HB.out.size))
      clear hb1 CAL
      go_wp2
      go_roundw
      case rel => exact ⟨j + 1, by omega, by go_num, HB1.out⟩
      case measure => simp [intOf]; omega
    · obtain rfl : j = xs.length := by omega
      have HB := Lib.hid hb
      clear hb
      go_wp2
      go_ret
      exact ⟨rfl, HB.out⟩

theorem infoMethodInfoS : (Try.prog.info? 163).map (fun i => (i.zero, i.size, i.bytes)) = some (some (.agg #[.string ⟨#[]⟩, .string ⟨#[]⟩, .int .i64 0, .slice none 0 0, .int .i64 0, .int .i64 0, .string ⟨#[]⟩, .slice none 0 0]), 8, 120) := by kernel_rfl
theorem infoZMethodInfoS : (Try.prog.info? 163).map (·.size) = some 8 := by kernel_rfl
theorem infoLMethodInfoS : (Try.prog.info? 180).map (·.size) = some 8 := by kernel_rfl
set_option maxRecDepth 100000 in
theorem toMethodInfoS_of (xs : List D) (hn : xs.length ≤ 1048576) (hsz : ∀ x ∈ xs, x.n = 8) (ih : ∀ x ∈ xs, ToA Try.prog 122 x) : ToO Try.prog 84 (.slice 8 xs) := by
  intro w v h
  obtain ⟨A, c, rfl, _, _, hrow⟩ := rd_slice1 h
  have IH := Lib.hid ih
  have H := Lib.hid hrow
  clear ih h hrow
  obtain ⟨i0, hi, hz0, hz1, hz2⟩ := info_parts infoMethodInfoS
  have hmk := run_make (P := Try.prog) w 36 163 i0 _ Try.underlying36 hi hz0 .i64 .i64 (xs.length : Int) (xs.length : Int) (by omega) (by omega) (by rw [hz2]; omega) (by omega)
  rw [hz1, Int.toNat_natCast] at hmk
  clear hi hz0 hz1 hz2
  go_enter Try.func84, Try.ntmps84
  go_wp2_with fail
  go_loopw [4] (fun i wr => ∃ j : Nat, j ≤ xs.length ∧ i = .int .i64 j ∧ Below w.heap.size w wr ∧ Fill w.heap.size wr w.heap.size 163 8 xs.length (xs.take j)) (fun i _ => xs.length - (intOf i).toNat)
  case atStart => exact ⟨0, Nat.zero_le _, rfl, (Below.refl _ _).alloc (Nat.le_refl _) _, by rw [List.take_zero]; exact Fill.start (Nat.le_refl _) (by simp [size_madeCells])⟩
  case round =>
    obtain ⟨j, hj, rfl, hb, hf⟩ := hrel
    clear hmk
    by_cases hlt : j < xs.length
    · have hk : (xs.take j).length = j := by rw [List.length_take]; omega
      obtain ⟨b, off, cs, rfl, hcl, hrd, hc⟩ := (RdRow.below H.out (by omega) hb).get (List.getElem?_eq_getElem hlt)
      have CAL := Lib.hid (IH.out _ (List.getElem_mem hlt) wr _ hrd)
      have HB := Lib.hid hb
      have HF := Lib.hid hf
      have HC := Lib.hid hc
      clear hrd hc hb hf H
      go_wp2_with (refine wpList_load_mid rfl 180 (.tmp 18) rfl b (off + j * 8) rfl cs _ HC.out Try.underlying180 rfl (by rw [hcl]; exact infoLMethodInfoS) ?_)
      refine CAL.out.mono ?_
      rintro e w1 ⟨cs', rfl, hfr, hb1⟩
      have hl : cs'.length = 8 := hfr.len.trans (hsz _ (List.getElem_mem hlt))
      have HL := Lib.hid hl
      have TH := Lib.hid ((HF.out.below hb1).there hlt)
      have HF1 := Lib.hid (HF.out.store hb1 hfr hl (by rw [hk]; exact hlt))
      rw [hk] at HF1
      have HONE := Lib.hid hfr.all
      have HB1 := Lib.hid (below_setCells (Nat.le_refl w.heap.size) cs' (j * 8) (HB.out.trans (hb1.mono HB.out.size)))
      clear hb1 hfr hl hk CAL
      go_wp2_with (refine wpList_store_mid rfl 163 (.tmp 21) (.tmp 20) rfl w.heap.size (j * 8) cs'.toArray rfl rfl (by simpa [HL.out] using TH.out) (by simpa [HL.out] using infoZMethodInfoS) HONE.out ?_)
      go_roundw
      case rel =>
        refine ⟨j + 1, by omega, by go_num, HB1.out, ?_⟩
        rw [List.take_succ_eq_append_getElem hlt]
        exact HF1.out
      case measure => simp [intOf]; omega
    · obtain rfl : j = xs.length := by omega
      rw [List.take_length] at hf
      have HB := Lib.hid hb
      have HF := Lib.hid (hf.done rfl (by simp only [maxLen]; omega))
      clear hb hf H
      go_wp2
      go_ret
      exact ⟨_, rfl, HF.out, HB.out⟩

theorem openClassInfo {sName : ByteArray} {xSupers : List D} {xMethods : List D} {w : World} {cs : List Value} (h : Rd w (.struct [.str sName, .slice 1 xSupers, .slice 1 xMethods]) cs) : ∃ (ASupers : Option Addr) (cSupers : Nat) (AMethods : Option Addr) (cMethods : Nat), cs = [.string sName, .slice ASupers xSupers.length cSupers, .slice AMethods xMethods.length cMethods] ∧ Rd w (D.slice 1 xSupers) [.slice ASupers xSupers.length cSupers] ∧ Rd w (D.slice 1 xMethods) [.slice AMethods xMethods.length cMethods] := by
  rw [rd_struct] at h
  simp only [rdF_cons, rdF_nil, rd_int, rd_bool, rd_str] at h
  obtain ⟨e0, r0, rfl, rfl, e1, r1, rfl, hSupers, e2, r2, rfl, hMethods, rfl⟩ := h
  have kSupers := hSupers
  obtain ⟨ASupers, cSupers, rfl, _⟩ := rd_slice hSupers
  have kMethods := hMethods
  obtain ⟨AMethods, cMethods, rfl, _⟩ := rd_slice hMethods
  exact ⟨ASupers, cSupers, AMethods, cMethods, by simp, kSupers, kMethods⟩

set_option maxRecDepth 100000 in
theorem szClassInfo_of (sName : ByteArray) (xSupers : List D) (xMethods : List D) (hsName : sName.size ≤ 140737488351232) (ihSupers : SzO Try.prog 155 (D.slice 1 xSupers)) (ihMethods : SzO Try.prog 155 (D.slice 1 xMethods)) : SzA Try.prog 118 (.struct [.str sName, .slice 1 xSupers, .slice 1 xMethods]) := by
  intro w cs left h h0 h1
  obtain ⟨ASupers, cSupers, AMethods, cMethods, rfl, rdSupers, rdMethods⟩ := openClassInfo h
  have TOT := Lib.hid (show D.bulk (.struct [.str sName, .slice 1 xSupers, .slice 1 xMethods]) = sName.size + (D.slice 1 xSupers).bulk + (D.slice 1 xMethods).bulk by simp only [D.bulk, D.bulks] <;> omega)
  have HB0 := Lib.hid ((Below.refl w.heap.size w).alloc (Nat.le_refl _) (.cells #[.string sName, .slice ASupers xSupers.length cSupers, .slice AMethods xMethods.length cMethods] 182))
  have BK0 := Lib.hid (blk_new w (.cells #[.string sName, .slice ASupers xSupers.length cSupers, .slice AMethods xMethods.length cMethods] 182))
  have RDSupers := Lib.hid rdSupers
  have IHSupers := Lib.hid ihSupers
  have RDMethods := Lib.hid rdMethods
  have IHMethods := Lib.hid ihMethods
  clear h rdSupers ihSupers rdMethods ihMethods
  go_enter Try.func118, Try.ntmps118
  go_wp2_with fail
  · go_ret
    exact ⟨ret_int (szR_neg' (by rw [TOT.out]; omega)).symm, HB0.out⟩
  · skip
    have hlSupers : 0 ≤ left - (sName.size : Int) := by omega
    refine (IHSupers.out _ _ (left - (sName.size : Int)) (RDSupers.out.below HB0.out) hlSupers (by omega)).mono ?_
    rintro e w1 ⟨rfl, hb⟩
    have HB1 := Lib.hid (HB0.out.trans (hb.mono HB0.out.size))
    have BK1 := Lib.hid (blk_below BK0.out hb)
    clear hb
    have z1_0 := blk_cell BK1.out 0
    have z1_1 := blk_cell BK1.out 1
    have z1_2 := blk_cell BK1.out 2
    simp at z1_0 z1_1 z1_2
    by_cases hzSupers : left - (sName.size : Int) < ((D.slice 1 xSupers).bulk : Int)
    · rw [szR_neg' hzSupers]
      go_wp2
      go_ret
      exact ⟨ret_int (szR_neg' (by rw [TOT.out]; omega)).symm, HB1.out⟩
    · rw [szR_fit (by omega)]
      go_wp2_with fail
      have hlMethods : 0 ≤ left - (sName.size : Int) - ((D.slice 1 xSupers).bulk : Int) := by omega
      refine (IHMethods.out _ _ (left - (sName.size : Int) - ((D.slice 1 xSupers).bulk : Int)) (RDMethods.out.below HB1.out) hlMethods (by omega)).mono ?_
      rintro e w2 ⟨rfl, hb⟩
      have HB2 := Lib.hid (HB1.out.trans (hb.mono HB1.out.size))
      have BK2 := Lib.hid (blk_below BK1.out hb)
      clear hb
      have z2_0 := blk_cell BK2.out 0
      have z2_1 := blk_cell BK2.out 1
      have z2_2 := blk_cell BK2.out 2
      simp at z2_0 z2_1 z2_2
      by_cases hzMethods : left - (sName.size : Int) - ((D.slice 1 xSupers).bulk : Int) < ((D.slice 1 xMethods).bulk : Int)
      · rw [szR_neg' hzMethods]
        go_wp2
        go_ret
        exact ⟨ret_int (szR_neg' (by rw [TOT.out]; omega)).symm, HB2.out⟩
      · rw [szR_fit (by omega)]
        go_wp2_with fail
        go_ret
        exact ⟨ret_int ((szR_fit (by rw [TOT.out]; omega)).trans (by rw [TOT.out] <;> omega)).symm, HB2.out⟩

set_option maxRecDepth 100000 in
theorem eqClassInfo_of (sName : ByteArray) (xSupers : List D) (xMethods : List D) (ihSupers : EqO Try.prog 37 (D.slice 1 xSupers)) (ihMethods : EqO Try.prog 37 (D.slice 1 xMethods)) : EqA Try.prog 114 (.struct [.str sName, .slice 1 xSupers, .slice 1 xMethods]) := by
  intro w cs cs' h h'
  obtain ⟨ASupers, cSupers, AMethods, cMethods, rfl, rdSupers, rdMethods⟩ := openClassInfo h
  obtain ⟨ASupers', cSupers', AMethods', cMethods', rfl, rdSupers', rdMethods'⟩ := openClassInfo h'
  have HB0 := Lib.hid (((Below.refl w.heap.size w).alloc (Nat.le_refl _) (.cells #[.string sName, .slice ASupers xSupers.length cSupers, .slice AMethods xMethods.length cMethods] 166)).alloc (by simp) (.cells #[.string sName, .slice ASupers' xSupers.length cSupers', .slice AMethods' xMethods.length cMethods'] 166))
  have BK0 := Lib.hid (blk_old (blk_new w (.cells #[.string sName, .slice ASupers xSupers.length cSupers, .slice AMethods xMethods.length cMethods] 166)) (.cells #[.string sName, .slice ASupers' xSupers.length cSupers', .slice AMethods' xMethods.length cMethods'] 166))
  have BJ0 := Lib.hid (blk_new (w.alloc (.cells #[.string sName, .slice ASupers xSupers.length cSupers, .slice AMethods xMethods.length cMethods] 166)) (.cells #[.string sName, .slice ASupers' xSupers.length cSupers', .slice AMethods' xMethods.length cMethods'] 166))
  have RDSupers := Lib.hid rdSupers
  have RDSupers' := Lib.hid rdSupers'
  have IHSupers := Lib.hid ihSupers
  have RDMethods := Lib.hid rdMethods
  have RDMethods' := Lib.hid rdMethods'
  have IHMethods := Lib.hid ihMethods
  clear h h' rdSupers rdSupers' ihSupers rdMethods rdMethods' ihMethods
  go_enter Try.func114, Try.ntmps114
  go_wp2_with fail
  refine (IHSupers.out _ _ _ (RDSupers.out.below HB0.out) (RDSupers'.out.below HB0.out)).mono ?_
  rintro e w1 ⟨rfl, hb⟩
  have HB1 := Lib.hid (HB0.out.trans (hb.mono HB0.out.size))
  have BK1 := Lib.hid (blk_below BK0.out hb)
  have BJ1 := Lib.hid (blk_below BJ0.out hb)
  clear hb
  have z1_0 := blk_cell BK1.out 0
  have z1_1 := blk_cell BK1.out 1
  have z1_2 := blk_cell BK1.out 2
  have y1_0 := blk_cell BJ1.out 0
  have y1_1 := blk_cell BJ1.out 1
  have y1_2 := blk_cell BJ1.out 2
  simp at z1_0 z1_1 z1_2 y1_0 y1_1 y1_2
  go_wp2_with fail
  refine (IHMethods.out _ _ _ (RDMethods.out.below HB1.out) (RDMethods'.out.below HB1.out)).mono ?_
  rintro e w2 ⟨rfl, hb⟩
  have HB2 := Lib.hid (HB1.out.trans (hb.mono HB1.out.size))
  have BK2 := Lib.hid (blk_below BK1.out hb)
  have BJ2 := Lib.hid (blk_below BJ1.out hb)
  clear hb
  have z2_0 := blk_cell BK2.out 0
  have z2_1 := blk_cell BK2.out 1
  have z2_2 := blk_cell BK2.out 2
  have y2_0 := blk_cell BJ2.out 0
  have y2_1 := blk_cell BJ2.out 1
  have y2_2 := blk_cell BJ2.out 2
  simp at z2_0 z2_1 z2_2 y2_0 y2_1 y2_2
  clear z1_0 y1_0 z1_1 y1_1 z1_2 y1_2
  go_wp2
  go_ret
  exact ⟨rfl, HB2.out⟩

set_option maxRecDepth 100000 in
theorem toClassInfo_of (sName : ByteArray) (xSupers : List D) (xMethods : List D) (ihSupers : ToO Try.prog 159 (D.slice 1 xSupers)) (ihMethods : ToO Try.prog 159 (D.slice 1 xMethods)) : ToA Try.prog 123 (.struct [.str sName, .slice 1 xSupers, .slice 1 xMethods]) := by
  intro w cs h
  obtain ⟨ASupers, cSupers, AMethods, cMethods, rfl, rdSupers, rdMethods⟩ := openClassInfo h
  have RDSupers := Lib.hid rdSupers
  have IHSupers := Lib.hid ihSupers
  have RDMethods := Lib.hid rdMethods
  have IHMethods := Lib.hid ihMethods
  clear h rdSupers ihSupers rdMethods ihMethods
  go_enter Try.func123, Try.ntmps123
  go_wp2_with fail
  have HB0 := Lib.hid ((((Below.refl w.heap.size w).alloc (Nat.le_refl _) (.cells #[.string sName, .slice ASupers xSupers.length cSupers, .slice AMethods xMethods.length cMethods] 182)).alloc (by simp) (.cells #[.string ⟨#[]⟩, .slice none 0 0, .slice none 0 0] 166)).alloc (by simp; omega) (.cells #[.string sName, .slice none 0 0, .slice none 0 0] 166))
  have HS0 := Lib.hid (show (((w.alloc (.cells #[.string sName, .slice ASupers xSupers.length cSupers, .slice AMethods xMethods.length cMethods] 182)).alloc (.cells #[.string ⟨#[]⟩, .slice none 0 0, .slice none 0 0] 166)).alloc (.cells #[.string sName, .slice none 0 0, .slice none 0 0] 166)).heap.size = w.heap.size + 3 by simp)
  have BA0 := Lib.hid (blk_old (blk_old (blk_new w (.cells #[.string sName, .slice ASupers xSupers.length cSupers, .slice AMethods xMethods.length cMethods] 182)) (.cells #[.string ⟨#[]⟩, .slice none 0 0, .slice none 0 0] 166)) (.cells #[.string sName, .slice none 0 0, .slice none 0 0] 166))
  have BR0 := Lib.hid (blk_old (blk_new_g (w := w.alloc (.cells #[.string sName, .slice ASupers xSupers.length cSupers, .slice AMethods xMethods.length cMethods] 182)) (g := w.heap.size + 1) (o := (.cells #[.string ⟨#[]⟩, .slice none 0 0, .slice none 0 0] 166)) (by simp)) (.cells #[.string sName, .slice none 0 0, .slice none 0 0] 166))
  have BO0 := Lib.hid (blk_new_g (w := (w.alloc (.cells #[.string sName, .slice ASupers xSupers.length cSupers, .slice AMethods xMethods.length cMethods] 182)).alloc (.cells #[.string ⟨#[]⟩, .slice none 0 0, .slice none 0 0] 166)) (g := w.heap.size + 2) (o := (.cells #[.string sName, .slice none 0 0, .slice none 0 0] 166)) (by simp))
  refine (IHSupers.out _ _ (RDSupers.out.below HB0.out)).mono ?_
  rintro e w1 ⟨vSupers, rfl, hfr, hb⟩
  obtain ⟨BSupers, dSupers, rfl, _, _, _⟩ := hfr.slice
  have hr := hfr.range
  have hsz := hb.size
  rw [HS0.out] at hr hsz
  have FRSupers := Lib.hid hr
  have SY1 := Lib.hid hsz
  have SZ1 := Lib.hid (show w.heap.size + 3 ≤ w1.heap.size by omega)
  have HB1 := Lib.hid (HB0.out.trans (hb.mono HB0.out.size))
  have BA1 := Lib.hid (blk_below BA0.out hb)
  have BR1 := Lib.hid (blk_below BR0.out hb)
  have BO1 := Lib.hid (blk_below BO0.out hb)
  clear hb hfr hr hsz
  have za1_0 := blk_cell BA1.out 0
  have za1_1 := blk_cell BA1.out 1
  have za1_2 := blk_cell BA1.out 2
  have zo1_0 := blk_cell BO1.out 0
  have zo1_f0 := blk_frozen BO1.out 0
  have zo1_1 := blk_cell BO1.out 1
  have zo1_f1 := blk_frozen BO1.out 1
  have zo1_2 := blk_cell BO1.out 2
  have zo1_f2 := blk_frozen BO1.out 2
  simp at za1_0 za1_1 za1_2 zo1_0 zo1_f0 zo1_1 zo1_f1 zo1_2 zo1_f2
  have HB1 := Lib.hid (HB1.out.setCell (p := ⟨w.heap.size + 2, 1, none⟩) (by simp) (.slice BSupers xSupers.length dSupers))
  have BA1 := Lib.hid (blk_far BA1.out (p := ⟨w.heap.size + 2, 1, none⟩) (by simp) (.slice BSupers xSupers.length dSupers))
  have BR1 := Lib.hid (blk_far BR1.out (p := ⟨w.heap.size + 2, 1, none⟩) (by simp) (.slice BSupers xSupers.length dSupers))
  have BO1 := Lib.hid ((blk_set BO1.out 1 (.slice BSupers xSupers.length dSupers)).trans (show _ = some (Obj.cells #[.string sName, .slice BSupers xSupers.length dSupers, .slice none 0 0] 166 (0, 0)) from rfl))
  have FRSupers := Lib.hid (FRSupers.out.set (p := ⟨w.heap.size + 2, 1, none⟩) (by simp) (.slice BSupers xSupers.length dSupers))
  go_wp2_with fail
  refine (IHMethods.out _ _ (RDMethods.out.below HB1.out)).mono ?_
  rintro e w2 ⟨vMethods, rfl, hfr, hb⟩
  obtain ⟨BMethods, dMethods, rfl, _, _, _⟩ := hfr.slice
  have hr := hfr.range
  have hsz := hb.size
  simp only [sz_setCell] at hr hsz
  have FRMethods := Lib.hid hr
  have SY2 := Lib.hid hsz
  have SZ2 := Lib.hid (show w.heap.size + 3 ≤ w2.heap.size by have := SZ1.out; omega)
  have FRSupers := Lib.hid (FRSupers.out.below hb)
  have HB2 := Lib.hid (HB1.out.trans (hb.mono HB1.out.size))
  have BA2 := Lib.hid (blk_below BA1.out hb)
  have BR2 := Lib.hid (blk_below BR1.out hb)
  have BO2 := Lib.hid (blk_below BO1.out hb)
  clear hb hfr hr hsz
  have za2_0 := blk_cell BA2.out 0
  have za2_1 := blk_cell BA2.out 1
  have za2_2 := blk_cell BA2.out 2
  have zo2_0 := blk_cell BO2.out 0
  have zo2_f0 := blk_frozen BO2.out 0
  have zo2_1 := blk_cell BO2.out 1
  have zo2_f1 := blk_frozen BO2.out 1
  have zo2_2 := blk_cell BO2.out 2
  have zo2_f2 := blk_frozen BO2.out 2
  have zr2_0 := blk_cell BR2.out 0
  have zr2_f0 := blk_frozen BR2.out 0
  have zr2_1 := blk_cell BR2.out 1
  have zr2_f1 := blk_frozen BR2.out 1
  have zr2_2 := blk_cell BR2.out 2
  have zr2_f2 := blk_frozen BR2.out 2
  simp at za2_0 za2_1 za2_2 zo2_0 zo2_f0 zo2_1 zo2_f1 zo2_2 zo2_f2 zr2_0 zr2_f0 zr2_1 zr2_f1 zr2_2 zr2_f2
  clear za1_0 zo1_0 zo1_f0 za1_1 zo1_1 zo1_f1 za1_2 zo1_2 zo1_f2
  have HB2 := Lib.hid (HB2.out.setCell (p := ⟨w.heap.size + 2, 2, none⟩) (by simp) (.slice BMethods xMethods.length dMethods))
  have BA2 := Lib.hid (blk_far BA2.out (p := ⟨w.heap.size + 2, 2, none⟩) (by simp) (.slice BMethods xMethods.length dMethods))
  have BR2 := Lib.hid (blk_far BR2.out (p := ⟨w.heap.size + 2, 2, none⟩) (by simp) (.slice BMethods xMethods.length dMethods))
  have BO2 := Lib.hid ((blk_set BO2.out 2 (.slice BMethods xMethods.length dMethods)).trans (show _ = some (Obj.cells #[.string sName, .slice BSupers xSupers.length dSupers, .slice BMethods xMethods.length dMethods] 166 (0, 0)) from rfl))
  have FRSupers := Lib.hid (FRSupers.out.set (p := ⟨w.heap.size + 2, 2, none⟩) (by simp) (.slice BMethods xMethods.length dMethods))
  have FRMethods := Lib.hid (FRMethods.out.set (p := ⟨w.heap.size + 2, 2, none⟩) (by have := SZ1.out; simp; omega) (.slice BMethods xMethods.length dMethods))
  go_wp2
  have HB2 := Lib.hid (((HB2.out.setCell (p := ⟨w.heap.size + 1, 0, none⟩) (by simp) (.string sName)).setCell (p := ⟨w.heap.size + 1, 1, none⟩) (by simp) (.slice BSupers xSupers.length dSupers)).setCell (p := ⟨w.heap.size + 1, 2, none⟩) (by simp) (.slice BMethods xMethods.length dMethods))
  have FRSupers := Lib.hid (((FRSupers.out.set (p := ⟨w.heap.size + 1, 0, none⟩) (by simp) (.string sName)).set (p := ⟨w.heap.size + 1, 1, none⟩) (by simp) (.slice BSupers xSupers.length dSupers)).set (p := ⟨w.heap.size + 1, 2, none⟩) (by simp) (.slice BMethods xMethods.length dMethods))
  have FRMethods := Lib.hid (((FRMethods.out.set (p := ⟨w.heap.size + 1, 0, none⟩) (by have := SZ1.out; simp; omega) (.string sName)).set (p := ⟨w.heap.size + 1, 1, none⟩) (by have := SZ1.out; simp; omega) (.slice BSupers xSupers.length dSupers)).set (p := ⟨w.heap.size + 1, 2, none⟩) (by have := SZ1.out; simp; omega) (.slice BMethods xMethods.length dMethods))
  refine bodyPost_ret (v := .agg #[.string sName, .slice BSupers xSupers.length dSupers, .slice BMethods xMethods.length dMethods]) (by simp [results, Try.results123, go_sem, zr2_0, zr2_1, zr2_2]) rfl ⟨[.string sName, .slice BSupers xSupers.length dSupers, .slice BMethods xMethods.length dMethods], rfl, ?_, HB2.out⟩
  rw [fr_struct]
  have sy1 := SY1.out
  have sy2 := SY2.out
  exact FrFR.fr (B := w.heap.size + 3) (frFR_str (frFR_cons (B2 := w1.heap.size) (C := w2.heap.size) FRSupers.out (frFR_cons (B2 := w2.heap.size) (C := w2.heap.size) FRMethods.out (frFR_nil w2.heap.size w2.heap.size _) (Nat.le_refl _) (by omega) (by omega)) (Nat.le_refl _) (by omega) (by omega))) (by omega)

set_option maxRecDepth 100000 in
theorem szClassInfoS_of (xs : List D) (hn : xs.length ≤ 140737488351232) (ih : ∀ x ∈ xs, SzA Try.prog 118 x) : SzO Try.prog 80 (.slice 3 xs) := by
  intro w v left h h0 h1
  obtain ⟨A, c, rfl, _, _, hrow⟩ := rd_slice1 h
  have IH := Lib.hid ih
  have H := Lib.hid hrow
  have TOT := Lib.hid (show D.bulk (.slice 3 xs) = xs.length + D.bulks xs by simp only [D.bulk])
  clear ih h hrow
  go_enter Try.func80, Try.ntmps80
  go_wp2_with fail
  · go_ret
    exact ⟨ret_int (szR_neg' (by rw [TOT.out]; omega)).symm, Below.refl _ _⟩
  · go_loopw [5, 1] (fun i l wr => ∃ j : Nat, j ≤ xs.length ∧ i = .int .i64 j ∧ l = .int .i64 (left - xs.length - D.bulks (xs.take j)) ∧ 0 ≤ left - xs.length - D.bulks (xs.take j) ∧ Below w.heap.size w wr) (fun i _ _ => xs.length - (intOf i).toNat)
    case atStart => exact ⟨0, Nat.zero_le _, rfl, by simp [D.bulks], by simp [D.bulks]; omega, Below.refl _ _⟩
    case round =>
      obtain ⟨j, hj, rfl, rfl, hl, hb⟩ := hrel
      by_cases hlt : j < xs.length
      · obtain ⟨b, off, cs, rfl, hcl, hrd, hc⟩ := (RdRow.below H.out (by omega) hb).get (List.getElem?_eq_getElem hlt)
        obtain ⟨u0, u1, u2, rfl⟩ := cells3 hcl
        have c0 : wr.cell? ⟨b, off + j * 3, none⟩ = some u0 := hc 0 _ rfl
        have c1 : wr.cell? ⟨b, off + j * 3 + 1, none⟩ = some u1 := hc 1 _ rfl
        have c2 : wr.cell? ⟨b, off + j * 3 + 2, none⟩ = some u2 := hc 2 _ rfl
        have CAL := Lib.hid (IH.out _ (List.getElem_mem hlt) wr _ (left - xs.length - D.bulks (xs.take j)) hrd hl (by omega))
        have HB := Lib.hid hb
        have T := Lib.hid (D.bulks_take xs j hlt)
        have T2 := Lib.hid (D.bulks_take_le xs (j + 1))
        clear hrd hcl hc hb
        go_wp2_with fail
        refine CAL.out.mono ?_
        rintro e w1 ⟨rfl, hb1⟩
        have HB1 := Lib.hid (HB.out.trans (hb1.mono HB.out.size))
        clear hb1 CAL
        by_cases hz : left - xs.length - D.bulks (xs.take j) < xs[j].bulk
        · rw [szR_neg' hz]
          go_wp2
          go_ret
          exact ⟨ret_int (szR_neg' (by rw [TOT.out]; have h6 := T.out; have h7 := T2.out; omega)).symm, HB1.out⟩
        · rw [szR_fit (by omega)]
          go_wp2
          go_roundw
          case rel => exact ⟨j + 1, by omega, by go_num, by rw [T.out]; go_num, by rw [T.out]; omega, HB1.out⟩
          case measure => simp [intOf]; omega
      · obtain rfl : j = xs.length := by omega
        rw [List.take_length] at hl ⊢
        have HB := Lib.hid hb
        clear hb
        go_wp2
        go_ret
        exact ⟨ret_int ((szR_fit (by rw [TOT.out]; omega)).trans (by rw [TOT.out] <;> omega)).symm, HB.out⟩

set_option maxRecDepth 100000 in
theorem eqClassInfoS_of (xs : List D) (hn : xs.length ≤ 140737488351232) (ih : ∀ x ∈ xs, EqA Try.prog 114 x) : EqO Try.prog 65 (.slice 3 xs) := by
  intro w v v' h h'
  obtain ⟨A, c, rfl, _, _, hrow⟩ := rd_slice1 h
  obtain ⟨A', c', rfl, _, _, hrow'⟩ := rd_slice1 h'
  have IH := Lib.hid ih
  have H := Lib.hid hrow
  have H' := Lib.hid hrow'
  clear ih h h' hrow hrow'
  go_enter Try.func65, Try.ntmps65
  go_wp2_with fail
  go_loopw [5] (fun i wr => ∃ j : Nat, j ≤ xs.length ∧ i = .int .i64 j ∧ Below w.heap.size w wr) (fun i _ => xs.length - (intOf i).toNat)
  case atStart => exact ⟨0, Nat.zero_le _, rfl, Below.refl _ _⟩
  case round =>
    obtain ⟨j, hj, rfl, hb⟩ := hrel
    by_cases hlt : j < xs.length
    · obtain ⟨b, off, cs, rfl, hcl, hrd, hc⟩ := (RdRow.below H.out (by omega) hb).get (List.getElem?_eq_getElem hlt)
      obtain ⟨b', off', cs', rfl, hcl', hrd', hc'⟩ := (RdRow.below H'.out (by omega) hb).get (List.getElem?_eq_getElem hlt)
      obtain ⟨u0, u1, u2, rfl⟩ := cells3 hcl
      obtain ⟨v0, v1, v2, rfl⟩ := cells3 hcl'
      have c0 : wr.cell? ⟨b, off + j * 3, none⟩ = some u0 := hc 0 _ rfl
      have d0 : wr.cell? ⟨b', off' + j * 3, none⟩ = some v0 := hc' 0 _ rfl
      have c1 : wr.cell? ⟨b, off + j * 3 + 1, none⟩ = some u1 := hc 1 _ rfl
      have d1 : wr.cell? ⟨b', off' + j * 3 + 1, none⟩ = some v1 := hc' 1 _ rfl
      have c2 : wr.cell? ⟨b, off + j * 3 + 2, none⟩ = some u2 := hc 2 _ rfl
      have d2 : wr.cell? ⟨b', off' + j * 3 + 2, none⟩ = some v2 := hc' 2 _ rfl
      have CAL := Lib.hid (IH.out _ (List.getElem_mem hlt) wr.drew _ _ (hrd.below (Below.refl _ _).drew) (hrd'.below (Below.refl _ _).drew))
      have HB := Lib.hid hb
      clear hrd hcl hc hb hrd' hcl' hc' H H'
      go_wp2_with fail
      go_still_tail 8, (by kernel_rfl)
      go_wp2_with fail
      refine CAL.out.mono ?_
      rintro e w1 ⟨rfl, hb1⟩
      have HB1 := Lib.hid (HB.out.drew.trans (hb1.mono HB.out.size))
      clear hb1 CAL
      go_wp2
      go_roundw
      case rel => exact ⟨j + 1, by omega, by go_num, HB1.out⟩
      case measure => simp [intOf]; omega
    · obtain rfl : j = xs.length := by omega
      have HB := Lib.hid hb
      clear hb
      go_wp2
      go_ret
      exact ⟨rfl, HB.out⟩

theorem infoClassInfoS : (Try.prog.info? 166).map (fun i => (i.zero, i.size, i.bytes)) = some (some (.agg #[.string ⟨#[]⟩, .slice none 0 0, .slice none 0 0]), 3, 64) := by kernel_rfl
theorem infoZClassInfoS : (Try.prog.info? 166).map (·.size) = some 3 := by kernel_rfl
theorem infoLClassInfoS : (Try.prog.info? 182).map (·.size) = some 3 := by kernel_rfl
set_option maxRecDepth 100000 in
theorem toClassInfoS_of (xs : List D) (hn : xs.length ≤ 1048576) (hsz : ∀ x ∈ xs, x.n = 3) (ih : ∀ x ∈ xs, ToA Try.prog 123 x) : ToO Try.prog 85 (.slice 3 xs) := by
  intro w v h
  obtain ⟨A, c, rfl, _, _, hrow⟩ := rd_slice1 h
  have IH := Lib.hid ih
  have H := Lib.hid hrow
  clear ih h hrow
  obtain ⟨i0, hi, hz0, hz1, hz2⟩ := info_parts infoClassInfoS
  have hmk := run_make (P := Try.prog) w 37 166 i0 _ Try.underlying37 hi hz0 .i64 .i64 (xs.length : Int) (xs.length : Int) (by omega) (by omega) (by rw [hz2]; omega) (by omega)
  rw [hz1, Int.toNat_natCast] at hmk
  clear hi hz0 hz1 hz2
  go_enter Try.func85, Try.ntmps85
  go_wp2_with fail
  go_loopw [4] (fun i wr => ∃ j : Nat, j ≤ xs.length ∧ i = .int .i64 j ∧ Below w.heap.size w wr ∧ Fill w.heap.size wr w.heap.size 166 3 xs.length (xs.take j)) (fun i _ => xs.length - (intOf i).toNat)
  case atStart => exact ⟨0, Nat.zero_le _, rfl, (Below.refl _ _).alloc (Nat.le_refl _) _, by rw [List.take_zero]; exact Fill.start (Nat.le_refl _) (by simp [size_madeCells])⟩
  case round =>
    obtain ⟨j, hj, rfl, hb, hf⟩ := hrel
    clear hmk
    by_cases hlt : j < xs.length
    · have hk : (xs.take j).length = j := by rw [List.length_take]; omega
      obtain ⟨b, off, cs, rfl, hcl, hrd, hc⟩ := (RdRow.below H.out (by omega) hb).get (List.getElem?_eq_getElem hlt)
      have CAL := Lib.hid (IH.out _ (List.getElem_mem hlt) wr _ hrd)
      have HB := Lib.hid hb
      have HF := Lib.hid hf
      have HC := Lib.hid hc
      clear hrd hc hb hf H
      go_wp2_with (refine wpList_load_mid rfl 182 (.tmp 18) rfl b (off + j * 3) rfl cs _ HC.out Try.underlying182 rfl (by rw [hcl]; exact infoLClassInfoS) ?_)
      refine CAL.out.mono ?_
      rintro e w1 ⟨cs', rfl, hfr, hb1⟩
      have hl : cs'.length = 3 := hfr.len.trans (hsz _ (List.getElem_mem hlt))
      have HL := Lib.hid hl
      have TH := Lib.hid ((HF.out.below hb1).there hlt)
      have HF1 := Lib.hid (HF.out.store hb1 hfr hl (by rw [hk]; exact hlt))
      rw [hk] at HF1
      have HONE := Lib.hid hfr.all
      have HB1 := Lib.hid (below_setCells (Nat.le_refl w.heap.size) cs' (j * 3) (HB.out.trans (hb1.mono HB.out.size)))
      clear hb1 hfr hl hk CAL
      go_wp2_with (refine wpList_store_mid rfl 166 (.tmp 21) (.tmp 20) rfl w.heap.size (j * 3) cs'.toArray rfl rfl (by simpa [HL.out] using TH.out) (by simpa [HL.out] using infoZClassInfoS) HONE.out ?_)
      go_roundw
      case rel =>
        refine ⟨j + 1, by omega, by go_num, HB1.out, ?_⟩
        rw [List.take_succ_eq_append_getElem hlt]
        exact HF1.out
      case measure => simp [intOf]; omega
    · obtain rfl : j = xs.length := by omega
      rw [List.take_length] at hf
      have HB := Lib.hid hb
      have HF := Lib.hid (hf.done rfl (by simp only [maxLen]; omega))
      clear hb hf H
      go_wp2
      go_ret
      exact ⟨_, rfl, HF.out, HB.out⟩

theorem openInstInfo {sClass : ByteArray} {sCon : ByteArray} {iVars : Int} {xPreds : List D} {w : World} {cs : List Value} (h : Rd w (.struct [.str sClass, .str sCon, .int .i64 iVars, .slice 2 xPreds]) cs) : ∃ (APreds : Option Addr) (cPreds : Nat), cs = [.string sClass, .string sCon, .int .i64 iVars, .slice APreds xPreds.length cPreds] ∧ Rd w (D.slice 2 xPreds) [.slice APreds xPreds.length cPreds] := by
  rw [rd_struct] at h
  simp only [rdF_cons, rdF_nil, rd_int, rd_bool, rd_str] at h
  obtain ⟨e0, r0, rfl, rfl, e1, r1, rfl, rfl, e2, r2, rfl, rfl, e3, r3, rfl, hPreds, rfl⟩ := h
  have kPreds := hPreds
  obtain ⟨APreds, cPreds, rfl, _⟩ := rd_slice hPreds
  exact ⟨APreds, cPreds, by simp, kPreds⟩

set_option maxRecDepth 100000 in
theorem szInstInfo_of (sClass : ByteArray) (sCon : ByteArray) (iVars : Int) (xPreds : List D) (hsClass : sClass.size ≤ 140737488351232) (hsCon : sCon.size ≤ 140737488351232) (ihPreds : SzO Try.prog 157 (D.slice 2 xPreds)) : SzA Try.prog 119 (.struct [.str sClass, .str sCon, .int .i64 iVars, .slice 2 xPreds]) := by
  intro w cs left h h0 h1
  obtain ⟨APreds, cPreds, rfl, rdPreds⟩ := openInstInfo h
  have TOT := Lib.hid (show D.bulk (.struct [.str sClass, .str sCon, .int .i64 iVars, .slice 2 xPreds]) = sClass.size + sCon.size + (D.slice 2 xPreds).bulk by simp only [D.bulk, D.bulks] <;> omega)
  have HB0 := Lib.hid ((Below.refl w.heap.size w).alloc (Nat.le_refl _) (.cells #[.string sClass, .string sCon, .int .i64 iVars, .slice APreds xPreds.length cPreds] 185))
  have BK0 := Lib.hid (blk_new w (.cells #[.string sClass, .string sCon, .int .i64 iVars, .slice APreds xPreds.length cPreds] 185))
  have RDPreds := Lib.hid rdPreds
  have IHPreds := Lib.hid ihPreds
  clear h rdPreds ihPreds
  go_enter Try.func119, Try.ntmps119
  go_wp2_with fail
  · go_ret
    exact ⟨ret_int (szR_neg' (by rw [TOT.out]; omega)).symm, HB0.out⟩
  · go_ret
    exact ⟨ret_int (szR_neg' (by rw [TOT.out]; omega)).symm, HB0.out⟩
  · skip
    have hlPreds : 0 ≤ left - (sClass.size : Int) - (sCon.size : Int) := by omega
    refine (IHPreds.out _ _ (left - (sClass.size : Int) - (sCon.size : Int)) (RDPreds.out.below HB0.out) hlPreds (by omega)).mono ?_
    rintro e w1 ⟨rfl, hb⟩
    have HB1 := Lib.hid (HB0.out.trans (hb.mono HB0.out.size))
    have BK1 := Lib.hid (blk_below BK0.out hb)
    clear hb
    have z1_0 := blk_cell BK1.out 0
    have z1_1 := blk_cell BK1.out 1
    have z1_2 := blk_cell BK1.out 2
    have z1_3 := blk_cell BK1.out 3
    simp at z1_0 z1_1 z1_2 z1_3
    by_cases hzPreds : left - (sClass.size : Int) - (sCon.size : Int) < ((D.slice 2 xPreds).bulk : Int)
    · rw [szR_neg' hzPreds]
      go_wp2
      go_ret
      exact ⟨ret_int (szR_neg' (by rw [TOT.out]; omega)).symm, HB1.out⟩
    · rw [szR_fit (by omega)]
      go_wp2_with fail
      go_ret
      exact ⟨ret_int ((szR_fit (by rw [TOT.out]; omega)).trans (by rw [TOT.out] <;> omega)).symm, HB1.out⟩

set_option maxRecDepth 100000 in
theorem eqInstInfo_of (sClass : ByteArray) (sCon : ByteArray) (iVars : Int) (xPreds : List D) (ihPreds : EqO Try.prog 87 (D.slice 2 xPreds)) : EqA Try.prog 27 (.struct [.str sClass, .str sCon, .int .i64 iVars, .slice 2 xPreds]) := by
  intro w cs cs' h h'
  obtain ⟨APreds, cPreds, rfl, rdPreds⟩ := openInstInfo h
  obtain ⟨APreds', cPreds', rfl, rdPreds'⟩ := openInstInfo h'
  have HB0 := Lib.hid (((Below.refl w.heap.size w).alloc (Nat.le_refl _) (.cells #[.string sClass, .string sCon, .int .i64 iVars, .slice APreds xPreds.length cPreds] 55)).alloc (by simp) (.cells #[.string sClass, .string sCon, .int .i64 iVars, .slice APreds' xPreds.length cPreds'] 55))
  have BK0 := Lib.hid (blk_old (blk_new w (.cells #[.string sClass, .string sCon, .int .i64 iVars, .slice APreds xPreds.length cPreds] 55)) (.cells #[.string sClass, .string sCon, .int .i64 iVars, .slice APreds' xPreds.length cPreds'] 55))
  have BJ0 := Lib.hid (blk_new (w.alloc (.cells #[.string sClass, .string sCon, .int .i64 iVars, .slice APreds xPreds.length cPreds] 55)) (.cells #[.string sClass, .string sCon, .int .i64 iVars, .slice APreds' xPreds.length cPreds'] 55))
  have RDPreds := Lib.hid rdPreds
  have RDPreds' := Lib.hid rdPreds'
  have IHPreds := Lib.hid ihPreds
  clear h h' rdPreds rdPreds' ihPreds
  go_enter Try.func27, Try.ntmps27
  go_wp2_with fail
  refine (IHPreds.out _ _ _ (RDPreds.out.below HB0.out) (RDPreds'.out.below HB0.out)).mono ?_
  rintro e w1 ⟨rfl, hb⟩
  have HB1 := Lib.hid (HB0.out.trans (hb.mono HB0.out.size))
  have BK1 := Lib.hid (blk_below BK0.out hb)
  have BJ1 := Lib.hid (blk_below BJ0.out hb)
  clear hb
  have z1_0 := blk_cell BK1.out 0
  have z1_1 := blk_cell BK1.out 1
  have z1_2 := blk_cell BK1.out 2
  have z1_3 := blk_cell BK1.out 3
  have y1_0 := blk_cell BJ1.out 0
  have y1_1 := blk_cell BJ1.out 1
  have y1_2 := blk_cell BJ1.out 2
  have y1_3 := blk_cell BJ1.out 3
  simp at z1_0 z1_1 z1_2 z1_3 y1_0 y1_1 y1_2 y1_3
  go_wp2
  go_ret
  exact ⟨rfl, HB1.out⟩

set_option maxRecDepth 100000 in
theorem toInstInfo_of (sClass : ByteArray) (sCon : ByteArray) (iVars : Int) (xPreds : List D) (ihPreds : ToO Try.prog 161 (D.slice 2 xPreds)) : ToA Try.prog 124 (.struct [.str sClass, .str sCon, .int .i64 iVars, .slice 2 xPreds]) := by
  intro w cs h
  obtain ⟨APreds, cPreds, rfl, rdPreds⟩ := openInstInfo h
  have RDPreds := Lib.hid rdPreds
  have IHPreds := Lib.hid ihPreds
  clear h rdPreds ihPreds
  go_enter Try.func124, Try.ntmps124
  go_wp2_with fail
  have HB0 := Lib.hid ((((Below.refl w.heap.size w).alloc (Nat.le_refl _) (.cells #[.string sClass, .string sCon, .int .i64 iVars, .slice APreds xPreds.length cPreds] 185)).alloc (by simp) (.cells #[.string ⟨#[]⟩, .string ⟨#[]⟩, .int .i64 0, .slice none 0 0] 55)).alloc (by simp; omega) (.cells #[.string sClass, .string sCon, .int .i64 iVars, .slice none 0 0] 55))
  have HS0 := Lib.hid (show (((w.alloc (.cells #[.string sClass, .string sCon, .int .i64 iVars, .slice APreds xPreds.length cPreds] 185)).alloc (.cells #[.string ⟨#[]⟩, .string ⟨#[]⟩, .int .i64 0, .slice none 0 0] 55)).alloc (.cells #[.string sClass, .string sCon, .int .i64 iVars, .slice none 0 0] 55)).heap.size = w.heap.size + 3 by simp)
  have BA0 := Lib.hid (blk_old (blk_old (blk_new w (.cells #[.string sClass, .string sCon, .int .i64 iVars, .slice APreds xPreds.length cPreds] 185)) (.cells #[.string ⟨#[]⟩, .string ⟨#[]⟩, .int .i64 0, .slice none 0 0] 55)) (.cells #[.string sClass, .string sCon, .int .i64 iVars, .slice none 0 0] 55))
  have BR0 := Lib.hid (blk_old (blk_new_g (w := w.alloc (.cells #[.string sClass, .string sCon, .int .i64 iVars, .slice APreds xPreds.length cPreds] 185)) (g := w.heap.size + 1) (o := (.cells #[.string ⟨#[]⟩, .string ⟨#[]⟩, .int .i64 0, .slice none 0 0] 55)) (by simp)) (.cells #[.string sClass, .string sCon, .int .i64 iVars, .slice none 0 0] 55))
  have BO0 := Lib.hid (blk_new_g (w := (w.alloc (.cells #[.string sClass, .string sCon, .int .i64 iVars, .slice APreds xPreds.length cPreds] 185)).alloc (.cells #[.string ⟨#[]⟩, .string ⟨#[]⟩, .int .i64 0, .slice none 0 0] 55)) (g := w.heap.size + 2) (o := (.cells #[.string sClass, .string sCon, .int .i64 iVars, .slice none 0 0] 55)) (by simp))
  refine (IHPreds.out _ _ (RDPreds.out.below HB0.out)).mono ?_
  rintro e w1 ⟨vPreds, rfl, hfr, hb⟩
  obtain ⟨BPreds, dPreds, rfl, _, _, _⟩ := hfr.slice
  have hr := hfr.range
  have hsz := hb.size
  rw [HS0.out] at hr hsz
  have FRPreds := Lib.hid hr
  have SY1 := Lib.hid hsz
  have SZ1 := Lib.hid (show w.heap.size + 3 ≤ w1.heap.size by omega)
  have HB1 := Lib.hid (HB0.out.trans (hb.mono HB0.out.size))
  have BA1 := Lib.hid (blk_below BA0.out hb)
  have BR1 := Lib.hid (blk_below BR0.out hb)
  have BO1 := Lib.hid (blk_below BO0.out hb)
  clear hb hfr hr hsz
  have za1_0 := blk_cell BA1.out 0
  have za1_1 := blk_cell BA1.out 1
  have za1_2 := blk_cell BA1.out 2
  have za1_3 := blk_cell BA1.out 3
  have zo1_0 := blk_cell BO1.out 0
  have zo1_f0 := blk_frozen BO1.out 0
  have zo1_1 := blk_cell BO1.out 1
  have zo1_f1 := blk_frozen BO1.out 1
  have zo1_2 := blk_cell BO1.out 2
  have zo1_f2 := blk_frozen BO1.out 2
  have zo1_3 := blk_cell BO1.out 3
  have zo1_f3 := blk_frozen BO1.out 3
  have zr1_0 := blk_cell BR1.out 0
  have zr1_f0 := blk_frozen BR1.out 0
  have zr1_1 := blk_cell BR1.out 1
  have zr1_f1 := blk_frozen BR1.out 1
  have zr1_2 := blk_cell BR1.out 2
  have zr1_f2 := blk_frozen BR1.out 2
  have zr1_3 := blk_cell BR1.out 3
  have zr1_f3 := blk_frozen BR1.out 3
  simp at za1_0 za1_1 za1_2 za1_3 zo1_0 zo1_f0 zo1_1 zo1_f1 zo1_2 zo1_f2 zo1_3 zo1_f3 zr1_0 zr1_f0 zr1_1 zr1_f1 zr1_2 zr1_f2 zr1_3 zr1_f3
  have HB1 := Lib.hid (HB1.out.setCell (p := ⟨w.heap.size + 2, 3, none⟩) (by simp) (.slice BPreds xPreds.length dPreds))
  have BA1 := Lib.hid (blk_far BA1.out (p := ⟨w.heap.size + 2, 3, none⟩) (by simp) (.slice BPreds xPreds.length dPreds))
  have BR1 := Lib.hid (blk_far BR1.out (p := ⟨w.heap.size + 2, 3, none⟩) (by simp) (.slice BPreds xPreds.length dPreds))
  have BO1 := Lib.hid ((blk_set BO1.out 3 (.slice BPreds xPreds.length dPreds)).trans (show _ = some (Obj.cells #[.string sClass, .string sCon, .int .i64 iVars, .slice BPreds xPreds.length dPreds] 55 (0, 0)) from rfl))
  have FRPreds := Lib.hid (FRPreds.out.set (p := ⟨w.heap.size + 2, 3, none⟩) (by simp) (.slice BPreds xPreds.length dPreds))
  go_wp2
  have HB1 := Lib.hid ((((HB1.out.setCell (p := ⟨w.heap.size + 1, 0, none⟩) (by simp) (.string sClass)).setCell (p := ⟨w.heap.size + 1, 1, none⟩) (by simp) (.string sCon)).setCell (p := ⟨w.heap.size + 1, 2, none⟩) (by simp) (.int .i64 iVars)).setCell (p := ⟨w.heap.size + 1, 3, none⟩) (by simp) (.slice BPreds xPreds.length dPreds))
  have FRPreds := Lib.hid ((((FRPreds.out.set (p := ⟨w.heap.size + 1, 0, none⟩) (by simp) (.string sClass)).set (p := ⟨w.heap.size + 1, 1, none⟩) (by simp) (.string sCon)).set (p := ⟨w.heap.size + 1, 2, none⟩) (by simp) (.int .i64 iVars)).set (p := ⟨w.heap.size + 1, 3, none⟩) (by simp) (.slice BPreds xPreds.length dPreds))
  refine bodyPost_ret (v := .agg #[.string sClass, .string sCon, .int .i64 iVars, .slice BPreds xPreds.length dPreds]) (by simp [results, Try.results124, go_sem, zr1_0, zr1_1, zr1_2, zr1_3]) rfl ⟨[.string sClass, .string sCon, .int .i64 iVars, .slice BPreds xPreds.length dPreds], rfl, ?_, HB1.out⟩
  rw [fr_struct]
  have sy1 := SY1.out
  exact FrFR.fr (B := w.heap.size + 3) (frFR_str (frFR_str (frFR_int (frFR_cons (B2 := w1.heap.size) (C := w1.heap.size) FRPreds.out (frFR_nil w1.heap.size w1.heap.size _) (Nat.le_refl _) (by omega) (by omega))))) (by omega)

set_option maxRecDepth 100000 in
theorem szInstInfoS_of (xs : List D) (hn : xs.length ≤ 140737488351232) (ih : ∀ x ∈ xs, SzA Try.prog 119 x) : SzO Try.prog 81 (.slice 4 xs) := by
  intro w v left h h0 h1
  obtain ⟨A, c, rfl, _, _, hrow⟩ := rd_slice1 h
  have IH := Lib.hid ih
  have H := Lib.hid hrow
  have TOT := Lib.hid (show D.bulk (.slice 4 xs) = xs.length + D.bulks xs by simp only [D.bulk])
  clear ih h hrow
  go_enter Try.func81, Try.ntmps81
  go_wp2_with fail
  · go_ret
    exact ⟨ret_int (szR_neg' (by rw [TOT.out]; omega)).symm, Below.refl _ _⟩
  · go_loopw [5, 1] (fun i l wr => ∃ j : Nat, j ≤ xs.length ∧ i = .int .i64 j ∧ l = .int .i64 (left - xs.length - D.bulks (xs.take j)) ∧ 0 ≤ left - xs.length - D.bulks (xs.take j) ∧ Below w.heap.size w wr) (fun i _ _ => xs.length - (intOf i).toNat)
    case atStart => exact ⟨0, Nat.zero_le _, rfl, by simp [D.bulks], by simp [D.bulks]; omega, Below.refl _ _⟩
    case round =>
      obtain ⟨j, hj, rfl, rfl, hl, hb⟩ := hrel
      by_cases hlt : j < xs.length
      · obtain ⟨b, off, cs, rfl, hcl, hrd, hc⟩ := (RdRow.below H.out (by omega) hb).get (List.getElem?_eq_getElem hlt)
        obtain ⟨u0, u1, u2, u3, rfl⟩ := cells4 hcl
        have c0 : wr.cell? ⟨b, off + j * 4, none⟩ = some u0 := hc 0 _ rfl
        have c1 : wr.cell? ⟨b, off + j * 4 + 1, none⟩ = some u1 := hc 1 _ rfl
        have c2 : wr.cell? ⟨b, off + j * 4 + 2, none⟩ = some u2 := hc 2 _ rfl
        have c3 : wr.cell? ⟨b, off + j * 4 + 3, none⟩ = some u3 := hc 3 _ rfl
        have CAL := Lib.hid (IH.out _ (List.getElem_mem hlt) wr _ (left - xs.length - D.bulks (xs.take j)) hrd hl (by omega))
        have HB := Lib.hid hb
        have T := Lib.hid (D.bulks_take xs j hlt)
        have T2 := Lib.hid (D.bulks_take_le xs (j + 1))
        clear hrd hcl hc hb
        go_wp2_with fail
        refine CAL.out.mono ?_
        rintro e w1 ⟨rfl, hb1⟩
        have HB1 := Lib.hid (HB.out.trans (hb1.mono HB.out.size))
        clear hb1 CAL
        by_cases hz : left - xs.length - D.bulks (xs.take j) < xs[j].bulk
        · rw [szR_neg' hz]
          go_wp2
          go_ret
          exact ⟨ret_int (szR_neg' (by rw [TOT.out]; have h6 := T.out; have h7 := T2.out; omega)).symm, HB1.out⟩
        · rw [szR_fit (by omega)]
          go_wp2
          go_roundw
          case rel => exact ⟨j + 1, by omega, by go_num, by rw [T.out]; go_num, by rw [T.out]; omega, HB1.out⟩
          case measure => simp [intOf]; omega
      · obtain rfl : j = xs.length := by omega
        rw [List.take_length] at hl ⊢
        have HB := Lib.hid hb
        clear hb
        go_wp2
        go_ret
        exact ⟨ret_int ((szR_fit (by rw [TOT.out]; omega)).trans (by rw [TOT.out] <;> omega)).symm, HB.out⟩

set_option maxRecDepth 100000 in
theorem eqInstInfoS_of (xs : List D) (hn : xs.length ≤ 140737488351232) (ih : ∀ x ∈ xs, EqA Try.prog 27 x) : EqO Try.prog 66 (.slice 4 xs) := by
  intro w v v' h h'
  obtain ⟨A, c, rfl, _, _, hrow⟩ := rd_slice1 h
  obtain ⟨A', c', rfl, _, _, hrow'⟩ := rd_slice1 h'
  have IH := Lib.hid ih
  have H := Lib.hid hrow
  have H' := Lib.hid hrow'
  clear ih h h' hrow hrow'
  go_enter Try.func66, Try.ntmps66
  go_wp2_with fail
  go_loopw [5] (fun i wr => ∃ j : Nat, j ≤ xs.length ∧ i = .int .i64 j ∧ Below w.heap.size w wr) (fun i _ => xs.length - (intOf i).toNat)
  case atStart => exact ⟨0, Nat.zero_le _, rfl, Below.refl _ _⟩
  case round =>
    obtain ⟨j, hj, rfl, hb⟩ := hrel
    by_cases hlt : j < xs.length
    · obtain ⟨b, off, cs, rfl, hcl, hrd, hc⟩ := (RdRow.below H.out (by omega) hb).get (List.getElem?_eq_getElem hlt)
      obtain ⟨b', off', cs', rfl, hcl', hrd', hc'⟩ := (RdRow.below H'.out (by omega) hb).get (List.getElem?_eq_getElem hlt)
      obtain ⟨u0, u1, u2, u3, rfl⟩ := cells4 hcl
      obtain ⟨v0, v1, v2, v3, rfl⟩ := cells4 hcl'
      have c0 : wr.cell? ⟨b, off + j * 4, none⟩ = some u0 := hc 0 _ rfl
      have d0 : wr.cell? ⟨b', off' + j * 4, none⟩ = some v0 := hc' 0 _ rfl
      have c1 : wr.cell? ⟨b, off + j * 4 + 1, none⟩ = some u1 := hc 1 _ rfl
      have d1 : wr.cell? ⟨b', off' + j * 4 + 1, none⟩ = some v1 := hc' 1 _ rfl
      have c2 : wr.cell? ⟨b, off + j * 4 + 2, none⟩ = some u2 := hc 2 _ rfl
      have d2 : wr.cell? ⟨b', off' + j * 4 + 2, none⟩ = some v2 := hc' 2 _ rfl
      have c3 : wr.cell? ⟨b, off + j * 4 + 3, none⟩ = some u3 := hc 3 _ rfl
      have d3 : wr.cell? ⟨b', off' + j * 4 + 3, none⟩ = some v3 := hc' 3 _ rfl
      have CAL := Lib.hid (IH.out _ (List.getElem_mem hlt) wr.drew _ _ (hrd.below (Below.refl _ _).drew) (hrd'.below (Below.refl _ _).drew))
      have HB := Lib.hid hb
      clear hrd hcl hc hb hrd' hcl' hc' H H'
      go_wp2_with fail
      go_still_tail 8, (by kernel_rfl)
      go_wp2_with fail
      refine CAL.out.mono ?_
      rintro e w1 ⟨rfl, hb1⟩
      have HB1 := Lib.hid (HB.out.drew.trans (hb1.mono HB.out.size))
      clear hb1 CAL
      go_wp2
      go_roundw
      case rel => exact ⟨j + 1, by omega, by go_num, HB1.out⟩
      case measure => simp [intOf]; omega
    · obtain rfl : j = xs.length := by omega
      have HB := Lib.hid hb
      clear hb
      go_wp2
      go_ret
      exact ⟨rfl, HB.out⟩

theorem infoInstInfoS : (Try.prog.info? 55).map (fun i => (i.zero, i.size, i.bytes)) = some (some (.agg #[.string ⟨#[]⟩, .string ⟨#[]⟩, .int .i64 0, .slice none 0 0]), 4, 64) := by kernel_rfl
theorem infoZInstInfoS : (Try.prog.info? 55).map (·.size) = some 4 := by kernel_rfl
theorem infoLInstInfoS : (Try.prog.info? 185).map (·.size) = some 4 := by kernel_rfl
set_option maxRecDepth 100000 in
theorem toInstInfoS_of (xs : List D) (hn : xs.length ≤ 1048576) (hsz : ∀ x ∈ xs, x.n = 4) (ih : ∀ x ∈ xs, ToA Try.prog 124 x) : ToO Try.prog 86 (.slice 4 xs) := by
  intro w v h
  obtain ⟨A, c, rfl, _, _, hrow⟩ := rd_slice1 h
  have IH := Lib.hid ih
  have H := Lib.hid hrow
  clear ih h hrow
  obtain ⟨i0, hi, hz0, hz1, hz2⟩ := info_parts infoInstInfoS
  have hmk := run_make (P := Try.prog) w 38 55 i0 _ Try.underlying38 hi hz0 .i64 .i64 (xs.length : Int) (xs.length : Int) (by omega) (by omega) (by rw [hz2]; omega) (by omega)
  rw [hz1, Int.toNat_natCast] at hmk
  clear hi hz0 hz1 hz2
  go_enter Try.func86, Try.ntmps86
  go_wp2_with fail
  go_loopw [4] (fun i wr => ∃ j : Nat, j ≤ xs.length ∧ i = .int .i64 j ∧ Below w.heap.size w wr ∧ Fill w.heap.size wr w.heap.size 55 4 xs.length (xs.take j)) (fun i _ => xs.length - (intOf i).toNat)
  case atStart => exact ⟨0, Nat.zero_le _, rfl, (Below.refl _ _).alloc (Nat.le_refl _) _, by rw [List.take_zero]; exact Fill.start (Nat.le_refl _) (by simp [size_madeCells])⟩
  case round =>
    obtain ⟨j, hj, rfl, hb, hf⟩ := hrel
    clear hmk
    by_cases hlt : j < xs.length
    · have hk : (xs.take j).length = j := by rw [List.length_take]; omega
      obtain ⟨b, off, cs, rfl, hcl, hrd, hc⟩ := (RdRow.below H.out (by omega) hb).get (List.getElem?_eq_getElem hlt)
      have CAL := Lib.hid (IH.out _ (List.getElem_mem hlt) wr _ hrd)
      have HB := Lib.hid hb
      have HF := Lib.hid hf
      have HC := Lib.hid hc
      clear hrd hc hb hf H
      go_wp2_with (refine wpList_load_mid rfl 185 (.tmp 18) rfl b (off + j * 4) rfl cs _ HC.out Try.underlying185 rfl (by rw [hcl]; exact infoLInstInfoS) ?_)
      refine CAL.out.mono ?_
      rintro e w1 ⟨cs', rfl, hfr, hb1⟩
      have hl : cs'.length = 4 := hfr.len.trans (hsz _ (List.getElem_mem hlt))
      have HL := Lib.hid hl
      have TH := Lib.hid ((HF.out.below hb1).there hlt)
      have HF1 := Lib.hid (HF.out.store hb1 hfr hl (by rw [hk]; exact hlt))
      rw [hk] at HF1
      have HONE := Lib.hid hfr.all
      have HB1 := Lib.hid (below_setCells (Nat.le_refl w.heap.size) cs' (j * 4) (HB.out.trans (hb1.mono HB.out.size)))
      clear hb1 hfr hl hk CAL
      go_wp2_with (refine wpList_store_mid rfl 55 (.tmp 21) (.tmp 20) rfl w.heap.size (j * 4) cs'.toArray rfl rfl (by simpa [HL.out] using TH.out) (by simpa [HL.out] using infoZInstInfoS) HONE.out ?_)
      go_roundw
      case rel =>
        refine ⟨j + 1, by omega, by go_num, HB1.out, ?_⟩
        rw [List.take_succ_eq_append_getElem hlt]
        exact HF1.out
      case measure => simp [intOf]; omega
    · obtain rfl : j = xs.length := by omega
      rw [List.take_length] at hf
      have HB := Lib.hid hb
      have HF := Lib.hid (hf.done rfl (by simp only [maxLen]; omega))
      clear hb hf H
      go_wp2
      go_ret
      exact ⟨_, rfl, HF.out, HB.out⟩

theorem openTables {xCons : List D} {xDatas : List D} {xMethods : List D} {xClasses : List D} {xInsts : List D} {w : World} {cs : List Value} (h : Rd w (.struct [.slice 5 xCons, .slice 3 xDatas, .slice 8 xMethods, .slice 3 xClasses, .slice 4 xInsts]) cs) : ∃ (ACons : Option Addr) (cCons : Nat) (ADatas : Option Addr) (cDatas : Nat) (AMethods : Option Addr) (cMethods : Nat) (AClasses : Option Addr) (cClasses : Nat) (AInsts : Option Addr) (cInsts : Nat), cs = [.slice ACons xCons.length cCons, .slice ADatas xDatas.length cDatas, .slice AMethods xMethods.length cMethods, .slice AClasses xClasses.length cClasses, .slice AInsts xInsts.length cInsts] ∧ Rd w (D.slice 5 xCons) [.slice ACons xCons.length cCons] ∧ Rd w (D.slice 3 xDatas) [.slice ADatas xDatas.length cDatas] ∧ Rd w (D.slice 8 xMethods) [.slice AMethods xMethods.length cMethods] ∧ Rd w (D.slice 3 xClasses) [.slice AClasses xClasses.length cClasses] ∧ Rd w (D.slice 4 xInsts) [.slice AInsts xInsts.length cInsts] := by
  rw [rd_struct] at h
  simp only [rdF_cons, rdF_nil, rd_int, rd_bool, rd_str] at h
  obtain ⟨e0, r0, rfl, hCons, e1, r1, rfl, hDatas, e2, r2, rfl, hMethods, e3, r3, rfl, hClasses, e4, r4, rfl, hInsts, rfl⟩ := h
  have kCons := hCons
  obtain ⟨ACons, cCons, rfl, _⟩ := rd_slice hCons
  have kDatas := hDatas
  obtain ⟨ADatas, cDatas, rfl, _⟩ := rd_slice hDatas
  have kMethods := hMethods
  obtain ⟨AMethods, cMethods, rfl, _⟩ := rd_slice hMethods
  have kClasses := hClasses
  obtain ⟨AClasses, cClasses, rfl, _⟩ := rd_slice hClasses
  have kInsts := hInsts
  obtain ⟨AInsts, cInsts, rfl, _⟩ := rd_slice hInsts
  exact ⟨ACons, cCons, ADatas, cDatas, AMethods, cMethods, AClasses, cClasses, AInsts, cInsts, by simp, kCons, kDatas, kMethods, kClasses, kInsts⟩

set_option maxRecDepth 100000 in
theorem szTables_of (xCons : List D) (xDatas : List D) (xMethods : List D) (xClasses : List D) (xInsts : List D) (ihCons : SzO Try.prog 77 (D.slice 5 xCons)) (ihDatas : SzO Try.prog 78 (D.slice 3 xDatas)) (ihMethods : SzO Try.prog 79 (D.slice 8 xMethods)) (ihClasses : SzO Try.prog 80 (D.slice 3 xClasses)) (ihInsts : SzO Try.prog 81 (D.slice 4 xInsts)) : SzA Try.prog 23 (.struct [.slice 5 xCons, .slice 3 xDatas, .slice 8 xMethods, .slice 3 xClasses, .slice 4 xInsts]) := by
  intro w cs left h h0 h1
  obtain ⟨ACons, cCons, ADatas, cDatas, AMethods, cMethods, AClasses, cClasses, AInsts, cInsts, rfl, rdCons, rdDatas, rdMethods, rdClasses, rdInsts⟩ := openTables h
  have TOT := Lib.hid (show D.bulk (.struct [.slice 5 xCons, .slice 3 xDatas, .slice 8 xMethods, .slice 3 xClasses, .slice 4 xInsts]) = (D.slice 5 xCons).bulk + (D.slice 3 xDatas).bulk + (D.slice 8 xMethods).bulk + (D.slice 3 xClasses).bulk + (D.slice 4 xInsts).bulk by simp only [D.bulk, D.bulks] <;> omega)
  have HB0 := Lib.hid ((Below.refl w.heap.size w).alloc (Nat.le_refl _) (.cells #[.slice ACons xCons.length cCons, .slice ADatas xDatas.length cDatas, .slice AMethods xMethods.length cMethods, .slice AClasses xClasses.length cClasses, .slice AInsts xInsts.length cInsts] 51))
  have BK0 := Lib.hid (blk_new w (.cells #[.slice ACons xCons.length cCons, .slice ADatas xDatas.length cDatas, .slice AMethods xMethods.length cMethods, .slice AClasses xClasses.length cClasses, .slice AInsts xInsts.length cInsts] 51))
  have RDCons := Lib.hid rdCons
  have IHCons := Lib.hid ihCons
  have RDDatas := Lib.hid rdDatas
  have IHDatas := Lib.hid ihDatas
  have RDMethods := Lib.hid rdMethods
  have IHMethods := Lib.hid ihMethods
  have RDClasses := Lib.hid rdClasses
  have IHClasses := Lib.hid ihClasses
  have RDInsts := Lib.hid rdInsts
  have IHInsts := Lib.hid ihInsts
  clear h rdCons ihCons rdDatas ihDatas rdMethods ihMethods rdClasses ihClasses rdInsts ihInsts
  go_enter Try.func23, Try.ntmps23
  go_wp2_with fail
  have hlCons : 0 ≤ left := by omega
  refine (IHCons.out _ _ (left) (RDCons.out.below HB0.out) hlCons (by omega)).mono ?_
  rintro e w1 ⟨rfl, hb⟩
  have HB1 := Lib.hid (HB0.out.trans (hb.mono HB0.out.size))
  have BK1 := Lib.hid (blk_below BK0.out hb)
  clear hb
  have z1_0 := blk_cell BK1.out 0
  have z1_1 := blk_cell BK1.out 1
  have z1_2 := blk_cell BK1.out 2
  have z1_3 := blk_cell BK1.out 3
  have z1_4 := blk_cell BK1.out 4
  simp at z1_0 z1_1 z1_2 z1_3 z1_4
  by_cases hzCons : left < ((D.slice 5 xCons).bulk : Int)
  · rw [szR_neg' hzCons]
    go_wp2
    go_ret
    exact ⟨ret_int (szR_neg' (by rw [TOT.out]; omega)).symm, HB1.out⟩
  · rw [szR_fit (by omega)]
    go_wp2_with fail
    have hlDatas : 0 ≤ left - ((D.slice 5 xCons).bulk : Int) := by omega
    refine (IHDatas.out _ _ (left - ((D.slice 5 xCons).bulk : Int)) (RDDatas.out.below HB1.out) hlDatas (by omega)).mono ?_
    rintro e w2 ⟨rfl, hb⟩
    have HB2 := Lib.hid (HB1.out.trans (hb.mono HB1.out.size))
    have BK2 := Lib.hid (blk_below BK1.out hb)
    clear hb
    have z2_0 := blk_cell BK2.out 0
    have z2_1 := blk_cell BK2.out 1
    have z2_2 := blk_cell BK2.out 2
    have z2_3 := blk_cell BK2.out 3
    have z2_4 := blk_cell BK2.out 4
    simp at z2_0 z2_1 z2_2 z2_3 z2_4
    by_cases hzDatas : left - ((D.slice 5 xCons).bulk : Int) < ((D.slice 3 xDatas).bulk : Int)
    · rw [szR_neg' hzDatas]
      go_wp2
      go_ret
      exact ⟨ret_int (szR_neg' (by rw [TOT.out]; omega)).symm, HB2.out⟩
    · rw [szR_fit (by omega)]
      go_wp2_with fail
      have hlMethods : 0 ≤ left - ((D.slice 5 xCons).bulk : Int) - ((D.slice 3 xDatas).bulk : Int) := by omega
      refine (IHMethods.out _ _ (left - ((D.slice 5 xCons).bulk : Int) - ((D.slice 3 xDatas).bulk : Int)) (RDMethods.out.below HB2.out) hlMethods (by omega)).mono ?_
      rintro e w3 ⟨rfl, hb⟩
      have HB3 := Lib.hid (HB2.out.trans (hb.mono HB2.out.size))
      have BK3 := Lib.hid (blk_below BK2.out hb)
      clear hb
      have z3_0 := blk_cell BK3.out 0
      have z3_1 := blk_cell BK3.out 1
      have z3_2 := blk_cell BK3.out 2
      have z3_3 := blk_cell BK3.out 3
      have z3_4 := blk_cell BK3.out 4
      simp at z3_0 z3_1 z3_2 z3_3 z3_4
      by_cases hzMethods : left - ((D.slice 5 xCons).bulk : Int) - ((D.slice 3 xDatas).bulk : Int) < ((D.slice 8 xMethods).bulk : Int)
      · rw [szR_neg' hzMethods]
        go_wp2
        go_ret
        exact ⟨ret_int (szR_neg' (by rw [TOT.out]; omega)).symm, HB3.out⟩
      · rw [szR_fit (by omega)]
        go_wp2_with fail
        have hlClasses : 0 ≤ left - ((D.slice 5 xCons).bulk : Int) - ((D.slice 3 xDatas).bulk : Int) - ((D.slice 8 xMethods).bulk : Int) := by omega
        refine (IHClasses.out _ _ (left - ((D.slice 5 xCons).bulk : Int) - ((D.slice 3 xDatas).bulk : Int) - ((D.slice 8 xMethods).bulk : Int)) (RDClasses.out.below HB3.out) hlClasses (by omega)).mono ?_
        rintro e w4 ⟨rfl, hb⟩
        have HB4 := Lib.hid (HB3.out.trans (hb.mono HB3.out.size))
        have BK4 := Lib.hid (blk_below BK3.out hb)
        clear hb
        have z4_0 := blk_cell BK4.out 0
        have z4_1 := blk_cell BK4.out 1
        have z4_2 := blk_cell BK4.out 2
        have z4_3 := blk_cell BK4.out 3
        have z4_4 := blk_cell BK4.out 4
        simp at z4_0 z4_1 z4_2 z4_3 z4_4
        by_cases hzClasses : left - ((D.slice 5 xCons).bulk : Int) - ((D.slice 3 xDatas).bulk : Int) - ((D.slice 8 xMethods).bulk : Int) < ((D.slice 3 xClasses).bulk : Int)
        · rw [szR_neg' hzClasses]
          go_wp2
          go_ret
          exact ⟨ret_int (szR_neg' (by rw [TOT.out]; omega)).symm, HB4.out⟩
        · rw [szR_fit (by omega)]
          go_wp2_with fail
          have hlInsts : 0 ≤ left - ((D.slice 5 xCons).bulk : Int) - ((D.slice 3 xDatas).bulk : Int) - ((D.slice 8 xMethods).bulk : Int) - ((D.slice 3 xClasses).bulk : Int) := by omega
          refine (IHInsts.out _ _ (left - ((D.slice 5 xCons).bulk : Int) - ((D.slice 3 xDatas).bulk : Int) - ((D.slice 8 xMethods).bulk : Int) - ((D.slice 3 xClasses).bulk : Int)) (RDInsts.out.below HB4.out) hlInsts (by omega)).mono ?_
          rintro e w5 ⟨rfl, hb⟩
          have HB5 := Lib.hid (HB4.out.trans (hb.mono HB4.out.size))
          have BK5 := Lib.hid (blk_below BK4.out hb)
          clear hb
          have z5_0 := blk_cell BK5.out 0
          have z5_1 := blk_cell BK5.out 1
          have z5_2 := blk_cell BK5.out 2
          have z5_3 := blk_cell BK5.out 3
          have z5_4 := blk_cell BK5.out 4
          simp at z5_0 z5_1 z5_2 z5_3 z5_4
          by_cases hzInsts : left - ((D.slice 5 xCons).bulk : Int) - ((D.slice 3 xDatas).bulk : Int) - ((D.slice 8 xMethods).bulk : Int) - ((D.slice 3 xClasses).bulk : Int) < ((D.slice 4 xInsts).bulk : Int)
          · rw [szR_neg' hzInsts]
            go_wp2
            go_ret
            exact ⟨ret_int (szR_neg' (by rw [TOT.out]; omega)).symm, HB5.out⟩
          · rw [szR_fit (by omega)]
            go_wp2_with fail
            go_ret
            exact ⟨ret_int ((szR_fit (by rw [TOT.out]; omega)).trans (by rw [TOT.out] <;> omega)).symm, HB5.out⟩

set_option maxRecDepth 100000 in
theorem eqTables_of (xCons : List D) (xDatas : List D) (xMethods : List D) (xClasses : List D) (xInsts : List D) (ihCons : EqO Try.prog 62 (D.slice 5 xCons)) (ihDatas : EqO Try.prog 63 (D.slice 3 xDatas)) (ihMethods : EqO Try.prog 64 (D.slice 8 xMethods)) (ihClasses : EqO Try.prog 65 (D.slice 3 xClasses)) (ihInsts : EqO Try.prog 66 (D.slice 4 xInsts)) : EqA Try.prog 20 (.struct [.slice 5 xCons, .slice 3 xDatas, .slice 8 xMethods, .slice 3 xClasses, .slice 4 xInsts]) := by
  intro w cs cs' h h'
  obtain ⟨ACons, cCons, ADatas, cDatas, AMethods, cMethods, AClasses, cClasses, AInsts, cInsts, rfl, rdCons, rdDatas, rdMethods, rdClasses, rdInsts⟩ := openTables h
  obtain ⟨ACons', cCons', ADatas', cDatas', AMethods', cMethods', AClasses', cClasses', AInsts', cInsts', rfl, rdCons', rdDatas', rdMethods', rdClasses', rdInsts'⟩ := openTables h'
  have HB0 := Lib.hid (((Below.refl w.heap.size w).alloc (Nat.le_refl _) (.cells #[.slice ACons xCons.length cCons, .slice ADatas xDatas.length cDatas, .slice AMethods xMethods.length cMethods, .slice AClasses xClasses.length cClasses, .slice AInsts xInsts.length cInsts] 40)).alloc (by simp) (.cells #[.slice ACons' xCons.length cCons', .slice ADatas' xDatas.length cDatas', .slice AMethods' xMethods.length cMethods', .slice AClasses' xClasses.length cClasses', .slice AInsts' xInsts.length cInsts'] 40))
  have BK0 := Lib.hid (blk_old (blk_new w (.cells #[.slice ACons xCons.length cCons, .slice ADatas xDatas.length cDatas, .slice AMethods xMethods.length cMethods, .slice AClasses xClasses.length cClasses, .slice AInsts xInsts.length cInsts] 40)) (.cells #[.slice ACons' xCons.length cCons', .slice ADatas' xDatas.length cDatas', .slice AMethods' xMethods.length cMethods', .slice AClasses' xClasses.length cClasses', .slice AInsts' xInsts.length cInsts'] 40))
  have BJ0 := Lib.hid (blk_new (w.alloc (.cells #[.slice ACons xCons.length cCons, .slice ADatas xDatas.length cDatas, .slice AMethods xMethods.length cMethods, .slice AClasses xClasses.length cClasses, .slice AInsts xInsts.length cInsts] 40)) (.cells #[.slice ACons' xCons.length cCons', .slice ADatas' xDatas.length cDatas', .slice AMethods' xMethods.length cMethods', .slice AClasses' xClasses.length cClasses', .slice AInsts' xInsts.length cInsts'] 40))
  have RDCons := Lib.hid rdCons
  have RDCons' := Lib.hid rdCons'
  have IHCons := Lib.hid ihCons
  have RDDatas := Lib.hid rdDatas
  have RDDatas' := Lib.hid rdDatas'
  have IHDatas := Lib.hid ihDatas
  have RDMethods := Lib.hid rdMethods
  have RDMethods' := Lib.hid rdMethods'
  have IHMethods := Lib.hid ihMethods
  have RDClasses := Lib.hid rdClasses
  have RDClasses' := Lib.hid rdClasses'
  have IHClasses := Lib.hid ihClasses
  have RDInsts := Lib.hid rdInsts
  have RDInsts' := Lib.hid rdInsts'
  have IHInsts := Lib.hid ihInsts
  clear h h' rdCons rdCons' ihCons rdDatas rdDatas' ihDatas rdMethods rdMethods' ihMethods rdClasses rdClasses' ihClasses rdInsts rdInsts' ihInsts
  go_enter Try.func20, Try.ntmps20
  go_wp2_with fail
  refine (IHCons.out _ _ _ (RDCons.out.below HB0.out) (RDCons'.out.below HB0.out)).mono ?_
  rintro e w1 ⟨rfl, hb⟩
  have HB1 := Lib.hid (HB0.out.trans (hb.mono HB0.out.size))
  have BK1 := Lib.hid (blk_below BK0.out hb)
  have BJ1 := Lib.hid (blk_below BJ0.out hb)
  clear hb
  have z1_0 := blk_cell BK1.out 0
  have z1_1 := blk_cell BK1.out 1
  have z1_2 := blk_cell BK1.out 2
  have z1_3 := blk_cell BK1.out 3
  have z1_4 := blk_cell BK1.out 4
  have y1_0 := blk_cell BJ1.out 0
  have y1_1 := blk_cell BJ1.out 1
  have y1_2 := blk_cell BJ1.out 2
  have y1_3 := blk_cell BJ1.out 3
  have y1_4 := blk_cell BJ1.out 4
  simp at z1_0 z1_1 z1_2 z1_3 z1_4 y1_0 y1_1 y1_2 y1_3 y1_4
  go_wp2_with fail
  refine (IHDatas.out _ _ _ (RDDatas.out.below HB1.out) (RDDatas'.out.below HB1.out)).mono ?_
  rintro e w2 ⟨rfl, hb⟩
  have HB2 := Lib.hid (HB1.out.trans (hb.mono HB1.out.size))
  have BK2 := Lib.hid (blk_below BK1.out hb)
  have BJ2 := Lib.hid (blk_below BJ1.out hb)
  clear hb
  have z2_0 := blk_cell BK2.out 0
  have z2_1 := blk_cell BK2.out 1
  have z2_2 := blk_cell BK2.out 2
  have z2_3 := blk_cell BK2.out 3
  have z2_4 := blk_cell BK2.out 4
  have y2_0 := blk_cell BJ2.out 0
  have y2_1 := blk_cell BJ2.out 1
  have y2_2 := blk_cell BJ2.out 2
  have y2_3 := blk_cell BJ2.out 3
  have y2_4 := blk_cell BJ2.out 4
  simp at z2_0 z2_1 z2_2 z2_3 z2_4 y2_0 y2_1 y2_2 y2_3 y2_4
  clear z1_0 y1_0 z1_1 y1_1 z1_2 y1_2 z1_3 y1_3 z1_4 y1_4
  go_wp2_with fail
  refine (IHMethods.out _ _ _ (RDMethods.out.below HB2.out) (RDMethods'.out.below HB2.out)).mono ?_
  rintro e w3 ⟨rfl, hb⟩
  have HB3 := Lib.hid (HB2.out.trans (hb.mono HB2.out.size))
  have BK3 := Lib.hid (blk_below BK2.out hb)
  have BJ3 := Lib.hid (blk_below BJ2.out hb)
  clear hb
  have z3_0 := blk_cell BK3.out 0
  have z3_1 := blk_cell BK3.out 1
  have z3_2 := blk_cell BK3.out 2
  have z3_3 := blk_cell BK3.out 3
  have z3_4 := blk_cell BK3.out 4
  have y3_0 := blk_cell BJ3.out 0
  have y3_1 := blk_cell BJ3.out 1
  have y3_2 := blk_cell BJ3.out 2
  have y3_3 := blk_cell BJ3.out 3
  have y3_4 := blk_cell BJ3.out 4
  simp at z3_0 z3_1 z3_2 z3_3 z3_4 y3_0 y3_1 y3_2 y3_3 y3_4
  clear z2_0 y2_0 z2_1 y2_1 z2_2 y2_2 z2_3 y2_3 z2_4 y2_4
  go_wp2_with fail
  refine (IHClasses.out _ _ _ (RDClasses.out.below HB3.out) (RDClasses'.out.below HB3.out)).mono ?_
  rintro e w4 ⟨rfl, hb⟩
  have HB4 := Lib.hid (HB3.out.trans (hb.mono HB3.out.size))
  have BK4 := Lib.hid (blk_below BK3.out hb)
  have BJ4 := Lib.hid (blk_below BJ3.out hb)
  clear hb
  have z4_0 := blk_cell BK4.out 0
  have z4_1 := blk_cell BK4.out 1
  have z4_2 := blk_cell BK4.out 2
  have z4_3 := blk_cell BK4.out 3
  have z4_4 := blk_cell BK4.out 4
  have y4_0 := blk_cell BJ4.out 0
  have y4_1 := blk_cell BJ4.out 1
  have y4_2 := blk_cell BJ4.out 2
  have y4_3 := blk_cell BJ4.out 3
  have y4_4 := blk_cell BJ4.out 4
  simp at z4_0 z4_1 z4_2 z4_3 z4_4 y4_0 y4_1 y4_2 y4_3 y4_4
  clear z3_0 y3_0 z3_1 y3_1 z3_2 y3_2 z3_3 y3_3 z3_4 y3_4
  go_wp2_with fail
  refine (IHInsts.out _ _ _ (RDInsts.out.below HB4.out) (RDInsts'.out.below HB4.out)).mono ?_
  rintro e w5 ⟨rfl, hb⟩
  have HB5 := Lib.hid (HB4.out.trans (hb.mono HB4.out.size))
  have BK5 := Lib.hid (blk_below BK4.out hb)
  have BJ5 := Lib.hid (blk_below BJ4.out hb)
  clear hb
  have z5_0 := blk_cell BK5.out 0
  have z5_1 := blk_cell BK5.out 1
  have z5_2 := blk_cell BK5.out 2
  have z5_3 := blk_cell BK5.out 3
  have z5_4 := blk_cell BK5.out 4
  have y5_0 := blk_cell BJ5.out 0
  have y5_1 := blk_cell BJ5.out 1
  have y5_2 := blk_cell BJ5.out 2
  have y5_3 := blk_cell BJ5.out 3
  have y5_4 := blk_cell BJ5.out 4
  simp at z5_0 z5_1 z5_2 z5_3 z5_4 y5_0 y5_1 y5_2 y5_3 y5_4
  clear z4_0 y4_0 z4_1 y4_1 z4_2 y4_2 z4_3 y4_3 z4_4 y4_4
  go_wp2
  go_ret
  exact ⟨rfl, HB5.out⟩

set_option maxRecDepth 100000 in
theorem toTables_of (xCons : List D) (xDatas : List D) (xMethods : List D) (xClasses : List D) (xInsts : List D) (ihCons : ToO Try.prog 82 (D.slice 5 xCons)) (ihDatas : ToO Try.prog 83 (D.slice 3 xDatas)) (ihMethods : ToO Try.prog 84 (D.slice 8 xMethods)) (ihClasses : ToO Try.prog 85 (D.slice 3 xClasses)) (ihInsts : ToO Try.prog 86 (D.slice 4 xInsts)) : ToA Try.prog 25 (.struct [.slice 5 xCons, .slice 3 xDatas, .slice 8 xMethods, .slice 3 xClasses, .slice 4 xInsts]) := by
  intro w cs h
  obtain ⟨ACons, cCons, ADatas, cDatas, AMethods, cMethods, AClasses, cClasses, AInsts, cInsts, rfl, rdCons, rdDatas, rdMethods, rdClasses, rdInsts⟩ := openTables h
  have RDCons := Lib.hid rdCons
  have IHCons := Lib.hid ihCons
  have RDDatas := Lib.hid rdDatas
  have IHDatas := Lib.hid ihDatas
  have RDMethods := Lib.hid rdMethods
  have IHMethods := Lib.hid ihMethods
  have RDClasses := Lib.hid rdClasses
  have IHClasses := Lib.hid ihClasses
  have RDInsts := Lib.hid rdInsts
  have IHInsts := Lib.hid ihInsts
  clear h rdCons ihCons rdDatas ihDatas rdMethods ihMethods rdClasses ihClasses rdInsts ihInsts
  go_enter Try.func25, Try.ntmps25
  go_wp2_with fail
  have HB0 := Lib.hid ((((Below.refl w.heap.size w).alloc (Nat.le_refl _) (.cells #[.slice ACons xCons.length cCons, .slice ADatas xDatas.length cDatas, .slice AMethods xMethods.length cMethods, .slice AClasses xClasses.length cClasses, .slice AInsts xInsts.length cInsts] 51)).alloc (by simp) (.cells #[.slice none 0 0, .slice none 0 0, .slice none 0 0, .slice none 0 0, .slice none 0 0] 40)).alloc (by simp; omega) (.cells #[.slice none 0 0, .slice none 0 0, .slice none 0 0, .slice none 0 0, .slice none 0 0] 40))
  have HS0 := Lib.hid (show (((w.alloc (.cells #[.slice ACons xCons.length cCons, .slice ADatas xDatas.length cDatas, .slice AMethods xMethods.length cMethods, .slice AClasses xClasses.length cClasses, .slice AInsts xInsts.length cInsts] 51)).alloc (.cells #[.slice none 0 0, .slice none 0 0, .slice none 0 0, .slice none 0 0, .slice none 0 0] 40)).alloc (.cells #[.slice none 0 0, .slice none 0 0, .slice none 0 0, .slice none 0 0, .slice none 0 0] 40)).heap.size = w.heap.size + 3 by simp)
  have BA0 := Lib.hid (blk_old (blk_old (blk_new w (.cells #[.slice ACons xCons.length cCons, .slice ADatas xDatas.length cDatas, .slice AMethods xMethods.length cMethods, .slice AClasses xClasses.length cClasses, .slice AInsts xInsts.length cInsts] 51)) (.cells #[.slice none 0 0, .slice none 0 0, .slice none 0 0, .slice none 0 0, .slice none 0 0] 40)) (.cells #[.slice none 0 0, .slice none 0 0, .slice none 0 0, .slice none 0 0, .slice none 0 0] 40))
  have BR0 := Lib.hid (blk_old (blk_new_g (w := w.alloc (.cells #[.slice ACons xCons.length cCons, .slice ADatas xDatas.length cDatas, .slice AMethods xMethods.length cMethods, .slice AClasses xClasses.length cClasses, .slice AInsts xInsts.length cInsts] 51)) (g := w.heap.size + 1) (o := (.cells #[.slice none 0 0, .slice none 0 0, .slice none 0 0, .slice none 0 0, .slice none 0 0] 40)) (by simp)) (.cells #[.slice none 0 0, .slice none 0 0, .slice none 0 0, .slice none 0 0, .slice none 0 0] 40))
  have BO0 := Lib.hid (blk_new_g (w := (w.alloc (.cells #[.slice ACons xCons.length cCons, .slice ADatas xDatas.length cDatas, .slice AMethods xMethods.length cMethods, .slice AClasses xClasses.length cClasses, .slice AInsts xInsts.length cInsts] 51)).alloc (.cells #[.slice none 0 0, .slice none 0 0, .slice none 0 0, .slice none 0 0, .slice none 0 0] 40)) (g := w.heap.size + 2) (o := (.cells #[.slice none 0 0, .slice none 0 0, .slice none 0 0, .slice none 0 0, .slice none 0 0] 40)) (by simp))
  refine (IHCons.out _ _ (RDCons.out.below HB0.out)).mono ?_
  rintro e w1 ⟨vCons, rfl, hfr, hb⟩
  obtain ⟨BCons, dCons, rfl, _, _, _⟩ := hfr.slice
  have hr := hfr.range
  have hsz := hb.size
  rw [HS0.out] at hr hsz
  have FRCons := Lib.hid hr
  have SY1 := Lib.hid hsz
  have SZ1 := Lib.hid (show w.heap.size + 3 ≤ w1.heap.size by omega)
  have HB1 := Lib.hid (HB0.out.trans (hb.mono HB0.out.size))
  have BA1 := Lib.hid (blk_below BA0.out hb)
  have BR1 := Lib.hid (blk_below BR0.out hb)
  have BO1 := Lib.hid (blk_below BO0.out hb)
  clear hb hfr hr hsz
  have za1_0 := blk_cell BA1.out 0
  have za1_1 := blk_cell BA1.out 1
  have za1_2 := blk_cell BA1.out 2
  have za1_3 := blk_cell BA1.out 3
  have za1_4 := blk_cell BA1.out 4
  have zo1_0 := blk_cell BO1.out 0
  have zo1_f0 := blk_frozen BO1.out 0
  have zo1_1 := blk_cell BO1.out 1
  have zo1_f1 := blk_frozen BO1.out 1
  have zo1_2 := blk_cell BO1.out 2
  have zo1_f2 := blk_frozen BO1.out 2
  have zo1_3 := blk_cell BO1.out 3
  have zo1_f3 := blk_frozen BO1.out 3
  have zo1_4 := blk_cell BO1.out 4
  have zo1_f4 := blk_frozen BO1.out 4
  simp at za1_0 za1_1 za1_2 za1_3 za1_4 zo1_0 zo1_f0 zo1_1 zo1_f1 zo1_2 zo1_f2 zo1_3 zo1_f3 zo1_4 zo1_f4
  have HB1 := Lib.hid (HB1.out.setCell (p := ⟨w.heap.size + 2, 0, none⟩) (by simp) (.slice BCons xCons.length dCons))
  have BA1 := Lib.hid (blk_far BA1.out (p := ⟨w.heap.size + 2, 0, none⟩) (by simp) (.slice BCons xCons.length dCons))
  have BR1 := Lib.hid (blk_far BR1.out (p := ⟨w.heap.size + 2, 0, none⟩) (by simp) (.slice BCons xCons.length dCons))
  have BO1 := Lib.hid ((blk_set BO1.out 0 (.slice BCons xCons.length dCons)).trans (show _ = some (Obj.cells #[.slice BCons xCons.length dCons, .slice none 0 0, .slice none 0 0, .slice none 0 0, .slice none 0 0] 40 (0, 0)) from rfl))
  have FRCons := Lib.hid (FRCons.out.set (p := ⟨w.heap.size + 2, 0, none⟩) (by simp) (.slice BCons xCons.length dCons))
  go_wp2_with fail
  refine (IHDatas.out _ _ (RDDatas.out.below HB1.out)).mono ?_
  rintro e w2 ⟨vDatas, rfl, hfr, hb⟩
  obtain ⟨BDatas, dDatas, rfl, _, _, _⟩ := hfr.slice
  have hr := hfr.range
  have hsz := hb.size
  simp only [sz_setCell] at hr hsz
  have FRDatas := Lib.hid hr
  have SY2 := Lib.hid hsz
  have SZ2 := Lib.hid (show w.heap.size + 3 ≤ w2.heap.size by have := SZ1.out; omega)
  have FRCons := Lib.hid (FRCons.out.below hb)
  have HB2 := Lib.hid (HB1.out.trans (hb.mono HB1.out.size))
  have BA2 := Lib.hid (blk_below BA1.out hb)
  have BR2 := Lib.hid (blk_below BR1.out hb)
  have BO2 := Lib.hid (blk_below BO1.out hb)
  clear hb hfr hr hsz
  have za2_0 := blk_cell BA2.out 0
  have za2_1 := blk_cell BA2.out 1
  have za2_2 := blk_cell BA2.out 2
  have za2_3 := blk_cell BA2.out 3
  have za2_4 := blk_cell BA2.out 4
  have zo2_0 := blk_cell BO2.out 0
  have zo2_f0 := blk_frozen BO2.out 0
  have zo2_1 := blk_cell BO2.out 1
  have zo2_f1 := blk_frozen BO2.out 1
  have zo2_2 := blk_cell BO2.out 2
  have zo2_f2 := blk_frozen BO2.out 2
  have zo2_3 := blk_cell BO2.out 3
  have zo2_f3 := blk_frozen BO2.out 3
  have zo2_4 := blk_cell BO2.out 4
  have zo2_f4 := blk_frozen BO2.out 4
  simp at za2_0 za2_1 za2_2 za2_3 za2_4 zo2_0 zo2_f0 zo2_1 zo2_f1 zo2_2 zo2_f2 zo2_3 zo2_f3 zo2_4 zo2_f4
  clear za1_0 zo1_0 zo1_f0 za1_1 zo1_1 zo1_f1 za1_2 zo1_2 zo1_f2 za1_3 zo1_3 zo1_f3 za1_4 zo1_4 zo1_f4
  have HB2 := Lib.hid (HB2.out.setCell (p := ⟨w.heap.size + 2, 1, none⟩) (by simp) (.slice BDatas xDatas.length dDatas))
  have BA2 := Lib.hid (blk_far BA2.out (p := ⟨w.heap.size + 2, 1, none⟩) (by simp) (.slice BDatas xDatas.length dDatas))
  have BR2 := Lib.hid (blk_far BR2.out (p := ⟨w.heap.size + 2, 1, none⟩) (by simp) (.slice BDatas xDatas.length dDatas))
  have BO2 := Lib.hid ((blk_set BO2.out 1 (.slice BDatas xDatas.length dDatas)).trans (show _ = some (Obj.cells #[.slice BCons xCons.length dCons, .slice BDatas xDatas.length dDatas, .slice none 0 0, .slice none 0 0, .slice none 0 0] 40 (0, 0)) from rfl))
  have FRCons := Lib.hid (FRCons.out.set (p := ⟨w.heap.size + 2, 1, none⟩) (by simp) (.slice BDatas xDatas.length dDatas))
  have FRDatas := Lib.hid (FRDatas.out.set (p := ⟨w.heap.size + 2, 1, none⟩) (by have := SZ1.out; simp; omega) (.slice BDatas xDatas.length dDatas))
  go_wp2_with fail
  refine (IHMethods.out _ _ (RDMethods.out.below HB2.out)).mono ?_
  rintro e w3 ⟨vMethods, rfl, hfr, hb⟩
  obtain ⟨BMethods, dMethods, rfl, _, _, _⟩ := hfr.slice
  have hr := hfr.range
  have hsz := hb.size
  simp only [sz_setCell] at hr hsz
  have FRMethods := Lib.hid hr
  have SY3 := Lib.hid hsz
  have SZ3 := Lib.hid (show w.heap.size + 3 ≤ w3.heap.size by have := SZ2.out; omega)
  have FRCons := Lib.hid (FRCons.out.below hb)
  have FRDatas := Lib.hid (FRDatas.out.below hb)
  have HB3 := Lib.hid (HB2.out.trans (hb.mono HB2.out.size))
  have BA3 := Lib.hid (blk_below BA2.out hb)
  have BR3 := Lib.hid (blk_below BR2.out hb)
  have BO3 := Lib.hid (blk_below BO2.out hb)
  clear hb hfr hr hsz
  have za3_0 := blk_cell BA3.out 0
  have za3_1 := blk_cell BA3.out 1
  have za3_2 := blk_cell BA3.out 2
  have za3_3 := blk_cell BA3.out 3
  have za3_4 := blk_cell BA3.out 4
  have zo3_0 := blk_cell BO3.out 0
  have zo3_f0 := blk_frozen BO3.out 0
  have zo3_1 := blk_cell BO3.out 1
  have zo3_f1 := blk_frozen BO3.out 1
  have zo3_2 := blk_cell BO3.out 2
  have zo3_f2 := blk_frozen BO3.out 2
  have zo3_3 := blk_cell BO3.out 3
  have zo3_f3 := blk_frozen BO3.out 3
  have zo3_4 := blk_cell BO3.out 4
  have zo3_f4 := blk_frozen BO3.out 4
  simp at za3_0 za3_1 za3_2 za3_3 za3_4 zo3_0 zo3_f0 zo3_1 zo3_f1 zo3_2 zo3_f2 zo3_3 zo3_f3 zo3_4 zo3_f4
  clear za2_0 zo2_0 zo2_f0 za2_1 zo2_1 zo2_f1 za2_2 zo2_2 zo2_f2 za2_3 zo2_3 zo2_f3 za2_4 zo2_4 zo2_f4
  have HB3 := Lib.hid (HB3.out.setCell (p := ⟨w.heap.size + 2, 2, none⟩) (by simp) (.slice BMethods xMethods.length dMethods))
  have BA3 := Lib.hid (blk_far BA3.out (p := ⟨w.heap.size + 2, 2, none⟩) (by simp) (.slice BMethods xMethods.length dMethods))
  have BR3 := Lib.hid (blk_far BR3.out (p := ⟨w.heap.size + 2, 2, none⟩) (by simp) (.slice BMethods xMethods.length dMethods))
  have BO3 := Lib.hid ((blk_set BO3.out 2 (.slice BMethods xMethods.length dMethods)).trans (show _ = some (Obj.cells #[.slice BCons xCons.length dCons, .slice BDatas xDatas.length dDatas, .slice BMethods xMethods.length dMethods, .slice none 0 0, .slice none 0 0] 40 (0, 0)) from rfl))
  have FRCons := Lib.hid (FRCons.out.set (p := ⟨w.heap.size + 2, 2, none⟩) (by simp) (.slice BMethods xMethods.length dMethods))
  have FRDatas := Lib.hid (FRDatas.out.set (p := ⟨w.heap.size + 2, 2, none⟩) (by have := SZ1.out; simp; omega) (.slice BMethods xMethods.length dMethods))
  have FRMethods := Lib.hid (FRMethods.out.set (p := ⟨w.heap.size + 2, 2, none⟩) (by have := SZ2.out; simp; omega) (.slice BMethods xMethods.length dMethods))
  go_wp2_with fail
  refine (IHClasses.out _ _ (RDClasses.out.below HB3.out)).mono ?_
  rintro e w4 ⟨vClasses, rfl, hfr, hb⟩
  obtain ⟨BClasses, dClasses, rfl, _, _, _⟩ := hfr.slice
  have hr := hfr.range
  have hsz := hb.size
  simp only [sz_setCell] at hr hsz
  have FRClasses := Lib.hid hr
  have SY4 := Lib.hid hsz
  have SZ4 := Lib.hid (show w.heap.size + 3 ≤ w4.heap.size by have := SZ3.out; omega)
  have FRCons := Lib.hid (FRCons.out.below hb)
  have FRDatas := Lib.hid (FRDatas.out.below hb)
  have FRMethods := Lib.hid (FRMethods.out.below hb)
  have HB4 := Lib.hid (HB3.out.trans (hb.mono HB3.out.size))
  have BA4 := Lib.hid (blk_below BA3.out hb)
  have BR4 := Lib.hid (blk_below BR3.out hb)
  have BO4 := Lib.hid (blk_below BO3.out hb)
  clear hb hfr hr hsz
  have za4_0 := blk_cell BA4.out 0
  have za4_1 := blk_cell BA4.out 1
  have za4_2 := blk_cell BA4.out 2
  have za4_3 := blk_cell BA4.out 3
  have za4_4 := blk_cell BA4.out 4
  have zo4_0 := blk_cell BO4.out 0
  have zo4_f0 := blk_frozen BO4.out 0
  have zo4_1 := blk_cell BO4.out 1
  have zo4_f1 := blk_frozen BO4.out 1
  have zo4_2 := blk_cell BO4.out 2
  have zo4_f2 := blk_frozen BO4.out 2
  have zo4_3 := blk_cell BO4.out 3
  have zo4_f3 := blk_frozen BO4.out 3
  have zo4_4 := blk_cell BO4.out 4
  have zo4_f4 := blk_frozen BO4.out 4
  simp at za4_0 za4_1 za4_2 za4_3 za4_4 zo4_0 zo4_f0 zo4_1 zo4_f1 zo4_2 zo4_f2 zo4_3 zo4_f3 zo4_4 zo4_f4
  clear za3_0 zo3_0 zo3_f0 za3_1 zo3_1 zo3_f1 za3_2 zo3_2 zo3_f2 za3_3 zo3_3 zo3_f3 za3_4 zo3_4 zo3_f4
  have HB4 := Lib.hid (HB4.out.setCell (p := ⟨w.heap.size + 2, 3, none⟩) (by simp) (.slice BClasses xClasses.length dClasses))
  have BA4 := Lib.hid (blk_far BA4.out (p := ⟨w.heap.size + 2, 3, none⟩) (by simp) (.slice BClasses xClasses.length dClasses))
  have BR4 := Lib.hid (blk_far BR4.out (p := ⟨w.heap.size + 2, 3, none⟩) (by simp) (.slice BClasses xClasses.length dClasses))
  have BO4 := Lib.hid ((blk_set BO4.out 3 (.slice BClasses xClasses.length dClasses)).trans (show _ = some (Obj.cells #[.slice BCons xCons.length dCons, .slice BDatas xDatas.length dDatas, .slice BMethods xMethods.length dMethods, .slice BClasses xClasses.length dClasses, .slice none 0 0] 40 (0, 0)) from rfl))
  have FRCons := Lib.hid (FRCons.out.set (p := ⟨w.heap.size + 2, 3, none⟩) (by simp) (.slice BClasses xClasses.length dClasses))
  have FRDatas := Lib.hid (FRDatas.out.set (p := ⟨w.heap.size + 2, 3, none⟩) (by have := SZ1.out; simp; omega) (.slice BClasses xClasses.length dClasses))
  have FRMethods := Lib.hid (FRMethods.out.set (p := ⟨w.heap.size + 2, 3, none⟩) (by have := SZ2.out; simp; omega) (.slice BClasses xClasses.length dClasses))
  have FRClasses := Lib.hid (FRClasses.out.set (p := ⟨w.heap.size + 2, 3, none⟩) (by have := SZ3.out; simp; omega) (.slice BClasses xClasses.length dClasses))
  go_wp2_with fail
  refine (IHInsts.out _ _ (RDInsts.out.below HB4.out)).mono ?_
  rintro e w5 ⟨vInsts, rfl, hfr, hb⟩
  obtain ⟨BInsts, dInsts, rfl, _, _, _⟩ := hfr.slice
  have hr := hfr.range
  have hsz := hb.size
  simp only [sz_setCell] at hr hsz
  have FRInsts := Lib.hid hr
  have SY5 := Lib.hid hsz
  have SZ5 := Lib.hid (show w.heap.size + 3 ≤ w5.heap.size by have := SZ4.out; omega)
  have FRCons := Lib.hid (FRCons.out.below hb)
  have FRDatas := Lib.hid (FRDatas.out.below hb)
  have FRMethods := Lib.hid (FRMethods.out.below hb)
  have FRClasses := Lib.hid (FRClasses.out.below hb)
  have HB5 := Lib.hid (HB4.out.trans (hb.mono HB4.out.size))
  have BA5 := Lib.hid (blk_below BA4.out hb)
  have BR5 := Lib.hid (blk_below BR4.out hb)
  have BO5 := Lib.hid (blk_below BO4.out hb)
  clear hb hfr hr hsz
  have za5_0 := blk_cell BA5.out 0
  have za5_1 := blk_cell BA5.out 1
  have za5_2 := blk_cell BA5.out 2
  have za5_3 := blk_cell BA5.out 3
  have za5_4 := blk_cell BA5.out 4
  have zo5_0 := blk_cell BO5.out 0
  have zo5_f0 := blk_frozen BO5.out 0
  have zo5_1 := blk_cell BO5.out 1
  have zo5_f1 := blk_frozen BO5.out 1
  have zo5_2 := blk_cell BO5.out 2
  have zo5_f2 := blk_frozen BO5.out 2
  have zo5_3 := blk_cell BO5.out 3
  have zo5_f3 := blk_frozen BO5.out 3
  have zo5_4 := blk_cell BO5.out 4
  have zo5_f4 := blk_frozen BO5.out 4
  have zr5_0 := blk_cell BR5.out 0
  have zr5_f0 := blk_frozen BR5.out 0
  have zr5_1 := blk_cell BR5.out 1
  have zr5_f1 := blk_frozen BR5.out 1
  have zr5_2 := blk_cell BR5.out 2
  have zr5_f2 := blk_frozen BR5.out 2
  have zr5_3 := blk_cell BR5.out 3
  have zr5_f3 := blk_frozen BR5.out 3
  have zr5_4 := blk_cell BR5.out 4
  have zr5_f4 := blk_frozen BR5.out 4
  simp at za5_0 za5_1 za5_2 za5_3 za5_4 zo5_0 zo5_f0 zo5_1 zo5_f1 zo5_2 zo5_f2 zo5_3 zo5_f3 zo5_4 zo5_f4 zr5_0 zr5_f0 zr5_1 zr5_f1 zr5_2 zr5_f2 zr5_3 zr5_f3 zr5_4 zr5_f4
  clear za4_0 zo4_0 zo4_f0 za4_1 zo4_1 zo4_f1 za4_2 zo4_2 zo4_f2 za4_3 zo4_3 zo4_f3 za4_4 zo4_4 zo4_f4
  have HB5 := Lib.hid (HB5.out.setCell (p := ⟨w.heap.size + 2, 4, none⟩) (by simp) (.slice BInsts xInsts.length dInsts))
  have BA5 := Lib.hid (blk_far BA5.out (p := ⟨w.heap.size + 2, 4, none⟩) (by simp) (.slice BInsts xInsts.length dInsts))
  have BR5 := Lib.hid (blk_far BR5.out (p := ⟨w.heap.size + 2, 4, none⟩) (by simp) (.slice BInsts xInsts.length dInsts))
  have BO5 := Lib.hid ((blk_set BO5.out 4 (.slice BInsts xInsts.length dInsts)).trans (show _ = some (Obj.cells #[.slice BCons xCons.length dCons, .slice BDatas xDatas.length dDatas, .slice BMethods xMethods.length dMethods, .slice BClasses xClasses.length dClasses, .slice BInsts xInsts.length dInsts] 40 (0, 0)) from rfl))
  have FRCons := Lib.hid (FRCons.out.set (p := ⟨w.heap.size + 2, 4, none⟩) (by simp) (.slice BInsts xInsts.length dInsts))
  have FRDatas := Lib.hid (FRDatas.out.set (p := ⟨w.heap.size + 2, 4, none⟩) (by have := SZ1.out; simp; omega) (.slice BInsts xInsts.length dInsts))
  have FRMethods := Lib.hid (FRMethods.out.set (p := ⟨w.heap.size + 2, 4, none⟩) (by have := SZ2.out; simp; omega) (.slice BInsts xInsts.length dInsts))
  have FRClasses := Lib.hid (FRClasses.out.set (p := ⟨w.heap.size + 2, 4, none⟩) (by have := SZ3.out; simp; omega) (.slice BInsts xInsts.length dInsts))
  have FRInsts := Lib.hid (FRInsts.out.set (p := ⟨w.heap.size + 2, 4, none⟩) (by have := SZ4.out; simp; omega) (.slice BInsts xInsts.length dInsts))
  go_wp2
  have HB5 := Lib.hid (((((HB5.out.setCell (p := ⟨w.heap.size + 1, 0, none⟩) (by simp) (.slice BCons xCons.length dCons)).setCell (p := ⟨w.heap.size + 1, 1, none⟩) (by simp) (.slice BDatas xDatas.length dDatas)).setCell (p := ⟨w.heap.size + 1, 2, none⟩) (by simp) (.slice BMethods xMethods.length dMethods)).setCell (p := ⟨w.heap.size + 1, 3, none⟩) (by simp) (.slice BClasses xClasses.length dClasses)).setCell (p := ⟨w.heap.size + 1, 4, none⟩) (by simp) (.slice BInsts xInsts.length dInsts))
  have FRCons := Lib.hid (((((FRCons.out.set (p := ⟨w.heap.size + 1, 0, none⟩) (by simp) (.slice BCons xCons.length dCons)).set (p := ⟨w.heap.size + 1, 1, none⟩) (by simp) (.slice BDatas xDatas.length dDatas)).set (p := ⟨w.heap.size + 1, 2, none⟩) (by simp) (.slice BMethods xMethods.length dMethods)).set (p := ⟨w.heap.size + 1, 3, none⟩) (by simp) (.slice BClasses xClasses.length dClasses)).set (p := ⟨w.heap.size + 1, 4, none⟩) (by simp) (.slice BInsts xInsts.length dInsts))
  have FRDatas := Lib.hid (((((FRDatas.out.set (p := ⟨w.heap.size + 1, 0, none⟩) (by have := SZ1.out; simp; omega) (.slice BCons xCons.length dCons)).set (p := ⟨w.heap.size + 1, 1, none⟩) (by have := SZ1.out; simp; omega) (.slice BDatas xDatas.length dDatas)).set (p := ⟨w.heap.size + 1, 2, none⟩) (by have := SZ1.out; simp; omega) (.slice BMethods xMethods.length dMethods)).set (p := ⟨w.heap.size + 1, 3, none⟩) (by have := SZ1.out; simp; omega) (.slice BClasses xClasses.length dClasses)).set (p := ⟨w.heap.size + 1, 4, none⟩) (by have := SZ1.out; simp; omega) (.slice BInsts xInsts.length dInsts))
  have FRMethods := Lib.hid (((((FRMethods.out.set (p := ⟨w.heap.size + 1, 0, none⟩) (by have := SZ2.out; simp; omega) (.slice BCons xCons.length dCons)).set (p := ⟨w.heap.size + 1, 1, none⟩) (by have := SZ2.out; simp; omega) (.slice BDatas xDatas.length dDatas)).set (p := ⟨w.heap.size + 1, 2, none⟩) (by have := SZ2.out; simp; omega) (.slice BMethods xMethods.length dMethods)).set (p := ⟨w.heap.size + 1, 3, none⟩) (by have := SZ2.out; simp; omega) (.slice BClasses xClasses.length dClasses)).set (p := ⟨w.heap.size + 1, 4, none⟩) (by have := SZ2.out; simp; omega) (.slice BInsts xInsts.length dInsts))
  have FRClasses := Lib.hid (((((FRClasses.out.set (p := ⟨w.heap.size + 1, 0, none⟩) (by have := SZ3.out; simp; omega) (.slice BCons xCons.length dCons)).set (p := ⟨w.heap.size + 1, 1, none⟩) (by have := SZ3.out; simp; omega) (.slice BDatas xDatas.length dDatas)).set (p := ⟨w.heap.size + 1, 2, none⟩) (by have := SZ3.out; simp; omega) (.slice BMethods xMethods.length dMethods)).set (p := ⟨w.heap.size + 1, 3, none⟩) (by have := SZ3.out; simp; omega) (.slice BClasses xClasses.length dClasses)).set (p := ⟨w.heap.size + 1, 4, none⟩) (by have := SZ3.out; simp; omega) (.slice BInsts xInsts.length dInsts))
  have FRInsts := Lib.hid (((((FRInsts.out.set (p := ⟨w.heap.size + 1, 0, none⟩) (by have := SZ4.out; simp; omega) (.slice BCons xCons.length dCons)).set (p := ⟨w.heap.size + 1, 1, none⟩) (by have := SZ4.out; simp; omega) (.slice BDatas xDatas.length dDatas)).set (p := ⟨w.heap.size + 1, 2, none⟩) (by have := SZ4.out; simp; omega) (.slice BMethods xMethods.length dMethods)).set (p := ⟨w.heap.size + 1, 3, none⟩) (by have := SZ4.out; simp; omega) (.slice BClasses xClasses.length dClasses)).set (p := ⟨w.heap.size + 1, 4, none⟩) (by have := SZ4.out; simp; omega) (.slice BInsts xInsts.length dInsts))
  refine bodyPost_ret (v := .agg #[.slice BCons xCons.length dCons, .slice BDatas xDatas.length dDatas, .slice BMethods xMethods.length dMethods, .slice BClasses xClasses.length dClasses, .slice BInsts xInsts.length dInsts]) (by simp [results, Try.results25, go_sem, zr5_0, zr5_1, zr5_2, zr5_3, zr5_4]) rfl ⟨[.slice BCons xCons.length dCons, .slice BDatas xDatas.length dDatas, .slice BMethods xMethods.length dMethods, .slice BClasses xClasses.length dClasses, .slice BInsts xInsts.length dInsts], rfl, ?_, HB5.out⟩
  rw [fr_struct]
  have sy1 := SY1.out
  have sy2 := SY2.out
  have sy3 := SY3.out
  have sy4 := SY4.out
  have sy5 := SY5.out
  exact FrFR.fr (B := w.heap.size + 3) (frFR_cons (B2 := w1.heap.size) (C := w5.heap.size) FRCons.out (frFR_cons (B2 := w2.heap.size) (C := w5.heap.size) FRDatas.out (frFR_cons (B2 := w3.heap.size) (C := w5.heap.size) FRMethods.out (frFR_cons (B2 := w4.heap.size) (C := w5.heap.size) FRClasses.out (frFR_cons (B2 := w5.heap.size) (C := w5.heap.size) FRInsts.out (frFR_nil w5.heap.size w5.heap.size _) (Nat.le_refl _) (by omega) (by omega)) (Nat.le_refl _) (by omega) (by omega)) (Nat.le_refl _) (by omega) (by omega)) (Nat.le_refl _) (by omega) (by omega)) (Nat.le_refl _) (by omega) (by omega)) (by omega)

end Go.Proofs.Ytifmnijdaboenaa
