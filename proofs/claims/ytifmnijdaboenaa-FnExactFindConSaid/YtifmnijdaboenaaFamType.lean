/- What the laws' own helpers do with Type,[]Type; no condition. -/
import Derived.Test.YtifmnijdaboenaaHs
import Derived.Test.YtifmnijdaboenaaProg
namespace Go.Proofs.Ytifmnijdaboenaa
open Go.RowKit
set_option linter.unusedVariables false
set_option linter.unusedSimpArgs false

theorem openType {iKind : Int} {iId : Int} {sName : ByteArray} {xArgs : List D} {w : World} {cs : List Value} (h : Rd w (.struct [.int .i64 iKind, .int .i64 iId, .str sName, .slice 4 xArgs]) cs) : ∃ (AArgs : Option Addr) (cArgs : Nat), cs = [.int .i64 iKind, .int .i64 iId, .string sName, .slice AArgs xArgs.length cArgs] ∧ Rd w (D.slice 4 xArgs) [.slice AArgs xArgs.length cArgs] := by
  rw [rd_struct] at h
  simp only [rdF_cons, rdF_nil, rd_int, rd_bool, rd_str] at h
  obtain ⟨e0, r0, rfl, rfl, e1, r1, rfl, rfl, e2, r2, rfl, rfl, e3, r3, rfl, hArgs, rfl⟩ := h
  have kArgs := hArgs
  obtain ⟨AArgs, cArgs, rfl, _⟩ := rd_slice hArgs
  exact ⟨AArgs, cArgs, by simp, kArgs⟩

set_option maxRecDepth 100000 in
theorem szType_of (iKind : Int) (iId : Int) (sName : ByteArray) (xArgs : List D) (hsName : sName.size ≤ 140737488351232) (ihArgs : SzO Try.prog 154 (D.slice 4 xArgs)) : SzA Try.prog 173 (.struct [.int .i64 iKind, .int .i64 iId, .str sName, .slice 4 xArgs]) := by
  intro w cs left h h0 h1
  obtain ⟨AArgs, cArgs, rfl, rdArgs⟩ := openType h
  have TOT := Lib.hid (show D.bulk (.struct [.int .i64 iKind, .int .i64 iId, .str sName, .slice 4 xArgs]) = sName.size + (D.slice 4 xArgs).bulk by simp only [D.bulk, D.bulks] <;> omega)
  have HB0 := Lib.hid ((Below.refl w.heap.size w).alloc (Nat.le_refl _) (.cells #[.int .i64 iKind, .int .i64 iId, .string sName, .slice AArgs xArgs.length cArgs] 176))
  have BK0 := Lib.hid (blk_new w (.cells #[.int .i64 iKind, .int .i64 iId, .string sName, .slice AArgs xArgs.length cArgs] 176))
  have RDArgs := Lib.hid rdArgs
  have IHArgs := Lib.hid ihArgs
  clear h rdArgs ihArgs
  go_enter Try.func173, Try.ntmps173
  go_wp2_with fail
  · go_ret
    exact ⟨ret_int (szR_neg' (by rw [TOT.out]; omega)).symm, HB0.out⟩
  · skip
    have hlArgs : 0 ≤ left - (sName.size : Int) := by omega
    refine (IHArgs.out _ _ (left - (sName.size : Int)) (RDArgs.out.below HB0.out) hlArgs (by omega)).mono ?_
    rintro e w1 ⟨rfl, hb⟩
    have HB1 := Lib.hid (HB0.out.trans (hb.mono HB0.out.size))
    have BK1 := Lib.hid (blk_below BK0.out hb)
    clear hb
    have z1_0 := blk_cell BK1.out 0
    have z1_1 := blk_cell BK1.out 1
    have z1_2 := blk_cell BK1.out 2
    have z1_3 := blk_cell BK1.out 3
    simp at z1_0 z1_1 z1_2 z1_3
    by_cases hzArgs : left - (sName.size : Int) < ((D.slice 4 xArgs).bulk : Int)
    · rw [szR_neg' hzArgs]
      go_wp2
      go_ret
      exact ⟨ret_int (szR_neg' (by rw [TOT.out]; omega)).symm, HB1.out⟩
    · rw [szR_fit (by omega)]
      go_wp2_with fail
      go_ret
      exact ⟨ret_int ((szR_fit (by rw [TOT.out]; omega)).trans (by rw [TOT.out] <;> omega)).symm, HB1.out⟩

set_option maxRecDepth 100000 in
theorem eqType_of (iKind : Int) (iId : Int) (sName : ByteArray) (xArgs : List D) (ihArgs : EqO Try.prog 92 (D.slice 4 xArgs)) : EqA Try.prog 126 (.struct [.int .i64 iKind, .int .i64 iId, .str sName, .slice 4 xArgs]) := by
  intro w cs cs' h h'
  obtain ⟨AArgs, cArgs, rfl, rdArgs⟩ := openType h
  obtain ⟨AArgs', cArgs', rfl, rdArgs'⟩ := openType h'
  have HB0 := Lib.hid (((Below.refl w.heap.size w).alloc (Nat.le_refl _) (.cells #[.int .i64 iKind, .int .i64 iId, .string sName, .slice AArgs xArgs.length cArgs] 97)).alloc (by simp) (.cells #[.int .i64 iKind, .int .i64 iId, .string sName, .slice AArgs' xArgs.length cArgs'] 97))
  have BK0 := Lib.hid (blk_old (blk_new w (.cells #[.int .i64 iKind, .int .i64 iId, .string sName, .slice AArgs xArgs.length cArgs] 97)) (.cells #[.int .i64 iKind, .int .i64 iId, .string sName, .slice AArgs' xArgs.length cArgs'] 97))
  have BJ0 := Lib.hid (blk_new (w.alloc (.cells #[.int .i64 iKind, .int .i64 iId, .string sName, .slice AArgs xArgs.length cArgs] 97)) (.cells #[.int .i64 iKind, .int .i64 iId, .string sName, .slice AArgs' xArgs.length cArgs'] 97))
  have RDArgs := Lib.hid rdArgs
  have RDArgs' := Lib.hid rdArgs'
  have IHArgs := Lib.hid ihArgs
  clear h h' rdArgs rdArgs' ihArgs
  go_enter Try.func126, Try.ntmps126
  go_wp2_with fail
  refine (IHArgs.out _ _ _ (RDArgs.out.below HB0.out) (RDArgs'.out.below HB0.out)).mono ?_
  rintro e w1 ⟨rfl, hb⟩
  have HB1 := Lib.hid (HB0.out.trans (hb.mono HB0.out.size))
  have BK1 := Lib.hid (blk_below BK0.out hb)
  have BJ1 := Lib.hid (blk_below BJ0.out hb)
  clear hb
  have z1_0 := blk_cell BK1.out 0
  have z1_1 := blk_cell BK1.out 1
  have z1_2 := blk_cell BK1.out 2
  have z1_3 := blk_cell BK1.out 3
  have y1_0 := blk_cell BJ1.out 0
  have y1_1 := blk_cell BJ1.out 1
  have y1_2 := blk_cell BJ1.out 2
  have y1_3 := blk_cell BJ1.out 3
  simp at z1_0 z1_1 z1_2 z1_3 y1_0 y1_1 y1_2 y1_3
  go_wp2
  go_ret
  exact ⟨rfl, HB1.out⟩

set_option maxRecDepth 100000 in
theorem toType_of (iKind : Int) (iId : Int) (sName : ByteArray) (xArgs : List D) (ihArgs : ToO Try.prog 158 (D.slice 4 xArgs)) : ToA Try.prog 175 (.struct [.int .i64 iKind, .int .i64 iId, .str sName, .slice 4 xArgs]) := by
  intro w cs h
  obtain ⟨AArgs, cArgs, rfl, rdArgs⟩ := openType h
  have RDArgs := Lib.hid rdArgs
  have IHArgs := Lib.hid ihArgs
  clear h rdArgs ihArgs
  go_enter Try.func175, Try.ntmps175
  go_wp2_with fail
  have HB0 := Lib.hid ((((Below.refl w.heap.size w).alloc (Nat.le_refl _) (.cells #[.int .i64 iKind, .int .i64 iId, .string sName, .slice AArgs xArgs.length cArgs] 176)).alloc (by simp) (.cells #[.int .i64 0, .int .i64 0, .string ⟨#[]⟩, .slice none 0 0] 97)).alloc (by simp; omega) (.cells #[.int .i64 iKind, .int .i64 iId, .string sName, .slice none 0 0] 97))
  have HS0 := Lib.hid (show (((w.alloc (.cells #[.int .i64 iKind, .int .i64 iId, .string sName, .slice AArgs xArgs.length cArgs] 176)).alloc (.cells #[.int .i64 0, .int .i64 0, .string ⟨#[]⟩, .slice none 0 0] 97)).alloc (.cells #[.int .i64 iKind, .int .i64 iId, .string sName, .slice none 0 0] 97)).heap.size = w.heap.size + 3 by simp)
  have BA0 := Lib.hid (blk_old (blk_old (blk_new w (.cells #[.int .i64 iKind, .int .i64 iId, .string sName, .slice AArgs xArgs.length cArgs] 176)) (.cells #[.int .i64 0, .int .i64 0, .string ⟨#[]⟩, .slice none 0 0] 97)) (.cells #[.int .i64 iKind, .int .i64 iId, .string sName, .slice none 0 0] 97))
  have BR0 := Lib.hid (blk_old (blk_new (w.alloc (.cells #[.int .i64 iKind, .int .i64 iId, .string sName, .slice AArgs xArgs.length cArgs] 176)) (.cells #[.int .i64 0, .int .i64 0, .string ⟨#[]⟩, .slice none 0 0] 97)) (.cells #[.int .i64 iKind, .int .i64 iId, .string sName, .slice none 0 0] 97))
  have BO0 := Lib.hid (blk_new ((w.alloc (.cells #[.int .i64 iKind, .int .i64 iId, .string sName, .slice AArgs xArgs.length cArgs] 176)).alloc (.cells #[.int .i64 0, .int .i64 0, .string ⟨#[]⟩, .slice none 0 0] 97)) (.cells #[.int .i64 iKind, .int .i64 iId, .string sName, .slice none 0 0] 97))
  refine (IHArgs.out _ _ (RDArgs.out.below HB0.out)).mono ?_
  rintro e w1 ⟨vArgs, rfl, hfr, hb⟩
  obtain ⟨BArgs, dArgs, rfl, _, _, _⟩ := hfr.slice
  have hr := hfr.range
  have hsz := hb.size
  rw [HS0.out] at hr hsz
  have FRArgs := Lib.hid hr
  have SY1 := Lib.hid hsz
  have SZ1 := Lib.hid (show w.heap.size + 3 ≤ w1.heap.size by omega)
  have HB1 := Lib.hid (HB0.out.trans (hb.mono HB0.out.size))
  have BA1 := Lib.hid (blk_below BA0.out hb)
  have BR1 := Lib.hid (blk_below BR0.out hb)
  have BO1 := Lib.hid (blk_below BO0.out hb)
  clear hb hfr hr hsz
  have za1_0 := blk_cell BA1.out 0
  have za1_1 := blk_cell BA1.out 1
  have za1_2 := blk_cell BA1.out 2
  have za1_3 := blk_cell BA1.out 3
  have zo1_0 := blk_cell BO1.out 0
  have zo1_f0 := blk_frozen BO1.out 0
  have zo1_1 := blk_cell BO1.out 1
  have zo1_f1 := blk_frozen BO1.out 1
  have zo1_2 := blk_cell BO1.out 2
  have zo1_f2 := blk_frozen BO1.out 2
  have zo1_3 := blk_cell BO1.out 3
  have zo1_f3 := blk_frozen BO1.out 3
  have zr1_0 := blk_cell BR1.out 0
  have zr1_f0 := blk_frozen BR1.out 0
  have zr1_1 := blk_cell BR1.out 1
  have zr1_f1 := blk_frozen BR1.out 1
  have zr1_2 := blk_cell BR1.out 2
  have zr1_f2 := blk_frozen BR1.out 2
  have zr1_3 := blk_cell BR1.out 3
  have zr1_f3 := blk_frozen BR1.out 3
  simp at za1_0 za1_1 za1_2 za1_3 zo1_0 zo1_f0 zo1_1 zo1_f1 zo1_2 zo1_f2 zo1_3 zo1_f3 zr1_0 zr1_f0 zr1_1 zr1_f1 zr1_2 zr1_f2 zr1_3 zr1_f3
  have HB1 := Lib.hid (HB1.out.setCell (p := ⟨w.heap.size + 2, 3, none⟩) (by simp) (.slice BArgs xArgs.length dArgs))
  have BA1 := Lib.hid (blk_far BA1.out (p := ⟨w.heap.size + 2, 3, none⟩) (by simp) (.slice BArgs xArgs.length dArgs))
  have BR1 := Lib.hid (blk_far BR1.out (p := ⟨w.heap.size + 2, 3, none⟩) (by simp) (.slice BArgs xArgs.length dArgs))
  have BO1 := Lib.hid ((blk_set BO1.out 3 (.slice BArgs xArgs.length dArgs)).trans (show _ = some (Obj.cells #[.int .i64 iKind, .int .i64 iId, .string sName, .slice BArgs xArgs.length dArgs] 97 (0, 0)) from rfl))
  have FRArgs := Lib.hid (FRArgs.out.set (p := ⟨w.heap.size + 2, 3, none⟩) (by simp) (.slice BArgs xArgs.length dArgs))
  go_wp2
  have HB1 := Lib.hid ((((HB1.out.setCell (p := ⟨w.heap.size + 1, 0, none⟩) (by simp) (.int .i64 iKind)).setCell (p := ⟨w.heap.size + 1, 1, none⟩) (by simp) (.int .i64 iId)).setCell (p := ⟨w.heap.size + 1, 2, none⟩) (by simp) (.string sName)).setCell (p := ⟨w.heap.size + 1, 3, none⟩) (by simp) (.slice BArgs xArgs.length dArgs))
  have FRArgs := Lib.hid ((((FRArgs.out.set (p := ⟨w.heap.size + 1, 0, none⟩) (by simp) (.int .i64 iKind)).set (p := ⟨w.heap.size + 1, 1, none⟩) (by simp) (.int .i64 iId)).set (p := ⟨w.heap.size + 1, 2, none⟩) (by simp) (.string sName)).set (p := ⟨w.heap.size + 1, 3, none⟩) (by simp) (.slice BArgs xArgs.length dArgs))
  refine bodyPost_ret (v := .agg #[.int .i64 iKind, .int .i64 iId, .string sName, .slice BArgs xArgs.length dArgs]) (by simp [results, Try.results175, go_sem, zr1_0, zr1_1, zr1_2, zr1_3]) rfl ⟨[.int .i64 iKind, .int .i64 iId, .string sName, .slice BArgs xArgs.length dArgs], rfl, ?_, HB1.out⟩
  rw [fr_struct]
  have sy1 := SY1.out
  exact FrFR.fr (B := w.heap.size + 3) (frFR_int (frFR_int (frFR_str (frFR_cons (B2 := w1.heap.size) (C := w1.heap.size) FRArgs.out (frFR_nil w1.heap.size w1.heap.size _) (Nat.le_refl _) (by omega) (by omega))))) (by omega)

set_option maxRecDepth 100000 in
theorem szTypeS_of (xs : List D) (hn : xs.length ≤ 140737488351232) (ih : ∀ x ∈ xs, SzA Try.prog 173 x) : SzO Try.prog 154 (.slice 4 xs) := by
  intro w v left h h0 h1
  obtain ⟨A, c, rfl, _, _, hrow⟩ := rd_slice1 h
  have IH := Lib.hid ih
  have H := Lib.hid hrow
  have TOT := Lib.hid (show D.bulk (.slice 4 xs) = xs.length + D.bulks xs by simp only [D.bulk])
  clear ih h hrow
  go_enter Try.func154, Try.ntmps154
  go_wp2_with fail
  · go_ret
    exact ⟨ret_int (szR_neg' (by rw [TOT.out]; omega)).symm, Below.refl _ _⟩
  · go_loopw [5, 1] (fun i l wr => ∃ j : Nat, j ≤ xs.length ∧ i = .int .i64 j ∧ l = .int .i64 (left - xs.length - D.bulks (xs.take j)) ∧ 0 ≤ left - xs.length - D.bulks (xs.take j) ∧ Below w.heap.size w wr) (fun i _ _ => xs.length - (intOf i).toNat)
    case atStart => exact ⟨0, Nat.zero_le _, rfl, by simp [D.bulks], by simp [D.bulks]; omega, Below.refl _ _⟩
    case round =>
      obtain ⟨j, hj, rfl, rfl, hl, hb⟩ := hrel
      by_cases hlt : j < xs.length
      · obtain ⟨b, off, cs, rfl, hcl, hrd, hc⟩ := (RdRow.below H.out (by omega) hb).get (List.getElem?_eq_getElem hlt)
        obtain ⟨u0, u1, u2, u3, rfl⟩ := cells4 hcl
        have c0 : wr.cell? ⟨b, off + j * 4, none⟩ = some u0 := hc 0 _ rfl
        have c1 : wr.cell? ⟨b, off + j * 4 + 1, none⟩ = some u1 := hc 1 _ rfl
        have c2 : wr.cell? ⟨b, off + j * 4 + 2, none⟩ = some u2 := hc 2 _ rfl
        have c3 : wr.cell? ⟨b, off + j * 4 + 3, none⟩ = some u3 := hc 3 _ rfl
        have CAL := Lib.hid (IH.out _ (List.getElem_mem hlt) wr _ (left - xs.length - D.bulks (xs.take j)) hrd hl (by omega))
        have HB := Lib.hid hb
        have T := Lib.hid (D.bulks_take xs j hlt)
        have T2 := Lib.hid (D.bulks_take_le xs (j + 1))
        clear hrd hcl hc hb
        go_wp2_with fail
        refine CAL.out.mono ?_
        rintro e w1 ⟨rfl, hb1⟩
        have HB1 := Lib.hid (HB.out.trans (hb1.mono HB.out.size))
        clear hb1 CAL
        by_cases hz : left - xs.length - D.bulks (xs.take j) < xs[j].bulk
        · rw [szR_neg' hz]
          go_wp2
          go_ret
          exact ⟨ret_int (szR_neg' (by rw [TOT.out]; have h6 := T.out; have h7 := T2.out; omega)).symm, HB1.out⟩
        · rw [szR_fit (by omega)]
          go_wp2
          go_roundw
          case rel => exact ⟨j + 1, by omega, by go_num, by rw [T.out]; go_num, by rw [T.out]; omega, HB1.out⟩
          case measure => simp [intOf]; omega
      · obtain rfl : j = xs.length := by omega
        rw [List.take_length] at hl ⊢
        have HB := Lib.hid hb
        clear hb
        go_wp2
        go_ret
        exact ⟨ret_int ((szR_fit (by rw [TOT.out]; omega)).trans (by rw [TOT.out] <;> omega)).symm, HB.out⟩

set_option maxRecDepth 100000 in
theorem eqTypeS_of (xs : List D) (hn : xs.length ≤ 140737488351232) (ih : ∀ x ∈ xs, EqA Try.prog 126 x) : EqO Try.prog 92 (.slice 4 xs) := by
  intro w v v' h h'
  obtain ⟨A, c, rfl, _, _, hrow⟩ := rd_slice1 h
  obtain ⟨A', c', rfl, _, _, hrow'⟩ := rd_slice1 h'
  have IH := Lib.hid ih
  have H := Lib.hid hrow
  have H' := Lib.hid hrow'
  clear ih h h' hrow hrow'
  go_enter Try.func92, Try.ntmps92
  go_wp2_with fail
  go_loopw [5] (fun i wr => ∃ j : Nat, j ≤ xs.length ∧ i = .int .i64 j ∧ Below w.heap.size w wr) (fun i _ => xs.length - (intOf i).toNat)
  case atStart => exact ⟨0, Nat.zero_le _, rfl, Below.refl _ _⟩
  case round =>
    obtain ⟨j, hj, rfl, hb⟩ := hrel
    by_cases hlt : j < xs.length
    · obtain ⟨b, off, cs, rfl, hcl, hrd, hc⟩ := (RdRow.below H.out (by omega) hb).get (List.getElem?_eq_getElem hlt)
      obtain ⟨b', off', cs', rfl, hcl', hrd', hc'⟩ := (RdRow.below H'.out (by omega) hb).get (List.getElem?_eq_getElem hlt)
      obtain ⟨u0, u1, u2, u3, rfl⟩ := cells4 hcl
      obtain ⟨v0, v1, v2, v3, rfl⟩ := cells4 hcl'
      have c0 : wr.cell? ⟨b, off + j * 4, none⟩ = some u0 := hc 0 _ rfl
      have d0 : wr.cell? ⟨b', off' + j * 4, none⟩ = some v0 := hc' 0 _ rfl
      have c1 : wr.cell? ⟨b, off + j * 4 + 1, none⟩ = some u1 := hc 1 _ rfl
      have d1 : wr.cell? ⟨b', off' + j * 4 + 1, none⟩ = some v1 := hc' 1 _ rfl
      have c2 : wr.cell? ⟨b, off + j * 4 + 2, none⟩ = some u2 := hc 2 _ rfl
      have d2 : wr.cell? ⟨b', off' + j * 4 + 2, none⟩ = some v2 := hc' 2 _ rfl
      have c3 : wr.cell? ⟨b, off + j * 4 + 3, none⟩ = some u3 := hc 3 _ rfl
      have d3 : wr.cell? ⟨b', off' + j * 4 + 3, none⟩ = some v3 := hc' 3 _ rfl
      have CAL := Lib.hid (IH.out _ (List.getElem_mem hlt) wr.drew _ _ (hrd.below (Below.refl _ _).drew) (hrd'.below (Below.refl _ _).drew))
      have HB := Lib.hid hb
      clear hrd hcl hc hb hrd' hcl' hc' H H'
      go_wp2_with fail
      go_still_tail 8, (by kernel_rfl)
      go_wp2_with fail
      refine CAL.out.mono ?_
      rintro e w1 ⟨rfl, hb1⟩
      have HB1 := Lib.hid (HB.out.drew.trans (hb1.mono HB.out.size))
      clear hb1 CAL
      go_wp2
      go_roundw
      case rel => exact ⟨j + 1, by omega, by go_num, HB1.out⟩
      case measure => simp [intOf]; omega
    · obtain rfl : j = xs.length := by omega
      have HB := Lib.hid hb
      clear hb
      go_wp2
      go_ret
      exact ⟨rfl, HB.out⟩

theorem infoTypeS : (Try.prog.info? 97).map (fun i => (i.zero, i.size, i.bytes)) = some (some (.agg #[.int .i64 0, .int .i64 0, .string ⟨#[]⟩, .slice none 0 0]), 4, 56) := by kernel_rfl
theorem infoZTypeS : (Try.prog.info? 97).map (·.size) = some 4 := by kernel_rfl
theorem infoLTypeS : (Try.prog.info? 176).map (·.size) = some 4 := by kernel_rfl
set_option maxRecDepth 100000 in
theorem toTypeS_of (xs : List D) (hn : xs.length ≤ 1048576) (hsz : ∀ x ∈ xs, x.n = 4) (ih : ∀ x ∈ xs, ToA Try.prog 175 x) : ToO Try.prog 158 (.slice 4 xs) := by
  intro w v h
  obtain ⟨A, c, rfl, _, _, hrow⟩ := rd_slice1 h
  have IH := Lib.hid ih
  have H := Lib.hid hrow
  clear ih h hrow
  obtain ⟨i0, hi, hz0, hz1, hz2⟩ := info_parts infoTypeS
  have hmk := run_make (P := Try.prog) w 61 97 i0 _ Try.underlying61 hi hz0 .i64 .i64 (xs.length : Int) (xs.length : Int) (by omega) (by omega) (by rw [hz2]; omega) (by omega)
  rw [hz1, Int.toNat_natCast] at hmk
  clear hi hz0 hz1 hz2
  go_enter Try.func158, Try.ntmps158
  go_wp2_with fail
  go_loopw [4] (fun i wr => ∃ j : Nat, j ≤ xs.length ∧ i = .int .i64 j ∧ Below w.heap.size w wr ∧ Fill w.heap.size wr w.heap.size 97 4 xs.length (xs.take j)) (fun i _ => xs.length - (intOf i).toNat)
  case atStart => exact ⟨0, Nat.zero_le _, rfl, (Below.refl _ _).alloc (Nat.le_refl _) _, by rw [List.take_zero]; exact Fill.start (Nat.le_refl _) (by simp [size_madeCells])⟩
  case round =>
    obtain ⟨j, hj, rfl, hb, hf⟩ := hrel
    clear hmk
    by_cases hlt : j < xs.length
    · have hk : (xs.take j).length = j := by rw [List.length_take]; omega
      obtain ⟨b, off, cs, rfl, hcl, hrd, hc⟩ := (RdRow.below H.out (by omega) hb).get (List.getElem?_eq_getElem hlt)
      have CAL := Lib.hid (IH.out _ (List.getElem_mem hlt) wr _ hrd)
      have HB := Lib.hid hb
      have HF := Lib.hid hf
      have HC := Lib.hid hc
      clear hrd hc hb hf H
      go_wp2_with (refine wpList_load_mid rfl 176 (.tmp 18) rfl b (off + j * 4) rfl cs _ HC.out Try.underlying176 rfl (by rw [hcl]; exact infoLTypeS) ?_)
      refine CAL.out.mono ?_
      rintro e w1 ⟨cs', rfl, hfr, hb1⟩
      have hl : cs'.length = 4 := hfr.len.trans (hsz _ (List.getElem_mem hlt))
      have HL := Lib.hid hl
      have TH := Lib.hid ((HF.out.below hb1).there hlt)
      have HF1 := Lib.hid (HF.out.store hb1 hfr hl (by rw [hk]; exact hlt))
      rw [hk] at HF1
      have HONE := Lib.hid hfr.all
      have HB1 := Lib.hid (below_setCells (Nat.le_refl w.heap.size) cs' (j * 4) (HB.out.trans (hb1.mono HB.out.size)))
      clear hb1 hfr hl hk CAL
      go_wp2_with (refine wpList_store_mid rfl 97 (.tmp 21) (.tmp 20) rfl w.heap.size (j * 4) cs'.toArray rfl rfl (by simpa [HL.out] using TH.out) (by simpa [HL.out] using infoZTypeS) HONE.out ?_)
      go_roundw
      case rel =>
        refine ⟨j + 1, by omega, by go_num, HB1.out, ?_⟩
        rw [List.take_succ_eq_append_getElem hlt]
        exact HF1.out
      case measure => simp [intOf]; omega
    · obtain rfl : j = xs.length := by omega
      rw [List.take_length] at hf
      have HB := Lib.hid hb
      have HF := Lib.hid (hf.done rfl (by simp only [maxLen]; omega))
      clear hb hf H
      go_wp2
      go_ret
      exact ⟨_, rfl, HF.out, HB.out⟩

end Go.Proofs.Ytifmnijdaboenaa
