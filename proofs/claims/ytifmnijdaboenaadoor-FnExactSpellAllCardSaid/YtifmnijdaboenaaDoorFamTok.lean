/- What the laws' own helpers do with Token,[]Token; no condition. -/
import Derived.Test.YtifmnijdaboenaaDoorHs
import Derived.Test.YtifmnijdaboenaaDoorProg
namespace Go.Proofs.YtifmnijdaboenaaDoor
open Go.RowKit
set_option linter.unusedVariables false
set_option linter.unusedSimpArgs false

theorem openToken {iKind : Int} {sText : ByteArray} {iLine : Int} {iCol : Int} {w : World} {cs : List Value} (h : Rd w (.struct [.int .i64 iKind, .str sText, .int .i64 iLine, .int .i64 iCol]) cs) : cs = [.int .i64 iKind, .string sText, .int .i64 iLine, .int .i64 iCol] := by
  rw [rd_struct] at h
  simp only [rdF_cons, rdF_nil, rd_int, rd_bool, rd_str] at h
  obtain ⟨e0, r0, rfl, rfl, e1, r1, rfl, rfl, e2, r2, rfl, rfl, e3, r3, rfl, rfl, rfl⟩ := h
  simp

set_option maxRecDepth 100000 in
theorem szToken_of (iKind : Int) (sText : ByteArray) (iLine : Int) (iCol : Int) (hsText : sText.size ≤ 140737488351232) : SzA Tryd.prog 12 (.struct [.int .i64 iKind, .str sText, .int .i64 iLine, .int .i64 iCol]) := by
  intro w cs left h h0 h1
  obtain rfl := openToken h
  have TOT := Lib.hid (show D.bulk (.struct [.int .i64 iKind, .str sText, .int .i64 iLine, .int .i64 iCol]) = sText.size by simp only [D.bulk, D.bulks] <;> omega)
  have HB0 := Lib.hid ((Below.refl w.heap.size w).alloc (Nat.le_refl _) (.cells #[.int .i64 iKind, .string sText, .int .i64 iLine, .int .i64 iCol] 30))
  have BK0 := Lib.hid (blk_new w (.cells #[.int .i64 iKind, .string sText, .int .i64 iLine, .int .i64 iCol] 30))
  clear h
  go_enter Tryd.func12, Tryd.ntmps12
  go_wp2_with fail
  · go_ret
    exact ⟨ret_int (szR_neg' (by rw [TOT.out]; omega)).symm, HB0.out⟩
  · skip
    go_ret
    exact ⟨ret_int ((szR_fit (by rw [TOT.out]; omega)).trans (by rw [TOT.out] <;> omega)).symm, HB0.out⟩

set_option maxRecDepth 100000 in
theorem eqToken_of (iKind : Int) (sText : ByteArray) (iLine : Int) (iCol : Int) : EqA Tryd.prog 33 (.struct [.int .i64 iKind, .str sText, .int .i64 iLine, .int .i64 iCol]) := by
  intro w cs cs' h h'
  obtain rfl := openToken h
  obtain rfl := openToken h'
  have HB0 := Lib.hid (((Below.refl w.heap.size w).alloc (Nat.le_refl _) (.cells #[.int .i64 iKind, .string sText, .int .i64 iLine, .int .i64 iCol] 33)).alloc (by simp) (.cells #[.int .i64 iKind, .string sText, .int .i64 iLine, .int .i64 iCol] 33))
  have BK0 := Lib.hid (blk_old (blk_new w (.cells #[.int .i64 iKind, .string sText, .int .i64 iLine, .int .i64 iCol] 33)) (.cells #[.int .i64 iKind, .string sText, .int .i64 iLine, .int .i64 iCol] 33))
  have BJ0 := Lib.hid (blk_new (w.alloc (.cells #[.int .i64 iKind, .string sText, .int .i64 iLine, .int .i64 iCol] 33)) (.cells #[.int .i64 iKind, .string sText, .int .i64 iLine, .int .i64 iCol] 33))
  clear h h'
  go_enter Tryd.func33, Tryd.ntmps33
  go_wp2
  go_ret
  exact ⟨rfl, HB0.out⟩

set_option maxRecDepth 100000 in
theorem toToken_of (iKind : Int) (sText : ByteArray) (iLine : Int) (iCol : Int) : ToA Tryd.prog 14 (.struct [.int .i64 iKind, .str sText, .int .i64 iLine, .int .i64 iCol]) := by
  intro w cs h
  obtain rfl := openToken h
  clear h
  go_enter Tryd.func14, Tryd.ntmps14
  go_wp2
  refine bodyPost_ret (v := .agg #[.int .i64 iKind, .string sText, .int .i64 iLine, .int .i64 iCol]) (by simp [results, Tryd.results14, go_sem]) rfl ⟨[.int .i64 iKind, .string sText, .int .i64 iLine, .int .i64 iCol], rfl, ?_, ?_⟩
  · rw [fr_struct]
    exact frF_int (frF_str (frF_int (frF_int (frF_nil _ _))))
  · repeat (first | exact Below.refl _ _ | refine Below.setCell ?_ (by first | (simp; done) | (simp; omega)) _ | refine Below.alloc ?_ (by first | (simp; done) | (simp; omega)) _)

set_option maxRecDepth 100000 in
theorem szTokenS_of (xs : List D) (hn : xs.length ≤ 140737488351232) (ih : ∀ x ∈ xs, SzA Tryd.prog 12 x) : SzO Tryd.prog 18 (.slice 4 xs) := by
  intro w v left h h0 h1
  obtain ⟨A, c, rfl, _, _, hrow⟩ := rd_slice1 h
  have IH := Lib.hid ih
  have H := Lib.hid hrow
  have TOT := Lib.hid (show D.bulk (.slice 4 xs) = xs.length + D.bulks xs by simp only [D.bulk])
  clear ih h hrow
  go_enter Tryd.func18, Tryd.ntmps18
  go_wp2_with fail
  · go_ret
    exact ⟨ret_int (szR_neg' (by rw [TOT.out]; omega)).symm, Below.refl _ _⟩
  · go_loopw [5, 1] (fun i l wr => ∃ j : Nat, j ≤ xs.length ∧ i = .int .i64 j ∧ l = .int .i64 (left - xs.length - D.bulks (xs.take j)) ∧ 0 ≤ left - xs.length - D.bulks (xs.take j) ∧ Below w.heap.size w wr) (fun i _ _ => xs.length - (intOf i).toNat)
    case atStart => exact ⟨0, Nat.zero_le _, rfl, by simp [D.bulks], by simp [D.bulks]; omega, Below.refl _ _⟩
    case round =>
      obtain ⟨j, hj, rfl, rfl, hl, hb⟩ := hrel
      by_cases hlt : j < xs.length
      · obtain ⟨b, off, cs, rfl, hcl, hrd, hc⟩ := (RdRow.below H.out (by omega) hb).get (List.getElem?_eq_getElem hlt)
        obtain ⟨u0, u1, u2, u3, rfl⟩ := cells4 hcl
        have c0 : wr.cell? ⟨b, off + j * 4, none⟩ = some u0 := hc 0 _ rfl
        have c1 : wr.cell? ⟨b, off + j * 4 + 1, none⟩ = some u1 := hc 1 _ rfl
        have c2 : wr.cell? ⟨b, off + j * 4 + 2, none⟩ = some u2 := hc 2 _ rfl
        have c3 : wr.cell? ⟨b, off + j * 4 + 3, none⟩ = some u3 := hc 3 _ rfl
        have CAL := Lib.hid (IH.out _ (List.getElem_mem hlt) wr _ (left - xs.length - D.bulks (xs.take j)) hrd hl (by omega))
        have HB := Lib.hid hb
        have T := Lib.hid (D.bulks_take xs j hlt)
        have T2 := Lib.hid (D.bulks_take_le xs (j + 1))
        clear hrd hcl hc hb
        go_wp2_with fail
        refine CAL.out.mono ?_
        rintro e w1 ⟨rfl, hb1⟩
        have HB1 := Lib.hid (HB.out.trans (hb1.mono HB.out.size))
        clear hb1 CAL
        by_cases hz : left - xs.length - D.bulks (xs.take j) < xs[j].bulk
        · rw [szR_neg' hz]
          go_wp2
          go_ret
          exact ⟨ret_int (szR_neg' (by rw [TOT.out]; have h6 := T.out; have h7 := T2.out; omega)).symm, HB1.out⟩
        · rw [szR_fit (by omega)]
          go_wp2
          go_roundw
          case rel => exact ⟨j + 1, by omega, by go_num, by rw [T.out]; go_num, by rw [T.out]; omega, HB1.out⟩
          case measure => simp [intOf]; omega
      · obtain rfl : j = xs.length := by omega
        rw [List.take_length] at hl ⊢
        have HB := Lib.hid hb
        clear hb
        go_wp2
        go_ret
        exact ⟨ret_int ((szR_fit (by rw [TOT.out]; omega)).trans (by rw [TOT.out] <;> omega)).symm, HB.out⟩

set_option maxRecDepth 100000 in
theorem eqTokenS_of (xs : List D) (hn : xs.length ≤ 140737488351232) (ih : ∀ x ∈ xs, EqA Tryd.prog 33 x) : EqO Tryd.prog 22 (.slice 4 xs) := by
  intro w v v' h h'
  obtain ⟨A, c, rfl, _, _, hrow⟩ := rd_slice1 h
  obtain ⟨A', c', rfl, _, _, hrow'⟩ := rd_slice1 h'
  have IH := Lib.hid ih
  have H := Lib.hid hrow
  have H' := Lib.hid hrow'
  clear ih h h' hrow hrow'
  go_enter Tryd.func22, Tryd.ntmps22
  go_wp2_with fail
  go_loopw [5] (fun i wr => ∃ j : Nat, j ≤ xs.length ∧ i = .int .i64 j ∧ Below w.heap.size w wr) (fun i _ => xs.length - (intOf i).toNat)
  case atStart => exact ⟨0, Nat.zero_le _, rfl, Below.refl _ _⟩
  case round =>
    obtain ⟨j, hj, rfl, hb⟩ := hrel
    by_cases hlt : j < xs.length
    · obtain ⟨b, off, cs, rfl, hcl, hrd, hc⟩ := (RdRow.below H.out (by omega) hb).get (List.getElem?_eq_getElem hlt)
      obtain ⟨b', off', cs', rfl, hcl', hrd', hc'⟩ := (RdRow.below H'.out (by omega) hb).get (List.getElem?_eq_getElem hlt)
      obtain ⟨u0, u1, u2, u3, rfl⟩ := cells4 hcl
      obtain ⟨v0, v1, v2, v3, rfl⟩ := cells4 hcl'
      have c0 : wr.cell? ⟨b, off + j * 4, none⟩ = some u0 := hc 0 _ rfl
      have d0 : wr.cell? ⟨b', off' + j * 4, none⟩ = some v0 := hc' 0 _ rfl
      have c1 : wr.cell? ⟨b, off + j * 4 + 1, none⟩ = some u1 := hc 1 _ rfl
      have d1 : wr.cell? ⟨b', off' + j * 4 + 1, none⟩ = some v1 := hc' 1 _ rfl
      have c2 : wr.cell? ⟨b, off + j * 4 + 2, none⟩ = some u2 := hc 2 _ rfl
      have d2 : wr.cell? ⟨b', off' + j * 4 + 2, none⟩ = some v2 := hc' 2 _ rfl
      have c3 : wr.cell? ⟨b, off + j * 4 + 3, none⟩ = some u3 := hc 3 _ rfl
      have d3 : wr.cell? ⟨b', off' + j * 4 + 3, none⟩ = some v3 := hc' 3 _ rfl
      have CAL := Lib.hid (IH.out _ (List.getElem_mem hlt) wr.drew _ _ (hrd.below (Below.refl _ _).drew) (hrd'.below (Below.refl _ _).drew))
      have HB := Lib.hid hb
      clear hrd hcl hc hb hrd' hcl' hc' H H'
      go_wp2_with fail
      go_still_tail 8, (by kernel_rfl)
      go_wp2_with fail
      refine CAL.out.mono ?_
      rintro e w1 ⟨rfl, hb1⟩
      have HB1 := Lib.hid (HB.out.drew.trans (hb1.mono HB.out.size))
      clear hb1 CAL
      go_wp2
      go_roundw
      case rel => exact ⟨j + 1, by omega, by go_num, HB1.out⟩
      case measure => simp [intOf]; omega
    · obtain rfl : j = xs.length := by omega
      have HB := Lib.hid hb
      clear hb
      go_wp2
      go_ret
      exact ⟨rfl, HB.out⟩

theorem infoTokenS : (Tryd.prog.info? 33).map (fun i => (i.zero, i.size, i.bytes)) = some (some (.agg #[.int .i64 0, .string ⟨#[]⟩, .int .i64 0, .int .i64 0]), 4, 40) := by kernel_rfl
theorem infoZTokenS : (Tryd.prog.info? 33).map (·.size) = some 4 := by kernel_rfl
theorem infoLTokenS : (Tryd.prog.info? 30).map (·.size) = some 4 := by kernel_rfl
set_option maxRecDepth 100000 in
theorem toTokenS_of (xs : List D) (hn : xs.length ≤ 1048576) (hsz : ∀ x ∈ xs, x.n = 4) (ih : ∀ x ∈ xs, ToA Tryd.prog 14 x) : ToO Tryd.prog 20 (.slice 4 xs) := by
  intro w v h
  obtain ⟨A, c, rfl, _, _, hrow⟩ := rd_slice1 h
  have IH := Lib.hid ih
  have H := Lib.hid hrow
  clear ih h hrow
  obtain ⟨i0, hi, hz0, hz1, hz2⟩ := info_parts infoTokenS
  have hmk := run_make (P := Tryd.prog) w 22 33 i0 _ Tryd.underlying22 hi hz0 .i64 .i64 (xs.length : Int) (xs.length : Int) (by omega) (by omega) (by rw [hz2]; omega) (by omega)
  rw [hz1, Int.toNat_natCast] at hmk
  clear hi hz0 hz1 hz2
  go_enter Tryd.func20, Tryd.ntmps20
  go_wp2_with fail
  go_loopw [4] (fun i wr => ∃ j : Nat, j ≤ xs.length ∧ i = .int .i64 j ∧ Below w.heap.size w wr ∧ Fill w.heap.size wr w.heap.size 33 4 xs.length (xs.take j)) (fun i _ => xs.length - (intOf i).toNat)
  case atStart => exact ⟨0, Nat.zero_le _, rfl, (Below.refl _ _).alloc (Nat.le_refl _) _, by rw [List.take_zero]; exact Fill.start (Nat.le_refl _) (by simp [size_madeCells])⟩
  case round =>
    obtain ⟨j, hj, rfl, hb, hf⟩ := hrel
    clear hmk
    by_cases hlt : j < xs.length
    · have hk : (xs.take j).length = j := by rw [List.length_take]; omega
      obtain ⟨b, off, cs, rfl, hcl, hrd, hc⟩ := (RdRow.below H.out (by omega) hb).get (List.getElem?_eq_getElem hlt)
      have CAL := Lib.hid (IH.out _ (List.getElem_mem hlt) wr _ hrd)
      have HB := Lib.hid hb
      have HF := Lib.hid hf
      have HC := Lib.hid hc
      clear hrd hc hb hf H
      go_wp2_with (refine wpList_load_mid rfl 30 (.tmp 18) rfl b (off + j * 4) rfl cs _ HC.out Tryd.underlying30 rfl (by rw [hcl]; exact infoLTokenS) ?_)
      refine CAL.out.mono ?_
      rintro e w1 ⟨cs', rfl, hfr, hb1⟩
      have hl : cs'.length = 4 := hfr.len.trans (hsz _ (List.getElem_mem hlt))
      have HL := Lib.hid hl
      have TH := Lib.hid ((HF.out.below hb1).there hlt)
      have HF1 := Lib.hid (HF.out.store hb1 hfr hl (by rw [hk]; exact hlt))
      rw [hk] at HF1
      have HONE := Lib.hid hfr.all
      have HB1 := Lib.hid (below_setCells (Nat.le_refl w.heap.size) cs' (j * 4) (HB.out.trans (hb1.mono HB.out.size)))
      clear hb1 hfr hl hk CAL
      go_wp2_with (refine wpList_store_mid rfl 33 (.tmp 21) (.tmp 20) rfl w.heap.size (j * 4) cs'.toArray rfl rfl (by simpa [HL.out] using TH.out) (by simpa [HL.out] using infoZTokenS) HONE.out ?_)
      go_roundw
      case rel =>
        refine ⟨j + 1, by omega, by go_num, HB1.out, ?_⟩
        rw [List.take_succ_eq_append_getElem hlt]
        exact HF1.out
      case measure => simp [intOf]; omega
    · obtain rfl : j = xs.length := by omega
      rw [List.take_length] at hf
      have HB := Lib.hid hb
      have HF := Lib.hid (hf.done rfl (by simp only [maxLen]; omega))
      clear hb hf H
      go_wp2
      go_ret
      exact ⟨_, rfl, HF.out, HB.out⟩

end Go.Proofs.YtifmnijdaboenaaDoor
