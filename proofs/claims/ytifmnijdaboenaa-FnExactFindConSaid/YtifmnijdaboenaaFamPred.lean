/- What the laws' own helpers do with Pred,[]Pred; no condition. -/
import Derived.Test.YtifmnijdaboenaaHs
import Derived.Test.YtifmnijdaboenaaProg
namespace Go.Proofs.Ytifmnijdaboenaa
open Go.RowKit
set_option linter.unusedVariables false
set_option linter.unusedSimpArgs false

theorem openPred {sClass : ByteArray} {iId : Int} {w : World} {cs : List Value} (h : Rd w (.struct [.str sClass, .int .i64 iId]) cs) : cs = [.string sClass, .int .i64 iId] := by
  rw [rd_struct] at h
  simp only [rdF_cons, rdF_nil, rd_int, rd_bool, rd_str] at h
  obtain ⟨e0, r0, rfl, rfl, e1, r1, rfl, rfl, rfl⟩ := h
  simp

set_option maxRecDepth 100000 in
theorem szPred_of (sClass : ByteArray) (iId : Int) (hsClass : sClass.size ≤ 140737488351232) : SzA Try.prog 174 (.struct [.str sClass, .int .i64 iId]) := by
  intro w cs left h h0 h1
  obtain rfl := openPred h
  have TOT := Lib.hid (show D.bulk (.struct [.str sClass, .int .i64 iId]) = sClass.size by simp only [D.bulk, D.bulks] <;> omega)
  have HB0 := Lib.hid ((Below.refl w.heap.size w).alloc (Nat.le_refl _) (.cells #[.string sClass, .int .i64 iId] 257))
  have BK0 := Lib.hid (blk_new w (.cells #[.string sClass, .int .i64 iId] 257))
  clear h
  go_enter Try.func174, Try.ntmps174
  go_wp2_with fail
  · go_ret
    exact ⟨ret_int (szR_neg' (by rw [TOT.out]; omega)).symm, HB0.out⟩
  · skip
    go_ret
    exact ⟨ret_int ((szR_fit (by rw [TOT.out]; omega)).trans (by rw [TOT.out] <;> omega)).symm, HB0.out⟩

set_option maxRecDepth 100000 in
theorem eqPred_of (sClass : ByteArray) (iId : Int) : EqA Try.prog 125 (.struct [.str sClass, .int .i64 iId]) := by
  intro w cs cs' h h'
  obtain rfl := openPred h
  obtain rfl := openPred h'
  have HB0 := Lib.hid (((Below.refl w.heap.size w).alloc (Nat.le_refl _) (.cells #[.string sClass, .int .i64 iId] 193)).alloc (by simp) (.cells #[.string sClass, .int .i64 iId] 193))
  have BK0 := Lib.hid (blk_old (blk_new w (.cells #[.string sClass, .int .i64 iId] 193)) (.cells #[.string sClass, .int .i64 iId] 193))
  have BJ0 := Lib.hid (blk_new (w.alloc (.cells #[.string sClass, .int .i64 iId] 193)) (.cells #[.string sClass, .int .i64 iId] 193))
  clear h h'
  go_enter Try.func125, Try.ntmps125
  go_wp2
  go_ret
  exact ⟨rfl, HB0.out⟩

set_option maxRecDepth 100000 in
theorem toPred_of (sClass : ByteArray) (iId : Int) : ToA Try.prog 176 (.struct [.str sClass, .int .i64 iId]) := by
  intro w cs h
  obtain rfl := openPred h
  clear h
  go_enter Try.func176, Try.ntmps176
  go_wp2
  refine bodyPost_ret (v := .agg #[.string sClass, .int .i64 iId]) (by simp [results, Try.results176, go_sem]) rfl ⟨[.string sClass, .int .i64 iId], rfl, ?_, ?_⟩
  · rw [fr_struct]
    exact frF_str (frF_int (frF_nil _ _))
  · repeat (first | exact Below.refl _ _ | refine Below.setCell ?_ (by first | (simp; done) | (simp; omega)) _ | refine Below.alloc ?_ (by first | (simp; done) | (simp; omega)) _)

set_option maxRecDepth 100000 in
theorem szPredS_of (xs : List D) (hn : xs.length ≤ 140737488351232) (ih : ∀ x ∈ xs, SzA Try.prog 174 x) : SzO Try.prog 157 (.slice 2 xs) := by
  intro w v left h h0 h1
  obtain ⟨A, c, rfl, _, _, hrow⟩ := rd_slice1 h
  have IH := Lib.hid ih
  have H := Lib.hid hrow
  have TOT := Lib.hid (show D.bulk (.slice 2 xs) = xs.length + D.bulks xs by simp only [D.bulk])
  clear ih h hrow
  go_enter Try.func157, Try.ntmps157
  go_wp2_with fail
  · go_ret
    exact ⟨ret_int (szR_neg' (by rw [TOT.out]; omega)).symm, Below.refl _ _⟩
  · go_loopw [5, 1] (fun i l wr => ∃ j : Nat, j ≤ xs.length ∧ i = .int .i64 j ∧ l = .int .i64 (left - xs.length - D.bulks (xs.take j)) ∧ 0 ≤ left - xs.length - D.bulks (xs.take j) ∧ Below w.heap.size w wr) (fun i _ _ => xs.length - (intOf i).toNat)
    case atStart => exact ⟨0, Nat.zero_le _, rfl, by simp [D.bulks], by simp [D.bulks]; omega, Below.refl _ _⟩
    case round =>
      obtain ⟨j, hj, rfl, rfl, hl, hb⟩ := hrel
      by_cases hlt : j < xs.length
      · obtain ⟨b, off, cs, rfl, hcl, hrd, hc⟩ := (RdRow.below H.out (by omega) hb).get (List.getElem?_eq_getElem hlt)
        obtain ⟨u0, u1, rfl⟩ := cells2 hcl
        have c0 : wr.cell? ⟨b, off + j * 2, none⟩ = some u0 := hc 0 _ rfl
        have c1 : wr.cell? ⟨b, off + j * 2 + 1, none⟩ = some u1 := hc 1 _ rfl
        have CAL := Lib.hid (IH.out _ (List.getElem_mem hlt) wr _ (left - xs.length - D.bulks (xs.take j)) hrd hl (by omega))
        have HB := Lib.hid hb
        have T := Lib.hid (D.bulks_take xs j hlt)
        have T2 := Lib.hid (D.bulks_take_le xs (j + 1))
        clear hrd hcl hc hb
        go_wp2_with fail
        refine CAL.out.mono ?_
        rintro e w1 ⟨rfl, hb1⟩
        have HB1 := Lib.hid (HB.out.trans (hb1.mono HB.out.size))
        clear hb1 CAL
        by_cases hz : left - xs.length - D.bulks (xs.take j) < xs[j].bulk
        · rw [szR_neg' hz]
          go_wp2
          go_ret
          exact ⟨ret_int (szR_neg' (by rw [TOT.out]; have h6 := T.out; have h7 := T2.out; omega)).symm, HB1.out⟩
        · rw [szR_fit (by omega)]
          go_wp2
          go_roundw
          case rel => exact ⟨j + 1, by omega, by go_num, by rw [T.out]; go_num, by rw [T.out]; omega, HB1.out⟩
          case measure => simp [intOf]; omega
      · obtain rfl : j = xs.length := by omega
        rw [List.take_length] at hl ⊢
        have HB := Lib.hid hb
        clear hb
        go_wp2
        go_ret
        exact ⟨ret_int ((szR_fit (by rw [TOT.out]; omega)).trans (by rw [TOT.out] <;> omega)).symm, HB.out⟩

set_option maxRecDepth 100000 in
theorem eqPredS_of (xs : List D) (hn : xs.length ≤ 140737488351232) (ih : ∀ x ∈ xs, EqA Try.prog 125 x) : EqO Try.prog 87 (.slice 2 xs) := by
  intro w v v' h h'
  obtain ⟨A, c, rfl, _, _, hrow⟩ := rd_slice1 h
  obtain ⟨A', c', rfl, _, _, hrow'⟩ := rd_slice1 h'
  have IH := Lib.hid ih
  have H := Lib.hid hrow
  have H' := Lib.hid hrow'
  clear ih h h' hrow hrow'
  go_enter Try.func87, Try.ntmps87
  go_wp2_with fail
  go_loopw [5] (fun i wr => ∃ j : Nat, j ≤ xs.length ∧ i = .int .i64 j ∧ Below w.heap.size w wr) (fun i _ => xs.length - (intOf i).toNat)
  case atStart => exact ⟨0, Nat.zero_le _, rfl, Below.refl _ _⟩
  case round =>
    obtain ⟨j, hj, rfl, hb⟩ := hrel
    by_cases hlt : j < xs.length
    · obtain ⟨b, off, cs, rfl, hcl, hrd, hc⟩ := (RdRow.below H.out (by omega) hb).get (List.getElem?_eq_getElem hlt)
      obtain ⟨b', off', cs', rfl, hcl', hrd', hc'⟩ := (RdRow.below H'.out (by omega) hb).get (List.getElem?_eq_getElem hlt)
      obtain ⟨u0, u1, rfl⟩ := cells2 hcl
      obtain ⟨v0, v1, rfl⟩ := cells2 hcl'
      have c0 : wr.cell? ⟨b, off + j * 2, none⟩ = some u0 := hc 0 _ rfl
      have d0 : wr.cell? ⟨b', off' + j * 2, none⟩ = some v0 := hc' 0 _ rfl
      have c1 : wr.cell? ⟨b, off + j * 2 + 1, none⟩ = some u1 := hc 1 _ rfl
      have d1 : wr.cell? ⟨b', off' + j * 2 + 1, none⟩ = some v1 := hc' 1 _ rfl
      have CAL := Lib.hid (IH.out _ (List.getElem_mem hlt) wr.drew _ _ (hrd.below (Below.refl _ _).drew) (hrd'.below (Below.refl _ _).drew))
      have HB := Lib.hid hb
      clear hrd hcl hc hb hrd' hcl' hc' H H'
      go_wp2_with fail
      go_still_tail 8, (by kernel_rfl)
      go_wp2_with fail
      refine CAL.out.mono ?_
      rintro e w1 ⟨rfl, hb1⟩
      have HB1 := Lib.hid (HB.out.drew.trans (hb1.mono HB.out.size))
      clear hb1 CAL
      go_wp2
      go_roundw
      case rel => exact ⟨j + 1, by omega, by go_num, HB1.out⟩
      case measure => simp [intOf]; omega
    · obtain rfl : j = xs.length := by omega
      have HB := Lib.hid hb
      clear hb
      go_wp2
      go_ret
      exact ⟨rfl, HB.out⟩

theorem infoPredS : (Try.prog.info? 193).map (fun i => (i.zero, i.size, i.bytes)) = some (some (.agg #[.string ⟨#[]⟩, .int .i64 0]), 2, 24) := by kernel_rfl
theorem infoZPredS : (Try.prog.info? 193).map (·.size) = some 2 := by kernel_rfl
theorem infoLPredS : (Try.prog.info? 257).map (·.size) = some 2 := by kernel_rfl
set_option maxRecDepth 100000 in
theorem toPredS_of (xs : List D) (hn : xs.length ≤ 1048576) (hsz : ∀ x ∈ xs, x.n = 2) (ih : ∀ x ∈ xs, ToA Try.prog 176 x) : ToO Try.prog 161 (.slice 2 xs) := by
  intro w v h
  obtain ⟨A, c, rfl, _, _, hrow⟩ := rd_slice1 h
  have IH := Lib.hid ih
  have H := Lib.hid hrow
  clear ih h hrow
  obtain ⟨i0, hi, hz0, hz1, hz2⟩ := info_parts infoPredS
  have hmk := run_make (P := Try.prog) w 53 193 i0 _ Try.underlying53 hi hz0 .i64 .i64 (xs.length : Int) (xs.length : Int) (by omega) (by omega) (by rw [hz2]; omega) (by omega)
  rw [hz1, Int.toNat_natCast] at hmk
  clear hi hz0 hz1 hz2
  go_enter Try.func161, Try.ntmps161
  go_wp2_with fail
  go_loopw [4] (fun i wr => ∃ j : Nat, j ≤ xs.length ∧ i = .int .i64 j ∧ Below w.heap.size w wr ∧ Fill w.heap.size wr w.heap.size 193 2 xs.length (xs.take j)) (fun i _ => xs.length - (intOf i).toNat)
  case atStart => exact ⟨0, Nat.zero_le _, rfl, (Below.refl _ _).alloc (Nat.le_refl _) _, by rw [List.take_zero]; exact Fill.start (Nat.le_refl _) (by simp [size_madeCells])⟩
  case round =>
    obtain ⟨j, hj, rfl, hb, hf⟩ := hrel
    clear hmk
    by_cases hlt : j < xs.length
    · have hk : (xs.take j).length = j := by rw [List.length_take]; omega
      obtain ⟨b, off, cs, rfl, hcl, hrd, hc⟩ := (RdRow.below H.out (by omega) hb).get (List.getElem?_eq_getElem hlt)
      have CAL := Lib.hid (IH.out _ (List.getElem_mem hlt) wr _ hrd)
      have HB := Lib.hid hb
      have HF := Lib.hid hf
      have HC := Lib.hid hc
      clear hrd hc hb hf H
      go_wp2_with (refine wpList_load_mid rfl 257 (.tmp 18) rfl b (off + j * 2) rfl cs _ HC.out Try.underlying257 rfl (by rw [hcl]; exact infoLPredS) ?_)
      refine CAL.out.mono ?_
      rintro e w1 ⟨cs', rfl, hfr, hb1⟩
      have hl : cs'.length = 2 := hfr.len.trans (hsz _ (List.getElem_mem hlt))
      have HL := Lib.hid hl
      have TH := Lib.hid ((HF.out.below hb1).there hlt)
      have HF1 := Lib.hid (HF.out.store hb1 hfr hl (by rw [hk]; exact hlt))
      rw [hk] at HF1
      have HONE := Lib.hid hfr.all
      have HB1 := Lib.hid (below_setCells (Nat.le_refl w.heap.size) cs' (j * 2) (HB.out.trans (hb1.mono HB.out.size)))
      clear hb1 hfr hl hk CAL
      go_wp2_with (refine wpList_store_mid rfl 193 (.tmp 21) (.tmp 20) rfl w.heap.size (j * 2) cs'.toArray rfl rfl (by simpa [HL.out] using TH.out) (by simpa [HL.out] using infoZPredS) HONE.out ?_)
      go_roundw
      case rel =>
        refine ⟨j + 1, by omega, by go_num, HB1.out, ?_⟩
        rw [List.take_succ_eq_append_getElem hlt]
        exact HF1.out
      case measure => simp [intOf]; omega
    · obtain rfl : j = xs.length := by omega
      rw [List.take_length] at hf
      have HB := Lib.hid hb
      have HF := Lib.hid (hf.done rfl (by simp only [maxLen]; omega))
      clear hb hf H
      go_wp2
      go_ret
      exact ⟨_, rfl, HF.out, HB.out⟩

end Go.Proofs.Ytifmnijdaboenaa
