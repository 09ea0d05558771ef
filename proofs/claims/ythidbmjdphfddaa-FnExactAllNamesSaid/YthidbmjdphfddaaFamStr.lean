/- What the laws' own helpers do with []string; no condition. -/
import Derived.Test.YthidbmjdphfddaaHs
import Derived.Test.YthidbmjdphfddaaProg
namespace Go.Proofs.Ythidbmjdphfddaa
open Go.RowKit
set_option linter.unusedVariables false
set_option linter.unusedSimpArgs false

set_option maxRecDepth 100000 in
theorem szStringS_of (xs : List D) (hn : xs.length ≤ 140737488351232) (ih : ∀ x ∈ xs, ∃ s : ByteArray, x = .str s ∧ s.size ≤ 140737488351232) : SzO Try.prog 54 (.slice 1 xs) := by
  intro w v left h h0 h1
  obtain ⟨A, c, rfl, _, _, hrow⟩ := rd_slice1 h
  have IH := Lib.hid ih
  have H := Lib.hid hrow
  have TOT := Lib.hid (show D.bulk (.slice 1 xs) = xs.length + D.bulks xs by simp only [D.bulk])
  clear ih h hrow
  go_enter Try.func54, Try.ntmps54
  go_wp2_with fail
  · go_ret
    exact ⟨ret_int (szR_neg' (by rw [TOT.out]; omega)).symm, Below.refl _ _⟩
  · go_loopw [5, 1] (fun i l wr => ∃ j : Nat, j ≤ xs.length ∧ i = .int .i64 j ∧ l = .int .i64 (left - xs.length - D.bulks (xs.take j)) ∧ 0 ≤ left - xs.length - D.bulks (xs.take j) ∧ Below w.heap.size w wr) (fun i _ _ => xs.length - (intOf i).toNat)
    case atStart => exact ⟨0, Nat.zero_le _, rfl, by simp [D.bulks], by simp [D.bulks]; omega, Below.refl _ _⟩
    case round =>
      obtain ⟨j, hj, rfl, rfl, hl, hb⟩ := hrel
      by_cases hlt : j < xs.length
      · obtain ⟨b, off, cs, rfl, hcl, hrd, hc⟩ := (RdRow.below H.out (by omega) hb).get (List.getElem?_eq_getElem hlt)
        obtain ⟨u0, rfl⟩ := cells1 hcl
        have c0 : wr.cell? ⟨b, off + j, none⟩ = some u0 := by simpa using hc 0 _ rfl
        obtain ⟨s, hs, hss⟩ := IH.out _ (List.getElem_mem hlt)
        rw [hs] at hrd
        obtain rfl : u0 = .string s := by simpa using rd_str.1 hrd
        have HB := Lib.hid hb
        have hbk : xs[j].bulk = s.size := by rw [hs]; rfl
        have T := Lib.hid (by have := D.bulks_take xs j hlt; rwa [hbk] at this)
        have T2 := Lib.hid (D.bulks_take_le xs (j + 1))
        clear hrd hcl hc hb hs hbk
        go_wp2_with fail
        · go_ret
          exact ⟨ret_int (szR_neg' (by rw [TOT.out]; have h6 := T.out; have h7 := T2.out; omega)).symm, HB.out⟩
        · go_roundw
          case rel => exact ⟨j + 1, by omega, by go_num, by rw [T.out]; go_num, by rw [T.out]; omega, HB.out⟩
          case measure => simp [intOf]; omega
      · obtain rfl : j = xs.length := by omega
        rw [List.take_length] at hl ⊢
        have HB := Lib.hid hb
        clear hb
        go_wp2
        go_ret
        exact ⟨ret_int ((szR_fit (by rw [TOT.out]; omega)).trans (by rw [TOT.out] <;> omega)).symm, HB.out⟩

set_option maxRecDepth 100000 in
theorem eqStringS_of (xs : List D) (hn : xs.length ≤ 140737488351232) (ih : ∀ x ∈ xs, ∃ s, x = D.str s) : EqO Try.prog 14 (.slice 1 xs) := by
  intro w v v' h h'
  obtain ⟨A, c, rfl, _, _, hrow⟩ := rd_slice1 h
  obtain ⟨A', c', rfl, _, _, hrow'⟩ := rd_slice1 h'
  have IH := Lib.hid ih
  have H := Lib.hid hrow
  have H' := Lib.hid hrow'
  clear ih h h' hrow hrow'
  go_enter Try.func14, Try.ntmps14
  go_wp2_with fail
  go_loopw [5] (fun i wr => ∃ j : Nat, j ≤ xs.length ∧ i = .int .i64 j ∧ Below w.heap.size w wr) (fun i _ => xs.length - (intOf i).toNat)
  case atStart => exact ⟨0, Nat.zero_le _, rfl, Below.refl _ _⟩
  case round =>
    obtain ⟨j, hj, rfl, hb⟩ := hrel
    by_cases hlt : j < xs.length
    · obtain ⟨b, off, cs, rfl, hcl, hrd, hc⟩ := (RdRow.below H.out (by omega) hb).get (List.getElem?_eq_getElem hlt)
      obtain ⟨b', off', cs', rfl, hcl', hrd', hc'⟩ := (RdRow.below H'.out (by omega) hb).get (List.getElem?_eq_getElem hlt)
      obtain ⟨u0, rfl⟩ := cells1 hcl
      obtain ⟨v0, rfl⟩ := cells1 hcl'
      have c0 : wr.cell? ⟨b, off + j, none⟩ = some u0 := by simpa using hc 0 _ rfl
      have d0 : wr.cell? ⟨b', off' + j, none⟩ = some v0 := by simpa using hc' 0 _ rfl
      obtain ⟨z, hz⟩ := IH.out _ (List.getElem_mem hlt)
      rw [hz] at hrd hrd'
      obtain rfl : u0 = .string z := by simpa using rd_str.1 hrd
      obtain rfl : v0 = .string z := by simpa using rd_str.1 hrd'
      have HB := Lib.hid hb
      clear hrd hcl hc hb hrd' hcl' hc' H H' hz
      have i0 : (0 : Int) ≤ (j : Int) := Int.natCast_nonneg _
      have i1 : (j : Int) < (xs.length : Int) := by omega
      go_wp2_with fail
      go_quiet (fail)
      go_wp2
      go_roundw
      case rel => exact ⟨j + 1, by omega, by go_num, drewN_below HB.out _⟩
      case measure => simp [intOf]; omega
    · obtain rfl : j = xs.length := by omega
      have HB := Lib.hid hb
      clear hb
      go_wp2
      go_ret
      exact ⟨rfl, HB.out⟩

theorem infoStringS : (Try.prog.info? 9).map (fun i => (i.zero, i.size, i.bytes)) = some (some (.string ⟨#[]⟩), 1, 16) := by kernel_rfl
set_option maxRecDepth 100000 in
theorem toStringS_of (xs : List D) (hn : xs.length ≤ 1048576) (ih : ∀ x ∈ xs, ∃ s, x = D.str s) : ToO Try.prog 60 (.slice 1 xs) := by
  intro w v h
  obtain ⟨A, c, rfl, _, _, hrow⟩ := rd_slice1 h
  have IH := Lib.hid ih
  have H := Lib.hid hrow
  clear ih h hrow
  obtain ⟨i0, hi, hz0, hz1, hz2⟩ := info_parts infoStringS
  have hmk := run_make (P := Try.prog) w 25 9 i0 _ Try.underlying25 hi hz0 .i64 .i64 (xs.length : Int) (xs.length : Int) (by omega) (by omega) (by rw [hz2]; omega) (by omega)
  rw [hz1, Int.toNat_natCast] at hmk
  clear hi hz0 hz1 hz2
  go_enter Try.func60, Try.ntmps60
  go_wp2_with fail
  go_loopw [4] (fun i wr => ∃ j : Nat, j ≤ xs.length ∧ i = .int .i64 j ∧ Below w.heap.size w wr ∧ Fill w.heap.size wr w.heap.size 9 1 xs.length (xs.take j)) (fun i _ => xs.length - (intOf i).toNat)
  case atStart => exact ⟨0, Nat.zero_le _, rfl, (Below.refl _ _).alloc (Nat.le_refl _) _, by rw [List.take_zero]; exact Fill.start (Nat.le_refl _) (by simp [size_madeCells])⟩
  case round =>
    obtain ⟨j, hj, rfl, hb, hf⟩ := hrel
    clear hmk
    by_cases hlt : j < xs.length
    · have hk : (xs.take j).length = j := by rw [List.length_take]; omega
      obtain ⟨b, off, cs, rfl, hcl, hrd, hc⟩ := (RdRow.below H.out (by omega) hb).get (List.getElem?_eq_getElem hlt)
      obtain ⟨u0, rfl⟩ := cells1 hcl
      obtain ⟨q, hq⟩ := IH.out _ (List.getElem_mem hlt)
      rw [hq] at hrd
      obtain rfl : u0 = .string q := by simpa using rd_str.1 hrd
      have c0 : wr.cell? ⟨b, off + j, none⟩ = some (.string q) := by simpa using hc 0 _ rfl
      have th := hf.there hlt
      obtain ⟨z, t0⟩ : ∃ z, wr.cell? ⟨w.heap.size, j, none⟩ = some z := by
        have := (th 0 (by omega)).1
        simp only [Nat.mul_one, Nat.add_zero] at this
        exact Option.isSome_iff_exists.1 this
      have t1 : wr.frozen? ⟨w.heap.size, j, none⟩ = false := by simpa using (th 0 (by omega)).2
      have hf1 := hf.store (Below.refl _ _) (fr_str _ _ _ : Fr wr.heap.size wr (.str q) [.string q]) rfl (by rw [hk]; exact hlt)
      rw [hk, ← hq] at hf1
      simp only [World.setCells, Nat.mul_one] at hf1
      have HF1 := Lib.hid hf1
      have HB1 := Lib.hid (hb.setCell (p := ⟨w.heap.size, j, none⟩) (Nat.le_refl _) (.string q))
      clear hrd hc hb hf H hcl hk th hf1 hq
      go_wp2
      go_roundw
      case rel =>
        refine ⟨j + 1, by omega, by go_num, HB1.out, ?_⟩
        rw [List.take_succ_eq_append_getElem hlt]
        exact HF1.out
      case measure => simp [intOf]; omega
    · obtain rfl : j = xs.length := by omega
      rw [List.take_length] at hf
      have HB := Lib.hid hb
      have HF := Lib.hid (hf.done rfl (by simp only [maxLen]; omega))
      clear hb hf H
      go_wp2
      go_ret
      exact ⟨_, rfl, HF.out, HB.out⟩

end Go.Proofs.Ythidbmjdphfddaa
