/- What the laws' own helpers do with []int64; no condition. -/
import Derived.Test.YtbbpkjcmbakfeaaHs
import Derived.Test.YtbbpkjcmbakfeaaProg
namespace Go.Proofs.Ytbbpkjcmbakfeaa
open Go.RowKit
set_option linter.unusedVariables false
set_option linter.unusedSimpArgs false

set_option maxRecDepth 100000 in
theorem eqInt64S_of (xs : List D) (hn : xs.length ≤ 140737488351232) (ih : ∀ x ∈ xs, ∃ n, x = D.int .i64 n) : EqO Try.prog 16 (.slice 1 xs) := by
  intro w v v' h h'
  obtain ⟨A, c, rfl, _, _, hrow⟩ := rd_slice1 h
  obtain ⟨A', c', rfl, _, _, hrow'⟩ := rd_slice1 h'
  have IH := Lib.hid ih
  have H := Lib.hid hrow
  have H' := Lib.hid hrow'
  clear ih h h' hrow hrow'
  go_enter Try.func16, Try.ntmps16
  go_wp2_with fail
  go_loopw [5] (fun i wr => ∃ j : Nat, j ≤ xs.length ∧ i = .int .i64 j ∧ Below w.heap.size w wr) (fun i _ => xs.length - (intOf i).toNat)
  case atStart => exact ⟨0, Nat.zero_le _, rfl, Below.refl _ _⟩
  case round =>
    obtain ⟨j, hj, rfl, hb⟩ := hrel
    by_cases hlt : j < xs.length
    · obtain ⟨b, off, cs, rfl, hcl, hrd, hc⟩ := (RdRow.below H.out (by omega) hb).get (List.getElem?_eq_getElem hlt)
      obtain ⟨b', off', cs', rfl, hcl', hrd', hc'⟩ := (RdRow.below H'.out (by omega) hb).get (List.getElem?_eq_getElem hlt)
      obtain ⟨u0, rfl⟩ := cells1 hcl
      obtain ⟨v0, rfl⟩ := cells1 hcl'
      have c0 : wr.cell? ⟨b, off + j, none⟩ = some u0 := by simpa using hc 0 _ rfl
      have d0 : wr.cell? ⟨b', off' + j, none⟩ = some v0 := by simpa using hc' 0 _ rfl
      obtain ⟨z, hz⟩ := IH.out _ (List.getElem_mem hlt)
      rw [hz] at hrd hrd'
      obtain rfl : u0 = .int .i64 z := by simpa using rd_int.1 hrd
      obtain rfl : v0 = .int .i64 z := by simpa using rd_int.1 hrd'
      have HB := Lib.hid hb
      clear hrd hcl hc hb hrd' hcl' hc' H H' hz
      have i0 : (0 : Int) ≤ (j : Int) := Int.natCast_nonneg _
      have i1 : (j : Int) < (xs.length : Int) := by omega
      go_wp2_with fail
      go_quiet (fail)
      go_wp2
      go_roundw
      case rel => exact ⟨j + 1, by omega, by go_num, drewN_below HB.out _⟩
      case measure => simp [intOf]; omega
    · obtain rfl : j = xs.length := by omega
      have HB := Lib.hid hb
      clear hb
      go_wp2
      go_ret
      exact ⟨rfl, HB.out⟩

theorem infoInt64S : (Try.prog.info? 2).map (fun i => (i.zero, i.size, i.bytes)) = some (some (.int .i64 0), 1, 8) := by kernel_rfl
set_option maxRecDepth 100000 in
theorem toInt64S_of (xs : List D) (hn : xs.length ≤ 1048576) (ih : ∀ x ∈ xs, ∃ n, x = D.int .i64 n) : ToO Try.prog 40 (.slice 1 xs) := by
  intro w v h
  obtain ⟨A, c, rfl, _, _, hrow⟩ := rd_slice1 h
  have IH := Lib.hid ih
  have H := Lib.hid hrow
  clear ih h hrow
  obtain ⟨i0, hi, hz0, hz1, hz2⟩ := info_parts infoInt64S
  have hmk := run_make (P := Try.prog) w 26 2 i0 _ Try.underlying26 hi hz0 .i64 .i64 (xs.length : Int) (xs.length : Int) (by omega) (by omega) (by rw [hz2]; omega) (by omega)
  rw [hz1, Int.toNat_natCast] at hmk
  clear hi hz0 hz1 hz2
  go_enter Try.func40, Try.ntmps40
  go_wp2_with fail
  go_loopw [4] (fun i wr => ∃ j : Nat, j ≤ xs.length ∧ i = .int .i64 j ∧ Below w.heap.size w wr ∧ Fill w.heap.size wr w.heap.size 2 1 xs.length (xs.take j)) (fun i _ => xs.length - (intOf i).toNat)
  case atStart => exact ⟨0, Nat.zero_le _, rfl, (Below.refl _ _).alloc (Nat.le_refl _) _, by rw [List.take_zero]; exact Fill.start (Nat.le_refl _) (by simp [size_madeCells])⟩
  case round =>
    obtain ⟨j, hj, rfl, hb, hf⟩ := hrel
    clear hmk
    by_cases hlt : j < xs.length
    · have hk : (xs.take j).length = j := by rw [List.length_take]; omega
      obtain ⟨b, off, cs, rfl, hcl, hrd, hc⟩ := (RdRow.below H.out (by omega) hb).get (List.getElem?_eq_getElem hlt)
      obtain ⟨u0, rfl⟩ := cells1 hcl
      obtain ⟨q, hq⟩ := IH.out _ (List.getElem_mem hlt)
      rw [hq] at hrd
      obtain rfl : u0 = .int .i64 q := by simpa using rd_int.1 hrd
      have c0 : wr.cell? ⟨b, off + j, none⟩ = some (.int .i64 q) := by simpa using hc 0 _ rfl
      have th := hf.there hlt
      obtain ⟨z, t0⟩ : ∃ z, wr.cell? ⟨w.heap.size, j, none⟩ = some z := by
        have := (th 0 (by omega)).1
        simp only [Nat.mul_one, Nat.add_zero] at this
        exact Option.isSome_iff_exists.1 this
      have t1 : wr.frozen? ⟨w.heap.size, j, none⟩ = false := by simpa using (th 0 (by omega)).2
      have hf1 := hf.store (Below.refl _ _) (fr_int _ _ _ _ : Fr wr.heap.size wr (.int .i64 q) [.int .i64 q]) rfl (by rw [hk]; exact hlt)
      rw [hk, ← hq] at hf1
      simp only [World.setCells, Nat.mul_one] at hf1
      have HF1 := Lib.hid hf1
      have HB1 := Lib.hid (hb.setCell (p := ⟨w.heap.size, j, none⟩) (Nat.le_refl _) (.int .i64 q))
      clear hrd hc hb hf H hcl hk th hf1 hq
      go_wp2
      go_roundw
      case rel =>
        refine ⟨j + 1, by omega, by go_num, HB1.out, ?_⟩
        rw [List.take_succ_eq_append_getElem hlt]
        exact HF1.out
      case measure => simp [intOf]; omega
    · obtain rfl : j = xs.length := by omega
      rw [List.take_length] at hf
      have HB := Lib.hid hb
      have HF := Lib.hid (hf.done rfl (by simp only [maxLen]; omega))
      clear hb hf H
      go_wp2
      go_ret
      exact ⟨_, rfl, HF.out, HB.out⟩

end Go.Proofs.Ytbbpkjcmbakfeaa
