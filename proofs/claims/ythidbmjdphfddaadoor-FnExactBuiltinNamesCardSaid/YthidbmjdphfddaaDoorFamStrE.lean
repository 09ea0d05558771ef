/- What the laws' own helpers do with []string; no condition. -/
import Derived.Test.YthidbmjdphfddaaDoorHs
import Derived.Test.YthidbmjdphfddaaDoorProg
namespace Go.Proofs.YthidbmjdphfddaaDoor
open Go.RowKit
set_option linter.unusedVariables false
set_option linter.unusedSimpArgs false

set_option maxRecDepth 100000 in
theorem eqStringS_of (xs : List D) (hn : xs.length ≤ 140737488351232) (ih : ∀ x ∈ xs, ∃ s, x = D.str s) : EqO Tryd.prog 7 (.slice 1 xs) := by
  intro w v v' h h'
  obtain ⟨A, c, rfl, _, _, hrow⟩ := rd_slice1 h
  obtain ⟨A', c', rfl, _, _, hrow'⟩ := rd_slice1 h'
  have IH := Lib.hid ih
  have H := Lib.hid hrow
  have H' := Lib.hid hrow'
  clear ih h h' hrow hrow'
  go_enter Tryd.func7, Tryd.ntmps7
  go_wp2_with fail
  go_loopw [5] (fun i wr => ∃ j : Nat, j ≤ xs.length ∧ i = .int .i64 j ∧ Below w.heap.size w wr) (fun i _ => xs.length - (intOf i).toNat)
  case atStart => exact ⟨0, Nat.zero_le _, rfl, Below.refl _ _⟩
  case round =>
    obtain ⟨j, hj, rfl, hb⟩ := hrel
    by_cases hlt : j < xs.length
    · obtain ⟨b, off, cs, rfl, hcl, hrd, hc⟩ := (RdRow.below H.out (by omega) hb).get (List.getElem?_eq_getElem hlt)
      obtain ⟨b', off', cs', rfl, hcl', hrd', hc'⟩ := (RdRow.below H'.out (by omega) hb).get (List.getElem?_eq_getElem hlt)
      obtain ⟨u0, rfl⟩ := cells1 hcl
      obtain ⟨v0, rfl⟩ := cells1 hcl'
      have c0 : wr.cell? ⟨b, off + j, none⟩ = some u0 := by simpa using hc 0 _ rfl
      have d0 : wr.cell? ⟨b', off' + j, none⟩ = some v0 := by simpa using hc' 0 _ rfl
      obtain ⟨z, hz⟩ := IH.out _ (List.getElem_mem hlt)
      rw [hz] at hrd hrd'
      obtain rfl : u0 = .string z := by simpa using rd_str.1 hrd
      obtain rfl : v0 = .string z := by simpa using rd_str.1 hrd'
      have HB := Lib.hid hb
      clear hrd hcl hc hb hrd' hcl' hc' H H' hz
      have i0 : (0 : Int) ≤ (j : Int) := Int.natCast_nonneg _
      have i1 : (j : Int) < (xs.length : Int) := by omega
      go_wp2_with fail
      go_quiet (fail)
      go_wp2
      go_roundw
      case rel => exact ⟨j + 1, by omega, by go_num, drewN_below HB.out _⟩
      case measure => simp [intOf]; omega
    · obtain rfl : j = xs.length := by omega
      have HB := Lib.hid hb
      clear hb
      go_wp2
      go_ret
      exact ⟨rfl, HB.out⟩

end Go.Proofs.YthidbmjdphfddaaDoor
