/- Runs of bytes as arguments; no condition. -/
import Derived.Test.YtajmeeppigdjnaaKd
import Derived.Test.YtajmeeppigdjnaaProg
namespace Go.Proofs.Ytajmeeppigdjnaa
open Go.RowKit Go.Proofs.YtajmeeppigdjnaaW.PrintWords Go.Proofs.YtajmeeppigdjnaaW.PrintMore
set_option linter.unusedVariables false

theorem reach_u8 : reachBytes = 140737488351232 := by decide
theorem u8s_of {xs : List D} (h : ∀ x ∈ xs, ∃ n, x = D.int .u8 n ∧ (Lit.int .u8 n).wf = true) : ∃ l : List Int, xs = ints .u8 l ∧ ∀ x ∈ l, 0 ≤ x ∧ x ≤ 255 := by
  induction xs with
  | nil => exact ⟨[], rfl, by simp⟩
  | cons x xs ih =>
    obtain ⟨n, rfl, hn⟩ := h x (by simp)
    obtain ⟨l, rfl, hl⟩ := ih (fun y hy => h y (by simp [hy]))
    exact ⟨n :: l, rfl, fun z hz => by
      rcases List.mem_cons.1 hz with rfl | hz
      · simp [Lit.wf] at hn
        have e1 : IntKind.u8.min = 0 := by decide
        have e2 : IntKind.u8.max = 255 := by decide
        omega
      · exact hl z hz⟩
theorem opensU8s (N : Nat) : Opens Try.prog 52 (fun y => ∃ l, y = D.slice 1 (ints .u8 l) ∧ l.length ≤ 140737488351232 ∧ ∀ x ∈ l, 0 ≤ x ∧ x ≤ 255) N := by
  refine ((opens_slice (sz := 1) (B := 1) Try.underlying52 (by kernel_rfl) (by kernel_rfl) (by omega) (by kernel_rfl) (opens_int Try.underlying5 (by kernel_rfl) N)).le (Nat.le_succ N)).imp ?_
  rintro y ⟨xs, rfl, hl, hx⟩
  obtain ⟨l, rfl, hw⟩ := u8s_of hx
  rw [ints_length] at hl
  have hr := reach_u8
  exact ⟨l, rfl, by omega, hw⟩

end Go.Proofs.Ytajmeeppigdjnaa
