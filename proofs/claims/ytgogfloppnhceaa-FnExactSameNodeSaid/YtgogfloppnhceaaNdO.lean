/- What is read as a tree's type is a tree. -/
import Derived.Test.YtgogfloppnhceaaNd
namespace Go.Proofs.Ytgogfloppnhceaa
open Go.RowKit
set_option linter.unusedVariables false

theorem Nd.list_of {xs : List D} (h : ∀ x ∈ xs, ∃ nd : Nd, x = nd.enc ∧ nd.ok) : ∃ nds : List Nd, xs = Nd.encs nds ∧ Nd.oks nds := by
  induction xs with
  | nil => exact ⟨[], rfl, trivial⟩
  | cons x xs ih =>
    obtain ⟨nd, rfl, ho⟩ := h x (by simp)
    obtain ⟨nds, rfl, hos⟩ := ih (fun y hy => h y (by simp [hy]))
    exact ⟨nd :: nds, rfl, ho, hos⟩
theorem opensLNode : ∀ N, Opens Try.prog 63 (fun y => ∃ nd : Nd, y = nd.enc ∧ nd.ok) N
  | 0 => opens_zero
  | N + 1 => by
    have ih := opensLNode N
    have hs : Opens Try.prog 61 _ N := (opens_slice (sz := 3) (B := 48) Try.underlying61 (by kernel_rfl) (by kernel_rfl) (by omega) (by kernel_rfl) ih).le (Nat.le_succ N)
    refine (opens_struct Try.underlying63 (by kernel_rfl) (opensF_cons (c := 1) rfl (by kernel_rfl) (opens_int Try.underlying2 (by kernel_rfl) N) (opensF_cons (c := 1) rfl (by kernel_rfl) (opens_str Try.underlying9 (by kernel_rfl) N) (opensF_cons (c := 1) rfl (by kernel_rfl) hs opensF_nil)))).imp ?_
    rintro y ⟨ys, rfl, _, _, rfl, ⟨n, rfl, hn⟩, _, _, rfl, ⟨s, rfl, hs⟩, _, _, rfl, ⟨xs, rfl, hl, hx⟩, rfl⟩
    obtain ⟨nds, rfl, hos⟩ := Nd.list_of hx
    rw [Nd.encs_length] at hl
    refine ⟨.mk n s nds, rfl, ?_⟩
    simp only [Nd.ok]
    have hr : reachBytes = 140737488351232 := by decide
    exact ⟨hn, by omega, by omega, hos⟩

end Go.Proofs.Ytgogfloppnhceaa
