/- The law 'FnExactFresh' with what both functions answer; no condition. -/
import Derived.Test.YtgogfloppnhceaaFreshI
import Derived.Test.YtgogfloppnhceaaLawFresh
namespace Go.Proofs.Ytgogfloppnhceaa
open Go.RowKit
set_option linter.unusedVariables false

theorem reach_str : reachBytes = 140737488351232 := by decide
theorem strs_of {xs : List D} (h : ∀ x ∈ xs, ∃ s : ByteArray, x = D.str s ∧ s.size ≤ reachBytes) : ∃ l : List ByteArray, xs = strs l ∧ ∀ x ∈ l, x.size ≤ 140737488351232 := by
  induction xs with
  | nil => exact ⟨[], rfl, by simp⟩
  | cons x xs ih =>
    obtain ⟨n, rfl, hn⟩ := h x (by simp)
    obtain ⟨l, rfl, hl⟩ := ih (fun y hy => h y (by simp [hy]))
    exact ⟨n :: l, rfl, fun z hz => by
      rcases List.mem_cons.1 hz with rfl | hz
      · have hr := reach_str
        omega
      · exact hl z hz⟩
theorem opensStrs (N : Nat) : Opens Try.prog 41 (fun y => ∃ l, y = D.slice 1 (strs l) ∧ l.length ≤ 140737488351232 ∧ ∀ x ∈ l, x.size ≤ 140737488351232) N := by
  refine ((opens_slice (sz := 1) (B := 16) Try.underlying41 (by kernel_rfl) (by kernel_rfl) (by omega) (by kernel_rfl) (opens_str Try.underlying9 (by kernel_rfl) N)).le (Nat.le_succ N)).imp ?_
  rintro y ⟨xs, rfl, hl, hx⟩
  obtain ⟨l, rfl, hw⟩ := strs_of hx
  rw [strs_length] at hl
  have hr := reach_str
  exact ⟨l, rfl, by omega, hw⟩
theorem strs_mem {l : List ByteArray} {P : D → Prop} (h : ∀ x ∈ l, P (.str x)) : ∀ y ∈ strs l, P y := by
  intro y hy
  obtain ⟨x, hx, rfl⟩ := List.mem_map.1 hy
  exact h x hx
theorem walkFresh (s : ByteArray) (l : List ByteArray) (hn : l.length ≤ 140737488351232) (hl : ∀ x ∈ l, x.size ≤ 140737488351232) (hs : s.size ≤ 140737488351232) (w : World) (c : Value) (h : Rd w (.slice 1 (strs l)) [c]) :
    Calls Try.prog 7 #[.string s, c] w fun e w' => e = .returned (.bool true) ∧ Below w.heap.size w w' := by
  have hlen : (D.slice 1 (strs l)).bulk ≤ 1048576 → l.length ≤ 1048576 := fun hb => by have := (D.bulk_slice hb).1; rw [strs_length] at this; exact this
  exact lawFnExactFresh s (.slice 1 (strs l)) (freshN l l.length (s ++ ⟨#[39]⟩))
    (szStringS_of _ (by rw [strs_length]; exact hn) (strs_mem fun x hx => ⟨x, rfl, hl x hx⟩))
    (fun hb => toStringS_of _ (D.bulk_slice hb).1 (strs_mem fun x hx => ⟨x, rfl⟩))
    (eqStringS_of _ (by rw [strs_length]; exact hn) (strs_mem fun x hx => ⟨x, rfl⟩))
    (fun hb hs w c h => specFresh l s (hlen hb) hs w c h) (fun hb hs w c h => implFresh l s (hlen hb) (fun x hx => Nat.le_trans (hl x hx) (by decide)) hs w c h) w c hs h

end Go.Proofs.Ytgogfloppnhceaa
