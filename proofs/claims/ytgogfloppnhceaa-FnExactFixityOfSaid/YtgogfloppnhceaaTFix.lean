/- The law 'FnExactFixityOf' with what both functions answer; no condition. -/
import Derived.Test.YtgogfloppnhceaaFixI
namespace Go.Proofs.Ytgogfloppnhceaa
open Go.RowKit
set_option linter.unusedVariables false

theorem reach_fx : reachBytes = 140737488351232 := by decide
def FxOk (y : D) : Prop := ∃ x : Fx, y = x.enc ∧ x.name.size ≤ 140737488351232
theorem fxs_of {xs : List D} (h : ∀ x ∈ xs, FxOk x) : ∃ l : List Fx, xs = fxs l ∧ ∀ x ∈ l, x.name.size ≤ 140737488351232 := by
  induction xs with
  | nil => exact ⟨[], rfl, by simp⟩
  | cons x xs ih =>
    obtain ⟨n, rfl, hn⟩ := h x (by simp)
    obtain ⟨l, rfl, hl⟩ := ih (fun y hy => h y (by simp [hy]))
    exact ⟨n :: l, rfl, fun z hz => by
      rcases List.mem_cons.1 hz with rfl | hz
      · exact hn
      · exact hl z hz⟩
theorem opensFixity : ∀ N, Opens Try.prog 101 FxOk N
  | 0 => opens_zero
  | N + 1 => by
    refine (opens_struct Try.underlying101 (by kernel_rfl) (opensF_cons (c := 1) rfl (by kernel_rfl) (opens_str Try.underlying9 (by kernel_rfl) N) (opensF_cons (c := 1) rfl (by kernel_rfl) (opens_int Try.underlying2 (by kernel_rfl) N) (opensF_cons (c := 1) rfl (by kernel_rfl) (opens_int Try.underlying2 (by kernel_rfl) N) opensF_nil)))).imp ?_
    rintro y ⟨ys, rfl, _, _, rfl, ⟨s, rfl, hs⟩, _, _, rfl, ⟨n, rfl, hn⟩, _, _, rfl, ⟨m, rfl, hm⟩, rfl⟩
    have hr := reach_fx
    exact ⟨⟨s, n, m⟩, rfl, by show s.size ≤ _; omega⟩
theorem opensFixityS (N : Nat) : Opens Try.prog 51 (fun y => ∃ l, y = D.slice 3 (fxs l) ∧ l.length ≤ 140737488351232 ∧ ∀ x ∈ l, x.name.size ≤ 140737488351232) N := by
  refine ((opens_slice (sz := 3) (B := 32) Try.underlying51 (by kernel_rfl) (by kernel_rfl) (by omega) (by kernel_rfl) (opensFixity N)).le (Nat.le_succ N)).imp ?_
  rintro y ⟨xs, rfl, hl, hx⟩
  obtain ⟨l, rfl, hw⟩ := fxs_of hx
  rw [fxs_length] at hl
  have hr := reach_fx
  exact ⟨l, rfl, by omega, hw⟩
theorem fxs_mem {l : List Fx} {P : D → Prop} (h : ∀ x ∈ l, P x.enc) : ∀ y ∈ fxs l, P y := by
  intro y hy
  obtain ⟨x, hx, rfl⟩ := List.mem_map.1 hy
  exact h x hx
theorem walkFixityOf (l : List Fx) (s : ByteArray) (hn : l.length ≤ 140737488351232) (hl : ∀ x ∈ l, x.name.size ≤ 140737488351232) (hs : s.size ≤ 140737488351232) (w : World) (c : Value) (h : Rd w (.slice 3 (fxs l)) [c]) :
    Calls Try.prog 9 #[c, .string s] w fun e w' => e = .returned (.bool true) ∧ Below w.heap.size w w' :=
  lawFnExactFixityOf (.slice 3 (fxs l)) s (fixityOf l s).enc
    (szFixityS_of _ (by rw [fxs_length]; exact hn) (fxs_mem fun x hx => szFixity_of _ _ _ (hl x hx)))
    (fun hb => toFixityS_of _ (D.bulk_slice hb).1 (fxs_mem fun _ _ => rfl) (fxs_mem fun x _ => toFixity_of _ _ _))
    (eqFixityS_of _ (by rw [fxs_length]; exact hn) (fxs_mem fun x _ => eqFixity_of _ _ _)) rfl (eqFixity_of _ _ _)
    (fun _ _ w c h => specFixityOf l s hn w c h) (fun _ _ w c h => implFixityOf l s hn w c h) w c h hs

end Go.Proofs.Ytgogfloppnhceaa
