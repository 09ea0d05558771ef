/- Great numbers: what is read is one; the laws' helpers on them; no condition. -/
import Derived.Test.YthidbmjdphfddaaBigF
namespace Go.Proofs.Ythidbmjdphfddaa
open Go.RowKit
set_option linter.unusedVariables false

theorem reach_big : reachBytes = 140737488351232 := by decide
theorem u32s_of {xs : List D} (h : ∀ x ∈ xs, ∃ n, x = D.int .u32 n ∧ (Lit.int .u32 n).wf = true) : ∃ l : List Int, xs = u32s l ∧ ∀ n ∈ l, (Lit.int .u32 n).wf = true := by
  induction xs with
  | nil => exact ⟨[], rfl, by simp⟩
  | cons x xs ih =>
    obtain ⟨n, rfl, hn⟩ := h x (by simp)
    obtain ⟨l, rfl, hl⟩ := ih (fun y hy => h y (by simp [hy]))
    exact ⟨n :: l, rfl, fun z hz => by
      rcases List.mem_cons.1 hz with rfl | hz
      · exact hn
      · exact hl z hz⟩
theorem opensBigL : ∀ N, Opens Try.prog 24 (fun y => ∃ m l, y = bigD m l ∧ l.length ≤ 140737488351232 ∧ ∀ n ∈ l, (Lit.int .u32 n).wf = true) N
  | 0 => opens_zero
  | N + 1 => by
    have hs := (opens_slice (sz := 1) (B := 4) Try.underlying22 (by kernel_rfl) (by kernel_rfl) (by omega) (by kernel_rfl) (opens_int Try.underlying230 (by kernel_rfl) N)).le (Nat.le_succ N)
    refine (opens_struct Try.underlying24 (by kernel_rfl) (opensF_cons (c := 1) rfl (by kernel_rfl) (opens_bool Try.underlying4 (by kernel_rfl) N) (opensF_cons (c := 1) rfl (by kernel_rfl) hs opensF_nil))).imp ?_
    rintro y ⟨ys, rfl, _, _, rfl, ⟨b, rfl⟩, _, _, rfl, ⟨xs, rfl, hl, hx⟩, rfl⟩
    obtain ⟨l, rfl, hw⟩ := u32s_of hx
    rw [u32s_length] at hl
    have hr := reach_big
    exact ⟨b, l, rfl, by omega, hw⟩
theorem bulks_u32s (l : List Int) : D.bulks (u32s l) = 0 := by
  induction l with
  | nil => rfl
  | cons x l ih => simpa [u32s, D.bulks, D.bulk] using ih
theorem u32s_mem (l : List Int) : ∀ x ∈ u32s l, ∃ n, x = D.int .u32 n := by
  intro x hx
  obtain ⟨n, _, rfl⟩ := List.mem_map.1 hx
  exact ⟨n, rfl⟩
theorem szBg (m : Bool) (l : List Int) (hn : l.length ≤ 140737488351232) : SzA Try.prog 53 (bigD m l) :=
  szBig_of m (u32s l) (szUint32S_of (u32s l) (by rw [u32s_length]; exact hn) (bulks_u32s l))
theorem eqBg (m : Bool) (l : List Int) (hn : l.length ≤ 140737488351232) : EqA Try.prog 66 (bigD m l) :=
  eqBig_of m (u32s l) (eqUint32S_of (u32s l) (by rw [u32s_length]; exact hn) (u32s_mem l))
theorem bulk_bigD (m : Bool) (l : List Int) : (bigD m l).bulk = l.length := by
  simp [bigD, D.bulk, D.bulks, u32s_length, bulks_u32s]
theorem toBg (m : Bool) (l : List Int) (hn : (bigD m l).bulk ≤ 1048576) : ToA Try.prog 59 (bigD m l) :=
  toBig_of m (u32s l) (toUint32S_of (u32s l) (by rw [u32s_length]; rw [bulk_bigD] at hn; exact hn) (u32s_mem l))

end Go.Proofs.Ythidbmjdphfddaa
