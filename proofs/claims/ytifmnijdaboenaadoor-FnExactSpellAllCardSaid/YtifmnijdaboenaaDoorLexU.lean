/- A text's runes, as far as new lines go; no program is named here. -/
import Derived.Test.YtifmnijdaboenaaDoorLexN
import Derived.Laws.RangeAny
namespace Go.Proofs.YtifmnijdaboenaaDoor
open Go Go.RowKit
set_option linter.unusedVariables false
set_option linter.unusedSimpArgs false

theorem get_cb (s : ByteArray) (j : Nat) (h : j < s.size) : ((s.get! j).toNat : Int) = cb s j := by
  rw [← cb_at h]
  have : s.get! j = s[j]'h := by
    simp [ByteArray.get!, getElem!_pos, h]
    rfl
  rw [this]
theorem cont_cb {s : ByteArray} {j : Nat} (h : j < s.size) (hc : (s.get! j).toNat / 64 = 2) : ¬ cb s j = 10 := by
  have := get_cb s j h
  omega
theorem rune_nl (s : ByteArray) (pos : Nat) (h : pos < s.size) : 1 ≤ (Utf8.decode s pos).2 ∧ pos + (Utf8.decode s pos).2 ≤ s.size ∧ ((Utf8.decode s pos).1 = 10 → (Utf8.decode s pos).2 = 1 ∧ cb s pos = 10) ∧ ((Utf8.decode s pos).1 ≠ 10 → ∀ k, k < (Utf8.decode s pos).2 → ¬ cb s (pos + k) = 10) := by
  by_cases ha : (s[pos]'h).toNat < 128
  · rw [decode_ascii s pos h ha]
    have hc := cb_at h
    refine ⟨Nat.le_refl _, h, fun h1 => ⟨rfl, by omega⟩, fun h1 k hk => ?_⟩
    obtain rfl : k = 0 := by have : k < 1 := hk; omega
    show ¬ cb s (pos + 0) = 10
    rw [Nat.add_zero]
    have h1 : (s[pos]'h).toNat ≠ 10 := h1
    omega
  · have hh := decode_high s pos h (by omega)
    have h0 : ¬ cb s pos = 10 := by rw [← cb_at h]; omega
    refine ⟨hh.2, ?_, fun h1 => by omega, fun _ k hk => ?_⟩
    · simp only [Utf8.decode]
      split
      · exact h
      · split
        · next h1 => simp at h1; split <;> simp <;> omega
        · split
          · next h1 => simp at h1; split <;> simp <;> omega
          · split
            · next h1 => simp at h1; split <;> simp <;> omega
            · simp; omega
    · have key : (Utf8.decode s pos).2 = 1 ∨ (∀ k, 1 ≤ k → k < (Utf8.decode s pos).2 → pos + k < s.size ∧ (s.get! (pos + k)).toNat / 64 = 2) := by
        simp only [Utf8.decode]
        split
        · exact .inl rfl
        · split
          · next h1 =>
            simp at h1
            split
            · refine .inr fun k h2 h3 => ?_
              obtain rfl : k = 1 := by have : k < 2 := h3; omega
              exact ⟨by omega, h1.2.2⟩
            · exact .inl rfl
          · split
            · next h1 =>
              simp at h1
              split
              · refine .inr fun k h2 h3 => ?_
                have h3 : k < 3 := h3
                rcases (show k = 1 ∨ k = 2 by omega) with rfl | rfl
                · exact ⟨by omega, h1.1.2.2⟩
                · exact ⟨by omega, h1.2.2⟩
              · exact .inl rfl
            · split
              · next h1 =>
                simp at h1
                split
                · refine .inr fun k h2 h3 => ?_
                  have h3 : k < 4 := h3
                  rcases (show k = 1 ∨ k = 2 ∨ k = 3 by omega) with rfl | rfl | rfl
                  · exact ⟨by omega, h1.1.1.2.2⟩
                  · exact ⟨by omega, h1.1.2.2⟩
                  · exact ⟨by omega, h1.2.2⟩
                · exact .inl rfl
              · exact .inl rfl
      cases k with
      | zero => exact h0
      | succ k =>
        rcases key with key | key
        · omega
        · have := key (k + 1) (by omega) hk
          exact cont_cb this.1 this.2
/-- Without a new line only the column goes on. -/
theorem advL_flat (t : ByteArray) : ∀ (n a : Nat) (p : Int × Int), (∀ k, k < n → ¬ cb t (a + k) = 10) → advL t a n p = (p.1, p.2 + n)
  | 0, a, p, _ => by simp [advL]
  | n + 1, a, p, h => by
    rw [advL, if_neg (by simpa using h 0 (by omega)), advL_flat t n (a + 1) _ (fun k hk => by have := h (k + 1) (by omega); rwa [show a + 1 + k = a + (k + 1) by omega])]
    simp only [Prod.mk.injEq, true_and]
    omega

end Go.Proofs.YtifmnijdaboenaaDoor
