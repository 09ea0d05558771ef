/- A number's decimal text is read back as the number; other texts are not read. No program is named here. -/
import Derived.Test.YtajmeeppigdjnaaReadN
import Derived.Test.YtajmeeppigdjnaaDecN
import Derived.Test.YtajmeeppigdjnaaRingN
namespace Go.Proofs.Ytajmeeppigdjnaa
open Go.RowKit Go.Proofs.YtajmeeppigdjnaaW.PrintWords Go.Proofs.YtajmeeppigdjnaaW.PrintMore
set_option linter.unusedVariables false
set_option linter.unusedSimpArgs false

def strB (l : List UInt8) : ByteArray := ⟨l.toArray⟩
theorem strB_size (l : List UInt8) : (strB l).size = l.length := rfl
theorem strB_append (l l' : List UInt8) : strB (l ++ l') = strB l ++ strB l' := by
  apply ByteArray.ext
  simp [strB]
theorem bt_strB {l : List UInt8} {i : Nat} (h : i < l.length) : bt (strB l) (i : Int) = ((l[i]).toNat : Int) := by
  unfold bt
  have hh : ((i : Nat) : Int).toNat < (strB l).size := by simpa [strB_size] using h
  rw [dif_pos hh]
  rfl
theorem num_strB {l : List UInt8} (x : List UInt8) : ∀ i, i ≤ l.length → num (strB (l ++ x)) i = num (strB l) i
  | 0, _ => rfl
  | i + 1, h => by
    simp only [num]
    rw [num_strB x i (by omega), bt_strB (by simp; omega), bt_strB (by omega), List.getElem_append_left (by omega)]
theorem digs_strB {l : List UInt8} : Digs (strB l) ↔ ∀ b ∈ l, 48 ≤ b.toNat ∧ b.toNat ≤ 57 := by
  constructor
  · intro h b hb
    obtain ⟨i, hi, rfl⟩ := List.getElem_of_mem hb
    have := h i hi
    rw [bt_strB hi] at this
    omega
  · intro h i hi
    have hi' : i < l.length := hi
    rw [bt_strB hi']
    have := h _ (List.getElem_mem hi')
    omega
theorem dig_nat {d : Nat} (h : d < 10) : (UInt8.ofNat (48 + d)).toNat = 48 + d := by
  rw [UInt8.toNat_ofNat']
  omega
theorem decD_digs : ∀ n : Nat, ∀ b ∈ decD n, 48 ≤ b.toNat ∧ b.toNat ≤ 57 := by
  intro n
  induction n using Nat.strongRecOn with
  | ind n ih =>
    intro b hb
    by_cases h : n < 10
    · rw [decD_lt h] at hb
      rw [List.mem_singleton.1 hb, dig_nat h]
      omega
    · rw [decD_ge h] at hb
      rcases List.mem_append.1 hb with hb | hb
      · exact ih (n / 10) (by omega) b hb
      · rw [List.mem_singleton.1 hb, dig_nat (by omega)]
        omega
theorem decD_pos (n : Nat) : 0 < (decD n).length := by
  by_cases h : n < 10
  · rw [decD_lt h]; simp
  · rw [decD_ge h]; simp
theorem decD_num : ∀ n : Nat, num (strB (decD n)) (decD n).length = n := by
  intro n
  induction n using Nat.strongRecOn with
  | ind n ih =>
    by_cases h : n < 10
    · rw [decD_lt h]
      simp only [List.length_singleton, num]
      rw [bt_strB (by simp)]
      simp only [List.getElem_singleton]
      rw [dig_nat h]
      omega
    · have e := decD_ge h
      have h1 := ih (n / 10) (by omega)
      rw [e, List.length_append, List.length_singleton]
      simp only [num]
      rw [num_strB _ _ (Nat.le_refl _), h1, bt_strB (by simp), List.getElem_append_right (Nat.le_refl _)]
      simp only [Nat.sub_self, List.getElem_singleton]
      rw [dig_nat (by omega)]
      omega
/-- No nought ahead, but of nought itself. -/
theorem decD_head : ∀ n : Nat, 0 < n → ∀ h : 0 < (decD n).length, (decD n)[0].toNat ≠ 48 := by
  intro n
  induction n using Nat.strongRecOn with
  | ind n ih =>
    intro hn h0
    by_cases h : n < 10
    · have e := decD_lt h
      simp only [e, List.getElem_singleton]
      rw [dig_nat h]
      omega
    · have e := decD_ge h
      have hp := decD_pos (n / 10)
      simp only [e]
      rw [List.getElem_append_left hp]
      exact ih (n / 10) (by omega) (by omega) hp
/-- A text of digits is read. -/
theorem readR_dec (m : Bool) (n : Nat) (h : n = 0 → m = false) : readR m (strB (decD n)) = bgRes (if m = true then -(n : Int) else n) := by
  have hp := decD_pos n
  have hnum := decD_num n
  unfold readR
  rw [if_neg, strB_size, hnum]
  rintro (h1 | ⟨h2, h3⟩ | h4)
  · rw [strB_size] at h1; omega
  · have e0 : bt (strB (decD n)) 0 = (((decD n)[0]).toNat : Int) := bt_strB (i := 0) hp
    rw [e0] at h2
    by_cases hn : n = 0
    · have hm := h hn
      subst hn hm
      rw [decD_lt (by decide)] at h3
      simp [strB_size] at h3
    · exact decD_head n (by omega) hp (by omega)
  · exact h4 (digs_strB.2 (decD_digs n))
/-- Behind a nought ahead nothing is read. -/
theorem readR_nought (m : Bool) (l : List UInt8) (h : 0 < l.length) : readR m (strB (48 :: l)) = (1, false, []) := by
  unfold readR
  refine if_pos (.inr (.inl ⟨?_, .inl ?_⟩))
  · exact bt_strB (l := 48 :: l) (i := 0) (by simp)
  · rw [strB_size]; simp; omega
/-- A blank behind: nothing is read. -/
theorem readR_blank (m : Bool) (l : List UInt8) : readR m (strB (l ++ [32])) = (1, false, []) := by
  unfold readR
  refine if_pos (.inr (.inr fun hd => ?_))
  have := digs_strB.1 hd 32 (by simp)
  simp at this

end Go.Proofs.Ytajmeeppigdjnaa
