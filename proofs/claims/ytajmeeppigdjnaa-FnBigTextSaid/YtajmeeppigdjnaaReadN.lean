/- Digits read into a number: what a text comes to. No program is named here. -/
import Derived.Test.YtajmeeppigdjnaaBigMulN
import Derived.Test.YtajmeeppigdjnaaWLast
namespace Go.Proofs.Ytajmeeppigdjnaa
open Go.RowKit Go.Proofs.YtajmeeppigdjnaaW.PrintWords Go.Proofs.YtajmeeppigdjnaaW.PrintMore
set_option linter.unusedVariables false
set_option linter.unusedSimpArgs false

/-- The number of the first digits. -/
def num (t : ByteArray) : Nat → Int
  | 0 => 0
  | i + 1 => num t i * 10 + (bt t i - 48)
def Digs (t : ByteArray) : Prop := ∀ i, i < t.size → 48 ≤ bt t i ∧ bt t i ≤ 57
theorem num_nonneg {t : ByteArray} (h : Digs t) : ∀ i, i ≤ t.size → 0 ≤ num t i
  | 0, _ => Int.le_refl _
  | i + 1, hi => by
    have h1 := num_nonneg h i (by omega)
    have h2 := h i (by omega)
    simp only [num]
    omega
theorem num_mono {t : ByteArray} (h : Digs t) {i : Nat} : ∀ d, i + d ≤ t.size → num t i ≤ num t (i + d)
  | 0, _ => Int.le_refl _
  | d + 1, hd => by
    have h1 := num_mono h (i := i) d (by omega)
    have h2 := num_nonneg h (i + d) (by omega)
    have h3 := h (i + d) (by omega)
    have e : num t (i + (d + 1)) = num t (i + d) * 10 + (bt t ((i + d : Nat) : Int) - 48) := rfl
    rw [e]
    omega
theorem num_big {t : ByteArray} (h : Digs t) (h0 : bt t 0 ≠ 48) : ∀ i, i + 1 ≤ t.size → (10 : Int) ^ i ≤ num t (i + 1)
  | 0, hi => by
    have h1 := h 0 (by omega)
    have e : num t 1 = bt t ((0 : Nat) : Int) - 48 := by simp [num]
    rw [e]
    have e0 : bt t ((0 : Nat) : Int) = bt t 0 := rfl
    rw [e0] at h1 ⊢
    omega
  | i + 1, hi => by
    have h1 := num_big h h0 i (by omega)
    have h2 := h (i + 1) (by omega)
    have e : num t (i + 1 + 1) = num t (i + 1) * 10 + (bt t ((i + 1 : Nat) : Int) - 48) := rfl
    rw [e, Int.pow_succ]
    omega
theorem pow_400 : PW 40 ≤ (10 : Int) ^ 400 := by unfold PW; decide +kernel
theorem num_long {t : ByteArray} (h : Digs t) (h0 : bt t 0 ≠ 48) (hs : 400 < t.size) : 40 < (lim (num t t.size)).length := by
  refine Nat.lt_of_not_le fun hle => ?_
  have h1 := lt_of_lim_len (num_nonneg h t.size (Nat.le_refl _)) hle
  have h2 := num_big h h0 400 (by omega)
  have h3 := num_mono h (i := 400 + 1) (t.size - 401) (by omega)
  rw [show 400 + 1 + (t.size - 401) = t.size by omega] at h3
  have h4 := pow_400
  omega
/-- A prefix is too great: so is the whole. -/
theorem num_over {t : ByteArray} (h : Digs t) {i : Nat} (hi : i ≤ t.size) (ho : 40 < (lim (num t i)).length) : 40 < (lim (num t t.size)).length := by
  refine Nat.lt_of_not_le fun hle => ?_
  have h1 := lt_of_lim_len (num_nonneg h t.size (Nat.le_refl _)) hle
  have h3 := num_mono h (i := i) (t.size - i) (by omega)
  rw [show i + (t.size - i) = t.size by omega] at h3
  have := lim_len_le (num_nonneg h i hi) (show num t i < PW 40 by omega)
  omega
open Classical in
/-- What a text's sign and digits come to. -/
noncomputable def readR (m : Bool) (t : ByteArray) : Int × Bool × List Int :=
  if t.size = 0 ∨ (bt t 0 = 48 ∧ (1 < t.size ∨ m = true)) ∨ ¬ Digs t then (1, false, []) else bgRes (if m = true then -num t t.size else num t t.size)
theorem bgRes_len40 (z : Int) : (bgRes z).2.2.length ≤ 1048576 := by
  unfold bgRes
  split
  · simp
  · simp only; omega
theorem readR_len (m : Bool) (t : ByteArray) : (readR m t).2.2.length ≤ 1048576 := by
  unfold readR
  split
  · exact Nat.zero_le _
  · exact bgRes_len40 _
/-- One limb of the tenfold. -/
theorem ten_step {o a : List Int} {k : Nat} {c d : Int} (hk : k < o.length) (he : lmb o k = lmb a k) (hv : vt o k + c * PW k = vt a k * 10 + d) :
    vt (o.set k ((lmb a k * 10 + c) % 4294967296)) (k + 1) + (lmb a k * 10 + c) / 4294967296 * PW (k + 1) = vt a (k + 1) * 10 + d := by
  have e0 : vt (o.set k ((lmb a k * 10 + c) % 4294967296)) (k + 1) = vt o k + (lmb a k * 10 + c) % 4294967296 * PW k := by
    simp only [vt]
    rw [lmb_set_same hk, vt_set hk, if_neg (by omega)]
  rw [e0, PW_succ]
  simp only [vt]
  generalize lmb a k = x at *
  generalize PW k = P at *
  have e : x * 10 + c = 4294967296 * ((x * 10 + c) / 4294967296) + (x * 10 + c) % 4294967296 := by omega
  generalize (x * 10 + c) / 4294967296 = q at *
  generalize (x * 10 + c) % 4294967296 = r at *
  have e2 : (x * 10 + c) * P = (4294967296 * q + r) * P := by rw [← e]
  rw [Int.add_mul, Int.add_mul, Int.mul_assoc, Int.mul_assoc, Int.mul_left_comm] at e2
  have e3 : q * (4294967296 * P) = 4294967296 * (q * P) := by rw [Int.mul_left_comm]
  rw [e3, Int.add_mul]
  omega
/-- Limbs whose highest counts are as many as the number's. -/
theorem lim_len_of {l : List Int} (hu : Us l) (ht : 0 < l.length → PW (l.length - 1) ≤ val l) : (lim (val l)).length = l.length := by
  have h1 := lim_len_le (val_nonneg hu) (val_lt hu)
  by_cases h0 : l.length = 0
  · omega
  · have h2 := ht (by omega)
    by_cases h3 : (lim (val l)).length ≤ l.length - 1
    · have := lt_of_lim_len (val_nonneg hu) h3
      omega
    · omega

end Go.Proofs.Ytajmeeppigdjnaa
