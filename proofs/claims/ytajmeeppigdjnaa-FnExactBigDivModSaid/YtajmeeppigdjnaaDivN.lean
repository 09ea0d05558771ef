/- Division bit by bit, told in whole numbers; quotients and remainders of great numbers. No program is named here. -/
import Derived.Test.YtajmeeppigdjnaaBigM
import Derived.Laws.BitsLemmas
namespace Go.Proofs.Ytajmeeppigdjnaa
open Go.RowKit
set_option linter.unusedVariables false
set_option linter.unusedSimpArgs false

theorem PW_two (j : Nat) : PW j = ((2 ^ (32 * j) : Nat) : Int) := by
  unfold PW
  rw [Nat.pow_mul]
  rw [Int.natCast_pow]
  rfl
/-- Limb j of a number. -/
theorem lmb_of_val : ∀ {l : List Int} (hu : Us l) (j : Nat), lmb l j = val l / PW j % 4294967296
  | [], _, j => by simp [lmb, val_nil]
  | x :: l, hu, 0 => by
    have h := hu x (by simp)
    rw [val_cons, PW_zero, Int.ediv_one]
    have : lmb (x :: l) 0 = x := rfl
    rw [this]
    omega
  | x :: l, hu, j + 1 => by
    have h := hu x (by simp)
    have ih := lmb_of_val hu.tail j
    have e : lmb (x :: l) (j + 1) = lmb l j := by simp [lmb]
    have e2 : (x + 4294967296 * val l) / 4294967296 = val l := by omega
    have e3 : (x + 4294967296 * val l) / (4294967296 * PW j) = (x + 4294967296 * val l) / 4294967296 / PW j := by rw [Int.ediv_ediv]; simp
    rw [e, ih, val_cons, PW_succ, e3, e2]
theorem lmb_nat {l : List Int} (hu : Us l) {n : Nat} (hn : val l = n) (j : Nat) : lmb l j = ((n / 2 ^ (32 * j) % 2 ^ 32 : Nat) : Int) := by
  rw [lmb_of_val hu, hn, PW_two]
  rfl
theorem mod_div_two (x : Nat) {s : Nat} (hs : s < 32) : x % 2 ^ 32 / 2 ^ s % 2 = x / 2 ^ s % 2 := by
  have h := Nat.testBit_mod_two_pow x 32 s
  rw [Nat.testBit_eq_decide_div_mod_eq, Nat.testBit_eq_decide_div_mod_eq] at h
  have h1 : x % 2 ^ 32 / 2 ^ s % 2 < 2 := Nat.mod_lt _ (by decide)
  have h2 : x / 2 ^ s % 2 < 2 := Nat.mod_lt _ (by decide)
  have h3 : x % 2 ^ 32 / 2 ^ s % 2 = 1 ↔ x / 2 ^ s % 2 = 1 := by simpa [hs] using h
  omega
theorem split32 (i : Nat) : 32 * (i / 32) + i % 32 = i := by omega
/-- Bit i of a number. -/
theorem bit_at {l : List Int} (hu : Us l) {n : Nat} (hn : val l = n) (i : Nat) : lmb l (i / 32) / ((2 ^ (i % 32) : Nat) : Int) % 2 = ((n / 2 ^ i % 2 : Nat) : Int) := by
  rw [lmb_nat hu hn]
  have h := mod_div_two (n / 2 ^ (32 * (i / 32))) (Nat.mod_lt i (show 0 < 32 by decide))
  rw [Nat.div_div_eq_div_mul, ← Nat.pow_add, split32] at h
  rw [← h]
  rfl
theorem wraps_u32 (n : Int) (h0 : 0 ≤ n) (h1 : n < 2 ^ 32) : IntKind.u32.wrap n = n := by
  simp [IntKind.wrap, IntKind.signed, IntKind.bits]
  omega
/-- A bit is set, the lower ones being nought. -/
theorem set_bit_js {q : List Int} (hu : Us q) {Q j s : Nat} (hs : s < 32) (hv : val q = ((Q * 2 ^ (32 * j + s + 1) : Nat) : Int)) (hj : j < q.length) :
    Go.bits .or .u32 (lmb q j) ((2 ^ s : Nat) : Int) = lmb q j + ((2 ^ s : Nat) : Int) ∧ lmb q j + ((2 ^ s : Nat) : Int) < 4294967296 ∧ val (q.set j (lmb q j + ((2 ^ s : Nat) : Int))) = ((Q * 2 ^ (32 * j + s + 1) + 2 ^ (32 * j + s) : Nat) : Int) := by
  have hL := lmb_nat hu hv j
  have e1 : Q * 2 ^ (32 * j + s + 1) / 2 ^ (32 * j) = Q * 2 ^ (s + 1) := by
    rw [show 32 * j + s + 1 = (s + 1) + 32 * j by omega, Nat.pow_add, ← Nat.mul_assoc, Nat.mul_div_cancel _ (Nat.two_pow_pos _)]
  rw [e1] at hL
  have hm : Q * 2 ^ (s + 1) % 2 ^ 32 % 2 ^ (s + 1) = 0 := by
    rw [Nat.mod_mod_of_dvd _ (Nat.pow_dvd_pow 2 (by omega)), Nat.mul_mod_left]
  have hlt : Q * 2 ^ (s + 1) % 2 ^ 32 < 2 ^ 32 := Nat.mod_lt _ (Nat.two_pow_pos _)
  rw [hL]
  rw [val_set hj, hL]
  generalize Q * 2 ^ (s + 1) % 2 ^ 32 = L at *
  have hps : 2 ^ s < 2 ^ (s + 1) := Nat.pow_lt_pow_right (by decide) (by omega)
  have hle : L + 2 ^ (s + 1) ≤ 2 ^ 32 := by
    obtain ⟨k, rfl⟩ := Nat.dvd_of_mod_eq_zero hm
    have e : 2 ^ 32 = 2 ^ (s + 1) * 2 ^ (31 - s) := by rw [← Nat.pow_add, show s + 1 + (31 - s) = 32 by omega]
    rw [e] at hlt ⊢
    have := Nat.lt_of_mul_lt_mul_left hlt
    calc 2 ^ (s + 1) * k + 2 ^ (s + 1) = 2 ^ (s + 1) * (k + 1) := by rw [Nat.mul_add, Nat.mul_one]
      _ ≤ 2 ^ (s + 1) * 2 ^ (31 - s) := Nat.mul_le_mul_left _ this
  refine ⟨?_, ?_, ?_⟩
  · refine bits_join .u32 32 (by decide) wraps_u32 (s + 1) (L : Int) ((2 ^ s : Nat) : Int) (by omega) ?_ ?_ (by omega) ?_ ?_
    · have : ((L % 2 ^ (s + 1) : Nat) : Int) = 0 := by rw [hm]; rfl
      rw [Int.natCast_emod, Int.natCast_pow] at this
      exact this
    · exact_mod_cast hlt
    · exact_mod_cast hps
    · have : 2 ^ s < 2 ^ 32 := by omega
      exact_mod_cast this
  · have : L + 2 ^ s < 2 ^ 32 := by omega
    have h2 : ((L + 2 ^ s : Nat) : Int) < ((2 ^ 32 : Nat) : Int) := Int.ofNat_lt.2 this
    rw [Int.natCast_add] at h2
    exact h2
  · rw [hv, PW_two, show (L : Int) + ((2 ^ s : Nat) : Int) - (L : Int) = ((2 ^ s : Nat) : Int) by omega, ← Int.natCast_mul, ← Nat.pow_add, ← Int.natCast_add, Nat.add_comm s (32 * j)]
/-- Bit i is set, the lower ones being nought. -/
theorem set_bit {q : List Int} (hu : Us q) {Q i : Nat} (hv : val q = ((Q * 2 ^ (i + 1) : Nat) : Int)) (hi : i / 32 < q.length) :
    Go.bits .or .u32 (lmb q (i / 32)) ((2 ^ (i % 32) : Nat) : Int) = lmb q (i / 32) + ((2 ^ (i % 32) : Nat) : Int) ∧ lmb q (i / 32) + ((2 ^ (i % 32) : Nat) : Int) < 4294967296 ∧ val (q.set (i / 32) (lmb q (i / 32) + ((2 ^ (i % 32) : Nat) : Int))) = ((Q * 2 ^ (i + 1) + 2 ^ i : Nat) : Int) := by
  have h := set_bit_js hu (Q := Q) (j := i / 32) (s := i % 32) (Nat.mod_lt i (by decide)) (by rw [split32]; exact hv) hi
  rw [split32] at h
  exact h
/-- One bit of a division. -/
theorem div_bit {n d i : Nat} (hd : 0 < d) :
    (d ≤ 2 * (n / 2 ^ (i + 1) % d) + n / 2 ^ i % 2 → n / 2 ^ i / d = 2 * (n / 2 ^ (i + 1) / d) + 1 ∧ n / 2 ^ i % d = 2 * (n / 2 ^ (i + 1) % d) + n / 2 ^ i % 2 - d) ∧
    (2 * (n / 2 ^ (i + 1) % d) + n / 2 ^ i % 2 < d → n / 2 ^ i / d = 2 * (n / 2 ^ (i + 1) / d) ∧ n / 2 ^ i % d = 2 * (n / 2 ^ (i + 1) % d) + n / 2 ^ i % 2) := by
  have e : n / 2 ^ (i + 1) = n / 2 ^ i / 2 := by rw [Nat.pow_succ, Nat.div_div_eq_div_mul]
  rw [e]
  generalize n / 2 ^ i = Y
  have h1 := Nat.div_add_mod (Y / 2) d
  have h2 := Nat.mod_lt (Y / 2) hd
  have h3 : Y = 2 * (Y / 2) + Y % 2 := by omega
  generalize Y / 2 / d = Q at *
  generalize Y / 2 % d = R at *
  have h4 : Y = d * (2 * Q) + (2 * R + Y % 2) := by
    rw [Nat.mul_left_comm]
    omega
  have h5 : Y % 2 < 2 := Nat.mod_lt _ (by decide)
  generalize Y % 2 = b at *
  constructor
  · intro hc
    have h6 : Y = (2 * R + b - d) + d * (2 * Q + 1) := by
      rw [Nat.mul_add, Nat.mul_one]
      omega
    exact ⟨by rw [h6, Nat.add_mul_div_left _ _ hd, Nat.div_eq_of_lt (by omega), Nat.zero_add], by rw [h6, Nat.add_mul_mod_self_left, Nat.mod_eq_of_lt (by omega)]⟩
  · intro hc
    have h6 : Y = (2 * R + b) + d * (2 * Q) := by omega
    exact ⟨by rw [h6, Nat.add_mul_div_left _ _ hd, Nat.div_eq_of_lt hc, Nat.zero_add], by rw [h6, Nat.add_mul_mod_self_left, Nat.mod_eq_of_lt hc]⟩
theorem lt_two_pow {l : List Int} (hu : Us l) {n : Nat} (hn : val l = n) : n / 2 ^ (32 * l.length) = 0 := by
  have h := val_lt hu
  rw [hn, PW_two] at h
  exact Nat.div_eq_of_lt (by exact_mod_cast h)

/-! ### Quotients and remainders -/
/-- Rounded down: the quotient is one more in size where the signs part and something is left. -/
def dvUp (m m' : Bool) (l l' : List Int) : Bool := (m != m') && decide (0 < val l % val l')
def dvQ (m m' : Bool) (l l' : List Int) : Int := if dvUp m m' l l' = true then val l / val l' + 1 else val l / val l'
def dvR (m m' : Bool) (l l' : List Int) : Int := if dvUp m m' l l' = true then val l' - val l % val l' else val l % val l'
def bgDiv (m : Bool) (l : List Int) (m' : Bool) (l' : List Int) : Int × (Bool × List Int) × (Bool × List Int) :=
  if (bgFault m l || bgFault m' l') = true then (1, (false, []), (false, [])) else if l'.length = 0 then (3, (false, []), (false, []))
  else (0, (((m != m') && decide (0 < (lim (dvQ m m' l l')).length)), lim (dvQ m m' l l')), ((m' && decide (0 < (lim (dvR m m' l l')).length)), lim (dvR m m' l l')))

/-! ### A row of limbs doubled in place -/
theorem dbl_step {l L : List Int} {k : Nat} {c b : Int} (hk : k < l.length) (he : lmb l k = lmb L k) (hv : vt l k + c * PW k = 2 * vt L k + b) :
    vt (l.set k (lmb L k * 2 % 4294967296 + c)) (k + 1) + lmb L k * 2 / 4294967296 * PW (k + 1) = 2 * vt L (k + 1) + b := by
  have e0 : vt (l.set k (lmb L k * 2 % 4294967296 + c)) (k + 1) = vt l k + (lmb L k * 2 % 4294967296 + c) * PW k := by
    simp only [vt]
    rw [lmb_set_same hk, vt_set hk, if_neg (by omega)]
  rw [e0, PW_succ]
  simp only [vt]
  generalize lmb L k = x at *
  have e : x * 2 = 4294967296 * (x * 2 / 4294967296) + x * 2 % 4294967296 := by omega
  generalize x * 2 / 4294967296 = q at *
  generalize x * 2 % 4294967296 = s at *
  generalize PW k = P at *
  have e2 : x * 2 * P = (4294967296 * q + s) * P := by rw [← e]
  rw [Int.add_mul, Int.mul_assoc, Int.mul_assoc 4294967296] at e2
  have e3 : q * (4294967296 * P) = 4294967296 * (q * P) := by rw [Int.mul_left_comm]
  have e4 : x * (2 * P) = 2 * (x * P) := by rw [Int.mul_left_comm]
  rw [e3, Int.add_mul, Int.mul_add]
  omega
theorem dbl_done {l L : List Int} {c b : Int} (hu : Us l) (hU : Us L) (hT : Top L) (hl : l.length = L.length) (hc0 : 0 ≤ c) (hc1 : c < 4294967296) (hb : 0 ≤ b) (hv : val l + c * PW L.length = 2 * val L + b) :
    (0 < c → l ++ [c] = lim (2 * val L + b)) ∧ (¬ 0 < c → l = lim (2 * val L + b)) := by
  constructor
  · intro hc
    have hv2 : val (l ++ [c]) = 2 * val L + b := by rw [val_snoc, hl]; exact hv
    rw [← hv2]
    refine (lim_val (hu.append (Us.cons hc0 hc1 Us.nil)) (fun _ => ?_)).symm
    rw [List.length_append, List.length_singleton, Nat.add_sub_cancel, lmb_append_right (Nat.le_refl _), Nat.sub_self]
    simp [lmb]
    omega
  · intro hc
    obtain rfl : c = 0 := by omega
    have hv2 : val l = 2 * val L + b := by rw [← hv]; omega
    rw [← hv2]
    refine (lim_val hu (fun hp hz => ?_)).symm
    have h1 := top_le hU hT (by omega)
    have h2 := vt_lt hu (l.length - 1)
    have h3 : val l = vt l (l.length - 1) := by
      unfold val
      obtain ⟨m, hm⟩ : ∃ m, l.length = m + 1 := ⟨l.length - 1, by omega⟩
      rw [hm] at hz ⊢
      simp only [Nat.add_sub_cancel] at hz ⊢
      simp only [vt]
      rw [hz]
      omega
    have h4 := PW_pos (L.length - 1)
    rw [hl] at h2 h3
    omega
/-- A limb shifted up by one, with the bit that comes in. -/
theorem or_carry {x c : Int} (h0 : 0 ≤ x) (h1 : x < 4294967296) (c0 : 0 ≤ c) (c1 : c < 2) : Go.bits .or .u32 (x * 2 % 4294967296) c = x * 2 % 4294967296 + c :=
  bits_join .u32 32 (by decide) wraps_u32 1 (x * 2 % 4294967296) c (by omega) (by omega) (by omega) c0 (by omega) (by omega)
theorem half_up (x : Int) : x / 2147483648 = x * 2 / 4294967296 := by omega

end Go.Proofs.Ytajmeeppigdjnaa
