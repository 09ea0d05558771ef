/- Great numbers: faults, values, answers, told as numbers. No program is named here. -/
import Derived.Test.YtajmeeppigdjnaaBigN
import Derived.Test.YtajmeeppigdjnaaWMore
namespace Go.Proofs.Ytajmeeppigdjnaa
open Go.RowKit Go.Proofs.YtajmeeppigdjnaaW.PrintWords Go.Proofs.YtajmeeppigdjnaaW.PrintMore
set_option linter.unusedSimpArgs false

theorem w64_in {x : Int} (h : -9223372036854775808 ≤ x) (h2 : x ≤ 9223372036854775807) : wrap64 x = x := by
  unfold wrap64
  omega
theorem u64_in {x : Int} (h : 0 ≤ x) (h2 : x < 18446744073709551616) : IntKind.u64.wrap x = x := by
  simp [IntKind.wrap, IntKind.signed, IntKind.bits]
  omega
theorem rd_lmb (l : List Int) (i : Int) : rd l i = lmb l i.toNat := rfl
theorem rd_nat (l : List Int) (i : Nat) : rd l (i : Int) = lmb l i := rfl
def bgFault (m : Bool) (l : List Int) : Bool := if l.length = 0 then m else decide (40 < l.length) || (lmb l (l.length - 1) == 0)
theorem bgFault_no {m : Bool} {l : List Int} (h : bgFault m l = false) : l.length ≤ 40 ∧ Top l ∧ (l.length = 0 → m = false) := by
  unfold bgFault at h
  by_cases h0 : l.length = 0
  · rw [if_pos h0] at h
    exact ⟨by omega, fun hp => by omega, fun _ => h⟩
  · rw [if_neg h0] at h
    simp at h
    exact ⟨h.1, fun _ => h.2, fun h => absurd h h0⟩
/-- A whole number. -/
def big (m : Bool) (l : List Int) : Int := if m then -val l else val l
/-- The whole number's sign and limbs. -/
def sgn (z : Int) : Bool := decide (z < 0)
def lims (z : Int) : List Int := lim (if z < 0 then -z else z)
def bgCmp (m : Bool) (l : List Int) (m' : Bool) (l' : List Int) : Int :=
  if (bgFault m l || bgFault m' l') = true then -2 else if (m != m') = true then (if m = true then -1 else 1) else if m = true then cmpI (val l') (val l) else cmpI (val l) (val l')
theorem cmpI_flip (x y : Int) : cmpI y x = -cmpI x y := by
  unfold cmpI
  by_cases h1 : x < y
  · rw [if_pos h1, if_neg (by omega), if_pos h1]; rfl
  · by_cases h2 : y < x
    · rw [if_pos h2, if_neg h1, if_pos h2]
    · rw [if_neg h2, if_neg h1, if_neg h1, if_neg h2]; rfl
theorem cmpI_range (x y : Int) : -1 ≤ cmpI x y ∧ cmpI x y ≤ 1 := by
  unfold cmpI
  split
  · omega
  · split <;> omega
theorem cmp_len_lt {l l' : List Int} (hu : Us l) (hu' : Us l') (ht' : Top l') (h : l.length < l'.length) : cmpI (val l) (val l') = -1 := by
  have h1 := val_lt hu
  have h2 := top_le hu' ht' (by omega)
  have h3 := PW_mono (show l.length ≤ l'.length - 1 by omega)
  unfold cmpI
  rw [if_pos (by omega)]

def smallOf (m : Bool) (u : Int) : Bool × Int :=
  if m = true then (if u ≤ 9223372036854775808 then (true, wrap64 (IntKind.u64.wrap (-u))) else (false, 0)) else (if u < 9223372036854775808 then (true, wrap64 u) else (false, 0))
def bgSmall (m : Bool) (l : List Int) : Bool × Int := if (bgFault m l || decide (2 < l.length)) = true then (false, 0) else smallOf m (val l)
theorem val_two {l : List Int} (h : l.length ≤ 2) : val l = lmb l 0 + lmb l 1 * 4294967296 := by
  rw [← vt_val h]
  simp [vt, PW]
theorem wraps_u64 (n : Int) (h : 0 ≤ n) (h1 : n < 2 ^ 64) : IntKind.u64.wrap n = n := u64_in h (by simpa using h1)
theorem or_join {a b : Int} (a0 : 0 ≤ a) (a1 : a < 4294967296) (b0 : 0 ≤ b) (b1 : b < 4294967296) : Go.bits .or .u64 a (b * 4294967296) = a + b * 4294967296 := by
  have h := bits_join .u64 64 (by decide) wraps_u64 32 (b * 4294967296) a (by omega) (by omega) (by omega) a0 (by omega) (by omega)
  have hc : Go.bits .or .u64 a (b * 4294967296) = Go.bits .or .u64 (b * 4294967296) a := by simp only [Go.bits]; rw [BitVec.or_comm]
  rw [hc, h]
  omega
theorem or_shl {l : List Int} (hu : Us l) {i : Nat} (hi : i < 2) : Go.bits .or .u64 (vt l i) (shl .u64 (lmb l i) (32 * (i : Int))) = vt l (i + 1) := by
  have h0 := lmb_range hu 0
  have h1 := lmb_range hu 1
  obtain rfl | rfl : i = 0 ∨ i = 1 := by omega
  · have e : shl .u64 (lmb l 0) (32 * ((0 : Nat) : Int)) = lmb l 0 := by
      unfold shl
      rw [u64_in] <;> simp <;> omega
    rw [e]
    have h := bits_join .u64 64 (by decide) wraps_u64 32 0 (lmb l 0) (by omega) (by omega) (by omega) h0.1 (by omega) (by omega)
    simp only [vt, PW_zero]
    rw [h]
    omega
  · have e : shl .u64 (lmb l 1) (32 * ((1 : Nat) : Int)) = lmb l 1 * 4294967296 := by
      unfold shl
      rw [show (32 * ((1 : Nat) : Int)).toNat = 32 by decide, show min 32 IntKind.u64.bits = 32 by decide, u64_in] <;> omega
    rw [e]
    have e1 : vt l 1 = lmb l 0 := by simp [vt, PW_zero]
    have e2 : vt l (1 + 1) = lmb l 0 + lmb l 1 * 4294967296 := by simp [vt, PW]
    rw [e1, e2, or_join h0.1 h0.2 h1.1 h1.2]

/-! ### Sums -/
theorem add_out {a b o : List Int} {i : Nat} {c : Int} (ho : o.length = i) (hi : val o + c * PW i = vt a i + vt b i) :
    val (o ++ [(lmb a i + lmb b i + c) % 4294967296]) + (lmb a i + lmb b i + c) / 4294967296 * PW (i + 1) = vt a (i + 1) + vt b (i + 1) := by
  rw [val_snoc, ho, PW_succ]
  simp only [vt]
  generalize lmb a i = x at *
  generalize lmb b i = y at *
  have e : x + y + c = 4294967296 * ((x + y + c) / 4294967296) + (x + y + c) % 4294967296 := by omega
  generalize (x + y + c) / 4294967296 = q at *
  generalize (x + y + c) % 4294967296 = r at *
  have e2 : (x + y + c) * PW i = (4294967296 * q + r) * PW i := by rw [← e]
  rw [Int.add_mul, Int.add_mul, Int.add_mul, Int.mul_assoc] at e2
  have e3 : q * (4294967296 * PW i) = 4294967296 * (q * PW i) := by rw [Int.mul_left_comm]
  rw [e3]
  omega
theorem sub_out {a b o : List Int} {i : Nat} {q : Int} (ho : o.length = i) (hi : val o - q * PW i = vt a i - vt b i) :
    val (o ++ [(lmb a i + 4294967296 - lmb b i - q) % 4294967296]) - (1 - (lmb a i + 4294967296 - lmb b i - q) / 4294967296) * PW (i + 1) = vt a (i + 1) - vt b (i + 1) := by
  rw [val_snoc, ho, PW_succ]
  simp only [vt]
  generalize lmb a i = x at *
  generalize lmb b i = y at *
  have e : x + 4294967296 - y - q = 4294967296 * ((x + 4294967296 - y - q) / 4294967296) + (x + 4294967296 - y - q) % 4294967296 := by omega
  generalize (x + 4294967296 - y - q) / 4294967296 = d at *
  generalize (x + 4294967296 - y - q) % 4294967296 = r at *
  have e2 : (x + 4294967296 - y - q) * PW i = (4294967296 * d + r) * PW i := by rw [← e]
  rw [Int.sub_mul, Int.sub_mul, Int.add_mul, Int.add_mul, Int.mul_assoc] at e2
  have e3 : (1 - d) * (4294967296 * PW i) = 4294967296 * PW i - 4294967296 * (d * PW i) := by rw [Int.sub_mul, Int.one_mul, Int.mul_left_comm]
  rw [e3]
  omega
theorem sub_last {o l0 l1 : List Int} {q : Int} (hu : Us o) (hq : 0 ≤ q) (ho : o.length = l0.length) (hb : l1.length ≤ l0.length) (hle : val l1 ≤ val l0) (hi : val o - q * PW l0.length = vt l0 l0.length - vt l1 l0.length) : val o = val l0 - val l1 := by
  rw [vt_val (l := l0) (Nat.le_refl _), vt_val (l := l1) hb] at hi
  have h2 := val_lt hu
  rw [ho] at h2
  have h7 := PW_pos l0.length
  by_cases hz : q = 0
  · subst hz; omega
  · have : 1 * PW l0.length ≤ q * PW l0.length := Int.mul_le_mul_of_nonneg_right (by omega) (by omega)
    omega
def bgRes (z : Int) : Int × Bool × List Int := if 40 < (lims z).length then (2, false, []) else (0, sgn z, lims z)
def bgAdd (m : Bool) (l : List Int) (m' : Bool) (l' : List Int) : Int × Bool × List Int := if (bgFault m l || bgFault m' l') = true then (1, false, []) else bgRes (big m l + big m' l')
def bgSub (m : Bool) (l : List Int) (m' : Bool) (l' : List Int) : Int × Bool × List Int := if (bgFault m l || bgFault m' l') = true then (1, false, []) else bgRes (big m l - big m' l')
def bgMul (m : Bool) (l : List Int) (m' : Bool) (l' : List Int) : Int × Bool × List Int := if (bgFault m l || bgFault m' l') = true then (1, false, []) else bgRes (big m l * big m' l')
theorem lim_pos {s : Int} (h : 0 ≤ s) : decide (0 < (lim s).length) = decide (0 < s) := by
  rw [decide_eq_decide, List.length_pos_iff, ne_eq, lim_eq_nil h]
  omega
theorem res_done (m : Bool) {s : Int} (h : 0 ≤ s) : bgRes (if m = true then -s else s) = if 40 < (lim s).length then (2, false, []) else (0, m && decide (0 < (lim s).length), lim s) := by
  rw [lim_pos h]
  unfold bgRes lims sgn
  cases m
  · simp only [Bool.false_eq_true, if_false, Bool.false_and]
    rw [if_neg (show ¬ s < 0 by omega)]
    simp [show ¬ s < 0 by omega]
  · simp only [if_true, Bool.true_and]
    by_cases h0 : -s < 0
    · rw [if_pos h0, Int.neg_neg]
      simp [h0, show 0 < s by omega]
    · obtain rfl : s = 0 := by omega
      simp
theorem big_same (m : Bool) (l l' : List Int) : big m l + big m l' = if m = true then -(val l + val l') else val l + val l' := by
  unfold big
  cases m
  · rfl
  · simp only [if_true]; omega
theorem big_less {m m' : Bool} (h : m ≠ m') (l l' : List Int) : big m l + big m' l' = (if m = true then -(val l - val l') else val l - val l') ∧ big m l + big m' l' = if m' = true then -(val l' - val l) else val l' - val l := by
  unfold big
  cases m <;> cases m' <;> simp at h ⊢ <;> omega

end Go.Proofs.Ytajmeeppigdjnaa
