/- Limbs multiplied, told as numbers: one step, one row. No program is named here. -/
import Derived.Test.YtajmeeppigdjnaaBigM
namespace Go.Proofs.Ytajmeeppigdjnaa
set_option linter.unusedVariables false

theorem prod_range {x y : Int} (x0 : 0 ≤ x) (x1 : x < 4294967296) (y0 : 0 ≤ y) (y1 : y < 4294967296) : 0 ≤ x * y ∧ x * y ≤ 18446744065119617025 := by
  refine ⟨Int.mul_nonneg x0 y0, ?_⟩
  have h1 : x * y ≤ 4294967295 * y := Int.mul_le_mul_of_nonneg_right (by omega) y0
  omega
theorem mul_step {o b : List Int} {i k : Nat} {x c T : Int} (hk : i + k < o.length) (hv : val o + c * PW (i + k) = T + x * vt b k * PW i) :
    val (o.set (i + k) ((x * lmb b k + lmb o (i + k) + c) % 4294967296)) + (x * lmb b k + lmb o (i + k) + c) / 4294967296 * PW (i + (k + 1)) = T + x * vt b (k + 1) * PW i := by
  have eP : PW (i + (k + 1)) = 4294967296 * PW (i + k) := by rw [← Nat.add_assoc, PW_succ]
  rw [val_set hk, eP]
  simp only [vt]
  have e1 : x * (vt b k + lmb b k * PW k) * PW i = x * vt b k * PW i + x * lmb b k * PW (i + k) := by
    rw [PW_add, Int.mul_add, Int.add_mul]
    congr 1
    rw [← Int.mul_assoc, Int.mul_assoc, Int.mul_comm (PW k)]
  rw [e1]
  generalize x * vt b k * PW i = q at *
  generalize x * lmb b k = p at *
  generalize lmb o (i + k) = z at *
  generalize PW (i + k) = P at *
  have e : p + z + c = 4294967296 * ((p + z + c) / 4294967296) + (p + z + c) % 4294967296 := by omega
  generalize (p + z + c) / 4294967296 = d at *
  generalize (p + z + c) % 4294967296 = r at *
  have e2 : (p + z + c) * P = (4294967296 * d + r) * P := by rw [← e]
  rw [Int.add_mul, Int.add_mul, Int.add_mul, Int.mul_assoc] at e2
  have e3 : d * (4294967296 * P) = 4294967296 * (d * P) := by rw [Int.mul_left_comm]
  rw [e3, Int.sub_mul]
  omega
/-- A row is done: what the number has come to. -/
theorem mul_row (a b : List Int) (i : Nat) : vt a i * val b + lmb a i * val b * PW i = vt a (i + 1) * val b := by
  simp only [vt]
  rw [Int.add_mul, Int.mul_assoc, Int.mul_assoc, Int.mul_comm (val b)]
theorem mul_lt {a b : List Int} (ha : Us a) (hb : Us b) (i : Nat) : vt a i * val b < PW (i + b.length) := by
  have h1 := vt_lt ha i
  have h2 := val_lt hb
  have h3 := val_nonneg hb
  have h4 := PW_pos i
  rw [PW_add]
  have h5 : vt a i * val b ≤ PW i * val b := Int.mul_le_mul_of_nonneg_right (by omega) h3
  have h6 : PW i * val b < PW i * PW b.length := Int.mul_lt_mul_of_pos_left h2 h4
  omega
/-- Behind the last limb but one no carry is left. -/
theorem mul_carry {o a b : List Int} {i k : Nat} {c : Int} (ha : Us a) (hb : Us b) (hu : Us o) (hk : b.length < k) (hc : 0 ≤ c) (hv : val o + c * PW (i + k) = vt a i * val b + lmb a i * vt b k * PW i) : c = 0 := by
  rw [vt_val (by omega : b.length ≤ k), mul_row] at hv
  have h1 := mul_lt ha hb (i + 1)
  have h2 := val_nonneg hu
  have h3 := PW_mono (show i + 1 + b.length ≤ i + k by omega)
  by_cases h : c = 0
  · exact h
  · have h4 : 1 * PW (i + k) ≤ c * PW (i + k) := Int.mul_le_mul_of_nonneg_right (by omega) (by have := PW_pos (i + k); omega)
    omega

end Go.Proofs.Ytajmeeppigdjnaa
