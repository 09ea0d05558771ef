/- Digits in groups of nine, laid one behind the other, lowest first. No program is named here. -/
import Derived.Test.YtajmeeppigdjnaaDecN
namespace Go.Proofs.Ytajmeeppigdjnaa
set_option linter.unusedVariables false
set_option linter.unusedSimpArgs false

/-- The digits as characters. -/
def chs (ds : List Nat) : List Int := ds.map fun d : Nat => 48 + (d : Int)
theorem chs_length (ds : List Nat) : (chs ds).length = ds.length := by simp [chs]
theorem chs_snoc (ds : List Nat) (d : Nat) : chs ds ++ [48 + (d : Int)] = chs (ds ++ [d]) := by simp [chs]
theorem dval_append : ∀ (a b : List Nat), dval (a ++ b) = dval a + 10 ^ a.length * dval b
  | [], b => by simp [dval]
  | d :: a, b => by
    have ih := dval_append a b
    simp only [List.cons_append, dval, List.length_cons, Nat.pow_succ]
    rw [ih, Nat.mul_add, Nat.mul_assoc, Nat.mul_comm (10 ^ a.length) (10 * dval b), Nat.mul_assoc, Nat.mul_comm (dval b)]
    omega
theorem dval_snoc (a : List Nat) (d : Nat) : dval (a ++ [d]) = dval a + 10 ^ a.length * d := by
  rw [dval_append]
  simp [dval]
/-- One digit more. -/
theorem dig_step {ds : List Nat} {n r : Nat} {R Z : Int} (hn : ds.length = n) (h : (dval ds : Int) + 10 ^ n * (r : Int) + R = Z) :
    (dval (ds ++ [r % 10]) : Int) + 10 ^ (n + 1) * ((r / 10 : Nat) : Int) + R = Z := by
  rw [← h, dval_snoc, hn]
  have e0 : ((dval ds + 10 ^ n * (r % 10) : Nat) : Int) = (dval ds : Int) + 10 ^ n * ((r % 10 : Nat) : Int) := by
    rw [Int.natCast_add, Int.natCast_mul, Int.natCast_pow]
    rfl
  rw [e0]
  have e : (r : Int) = ((r % 10 : Nat) : Int) + 10 * ((r / 10 : Nat) : Int) := by omega
  have e2 : (10 : Int) ^ n * (r : Int) = 10 ^ n * ((r % 10 : Nat) : Int) + 10 ^ n * (10 * ((r / 10 : Nat) : Int)) := by rw [← Int.mul_add, ← e]
  rw [e2, Int.pow_succ, Int.mul_assoc]
  omega
theorem dig_small {k r : Nat} (hk : k < 9) (h : r < 10 ^ (9 - k)) : r / 10 < 10 ^ (9 - (k + 1)) := by
  rw [show 9 - k = 9 - (k + 1) + 1 by omega, Nat.pow_succ] at h
  omega
/-- Not more groups than that. -/
theorem dig_few {ds : List Nat} {n e : Nat} {V Z : Int} (hz : Z < (10 : Int) ^ e) (hv : 0 < V) (h : (dval ds : Int) + 10 ^ n * V = Z) : n < e := by
  refine Nat.lt_of_not_le fun hn => ?_
  have h1 : (10 : Int) ^ e ≤ 10 ^ n := by
    have := Nat.pow_le_pow_right (show 0 < 10 by decide) hn
    exact_mod_cast this
  have h3 : (0 : Int) ≤ 10 ^ n := by
    have := Nat.zero_le (10 ^ n)
    exact_mod_cast this
  have h2 : (10 : Int) ^ n * 1 ≤ 10 ^ n * V := Int.mul_le_mul_of_nonneg_left (by omega) h3
  omega
theorem dval_take_zero {ds : List Nat} {n : Nat} (hn : n < ds.length) (hz : ds[n] = 0) : dval (ds.take (n + 1)) = dval (ds.take n) := by
  rw [List.take_succ_eq_append_getElem hn, dval_snoc, hz]
  omega
def chr8 (d : Nat) : UInt8 := UInt8.ofNat (48 + d)
theorem rev_step {ds : List Nat} {n i : Nat} (hi : i < n) (hn : n ≤ ds.length) (pre : List UInt8) :
    (pre ++ (((ds.take n).drop (i + 1)).map chr8).reverse) ++ [chr8 (ds[i]'(by omega))] = pre ++ (((ds.take n).drop i).map chr8).reverse := by
  have hl : i < (ds.take n).length := by rw [List.length_take]; omega
  have hd : (ds.take n).drop i = ds[i]'(by omega) :: (ds.take n).drop (i + 1) := by
    rw [List.drop_eq_getElem_cons hl]
    simp
  rw [hd, List.map_cons, List.reverse_cons, List.append_assoc]
theorem dec_take {ds : List Nat} {n : Nat} (hd : ∀ d ∈ ds, d < 10) (hn : n < ds.length) (hz : ds[n] ≠ 0) : ((ds.take (n + 1)).map chr8).reverse = decD (dval (ds.take (n + 1))) := by
  have hd' : ∀ d ∈ ds.take (n + 1), d < 10 := fun d h => hd d (List.mem_of_mem_take h)
  rw [List.take_succ_eq_append_getElem hn] at hd' ⊢
  have hz' : ds[n] ≠ 0 := hz
  generalize ds[n] = x at *
  generalize ds.take n = t at *
  exact dec_rev hd' (fun h => by simpa using hz') (by simp)

end Go.Proofs.Ytajmeeppigdjnaa
