/- Decimal digits of a number, told plainly. No program is named here. -/
import Derived.Test.YtajmeeppigdjnaaBigM
namespace Go.Proofs.Ytajmeeppigdjnaa
set_option linter.unusedVariables false

/-- The decimal digits, highest first, as bytes. -/
def decD (n : Nat) : List UInt8 := if h : n < 10 then [UInt8.ofNat (48 + n)] else decD (n / 10) ++ [UInt8.ofNat (48 + n % 10)]
termination_by n
decreasing_by omega
theorem decD_lt {n : Nat} (h : n < 10) : decD n = [UInt8.ofNat (48 + n)] := by rw [decD, dif_pos h]
theorem decD_ge {n : Nat} (h : ¬ n < 10) : decD n = decD (n / 10) ++ [UInt8.ofNat (48 + n % 10)] := by rw [decD, dif_neg h]
/-- The number of digits, lowest first. -/
def dval : List Nat → Nat
  | [] => 0
  | d :: ds => d + 10 * dval ds
theorem dval_pos : ∀ {ds : List Nat}, (∀ h : ds ≠ [], ds.getLast h ≠ 0) → ds ≠ [] → 0 < dval ds
  | [], _, h => absurd rfl h
  | [d], hl, h => by
    have := hl h
    simp at this
    simp only [dval]
    omega
  | d :: e :: ds, hl, h => by
    have ih := dval_pos (ds := e :: ds) (fun h' => by have := hl h; simpa using this) (by simp)
    simp only [dval] at ih ⊢
    omega
theorem dec_rev : ∀ {ds : List Nat}, (∀ d ∈ ds, d < 10) → (∀ h : ds ≠ [], ds.getLast h ≠ 0) → ds ≠ [] → (ds.map fun d => UInt8.ofNat (48 + d)).reverse = decD (dval ds)
  | [], _, _, h => absurd rfl h
  | [d], hd, _, _ => by
    have := hd d (by simp)
    simp only [dval, List.map_cons, List.map_nil, List.reverse_singleton, Nat.mul_zero, Nat.add_zero]
    rw [decD_lt this]
  | d :: e :: ds, hd, hl, _ => by
    have h0 := hd d (by simp)
    have hl' : ∀ h : (e :: ds) ≠ [], (e :: ds).getLast h ≠ 0 := fun h' => by have := hl (by simp); simpa using this
    have ih := dec_rev (ds := e :: ds) (fun x hx => hd x (List.mem_cons_of_mem _ hx)) hl' (by simp)
    have hp := dval_pos hl' (by simp)
    have e1 : dval (d :: e :: ds) = d + 10 * dval (e :: ds) := rfl
    rw [e1, decD_ge (by omega), List.map_cons, List.reverse_cons, ih, show (d + 10 * dval (e :: ds)) / 10 = dval (e :: ds) by omega, show (d + 10 * dval (e :: ds)) % 10 = d by omega]

theorem decD_len : ∀ (k : Nat) {n : Nat}, n < 10 ^ (k + 1) → (decD n).length ≤ k + 1
  | 0, n, h => by
    rw [decD_lt (by simpa using h)]
    simp
  | k + 1, n, h => by
    by_cases hn : n < 10
    · rw [decD_lt hn]; simp
    · rw [decD_ge hn, List.length_append, List.length_singleton]
      have h1 : n / 10 < 10 ^ (k + 1) := by
        rw [Nat.pow_succ] at h
        omega
      have := decD_len k h1
      omega
theorem PW40_pow : PW 40 ≤ (10 : Int) ^ (399 + 1) := by unfold PW; decide +kernel
theorem lt_pow10 {n e : Nat} (h : (n : Int) < (10 : Int) ^ e) : n < 10 ^ e := by exact_mod_cast h
theorem decD_lenE {n : Nat} (e : Nat) (h : (n : Int) < (10 : Int) ^ (e + 1)) : (decD n).length ≤ e + 1 := decD_len e (lt_pow10 h)
theorem decD_len40 {n : Nat} (h : (n : Int) < PW 40) : (decD n).length ≤ 400 := decD_lenE 399 (Int.lt_of_lt_of_le h PW40_pow)

end Go.Proofs.Ytajmeeppigdjnaa
