/- Great numbers as whole numbers: sums, products, their signs and sizes. No program is named here. -/
import Derived.Test.YtajmeeppigdjnaaBigMulN
namespace Go.Proofs.Ytajmeeppigdjnaa
set_option linter.unusedVariables false
set_option linter.unusedSimpArgs false

/-- A great number that has no fault. -/
def Good (m : Bool) (l : List Int) : Prop := Us l ∧ bgFault m l = false
theorem Good.len {m : Bool} {l : List Int} (h : Good m l) : l.length ≤ 40 := (bgFault_no h.2).1
theorem Good.top {m : Bool} {l : List Int} (h : Good m l) : Top l := (bgFault_no h.2).2.1
theorem Good.pos {m : Bool} {l : List Int} (h : Good m l) (hp : l.length ≠ 0) : 0 < val l := by
  have h1 := top_le h.1 h.top (by omega)
  have h2 := PW_pos (l.length - 1)
  omega
theorem good_nil : Good false [] := ⟨Us.nil, rfl⟩
/-- The size of a whole number. -/
def ab (z : Int) : Int := if z < 0 then -z else z
theorem ab_nonneg (z : Int) : 0 ≤ ab z := by unfold ab; split <;> omega
theorem ab_neg (z : Int) : ab (-z) = ab z := by unfold ab; split <;> split <;> omega
theorem lims_ab (z : Int) : lims z = lim (ab z) := rfl
theorem ab_big {m : Bool} {l : List Int} (h : Us l) : ab (big m l) = val l := by
  have h0 := val_nonneg h
  unfold ab big
  cases m <;> simp <;> omega
theorem sgn_big {m : Bool} {l : List Int} (h : Good m l) : sgn (big m l) = m := by
  have h0 := val_nonneg h.1
  cases m with
  | false => simp [sgn, big]; omega
  | true =>
    have hp := h.pos (fun e => by have := (bgFault_no h.2).2.2 e; cases this)
    simp [sgn, big]; omega
theorem lims_big {m : Bool} {l : List Int} (h : Good m l) : lims (big m l) = l := by
  rw [lims_ab, ab_big h.1]
  exact lim_val h.1 h.top
theorem big_lims (z : Int) : big (sgn z) (lims z) = z := by
  rw [lims_ab]
  unfold big sgn
  rw [val_lim (ab_nonneg z)]
  unfold ab
  by_cases h : z < 0 <;> simp [h]
theorem lims_nil {z : Int} : (lims z).length = 0 ↔ z = 0 := by
  rw [lims_ab, List.length_eq_zero_iff, lim_eq_nil (ab_nonneg z)]
  unfold ab
  split <;> omega
theorem good_lims {z : Int} (h : (lims z).length ≤ 40) : Good (sgn z) (lims z) := by
  refine ⟨us_lim _, ?_⟩
  unfold bgFault
  by_cases h0 : (lims z).length = 0
  · rw [if_pos h0]
    have := lims_nil.1 h0
    subst this
    rfl
  · rw [if_neg h0]
    have ht : lmb (lims z) ((lims z).length - 1) ≠ 0 := top_lim (ab z) (by rw [← lims_ab]; omega)
    simp [ht]
    omega
theorem good_ext {m m' : Bool} {l l' : List Int} (h : Good m l) (h' : Good m' l') (e : big m l = big m' l') : m = m' ∧ l = l' :=
  ⟨by rw [← sgn_big h, e, sgn_big h'], by rw [← lims_big h, e, lims_big h']⟩
theorem lt_ab {m : Bool} {l : List Int} (h : Good m l) : ab (big m l) < PW l.length := by rw [ab_big h.1]; exact val_lt h.1
theorem lt_ab40 {m : Bool} {l : List Int} (h : Good m l) : ab (big m l) < PW 40 := Int.lt_of_lt_of_le (lt_ab h) (PW_mono h.len)
theorem lims_le {z : Int} {n : Nat} (h : ab z < PW n) : (lims z).length ≤ n := lim_len_le (ab_nonneg z) h
theorem lims_over {z : Int} {n : Nat} (h : n < (lims z).length) : PW n ≤ ab z := by
  refine Int.not_lt.1 fun hn => ?_
  have := lims_le hn
  omega

theorem bgRes_fit {z : Int} (h : (lims z).length ≤ 40) : bgRes z = (0, sgn z, lims z) := if_neg (by omega)
theorem bgRes_over {z : Int} (h : 40 < (lims z).length) : bgRes z = (2, false, []) := if_pos h
theorem bgRes_big {m : Bool} {l : List Int} (h : Good m l) : bgRes (big m l) = (0, m, l) := by
  rw [bgRes_fit (by rw [lims_big h]; exact h.len), sgn_big h, lims_big h]
theorem bgAdd_good {m m' : Bool} {l l' : List Int} (h : Good m l) (h' : Good m' l') : bgAdd m l m' l' = bgRes (big m l + big m' l') := by unfold bgAdd; rw [h.2, h'.2]; rfl
theorem bgSub_good {m m' : Bool} {l l' : List Int} (h : Good m l) (h' : Good m' l') : bgSub m l m' l' = bgRes (big m l - big m' l') := by unfold bgSub; rw [h.2, h'.2]; rfl
theorem bgMul_good {m m' : Bool} {l l' : List Int} (h : Good m l) (h' : Good m' l') : bgMul m l m' l' = bgRes (big m l * big m' l') := by unfold bgMul; rw [h.2, h'.2]; rfl
theorem cmpI_neg (x y : Int) : cmpI (-x) (-y) = cmpI y x := by
  unfold cmpI
  by_cases h1 : y < x
  · rw [if_pos (show -x < -y by omega), if_pos h1]
  · rw [if_neg (show ¬ -x < -y by omega), if_neg h1]
    by_cases h2 : x < y
    · rw [if_pos (show -y < -x by omega), if_pos h2]
    · rw [if_neg (show ¬ -y < -x by omega), if_neg h2]
theorem bgCmp_good {m m' : Bool} {l l' : List Int} (h : Good m l) (h' : Good m' l') : bgCmp m l m' l' = cmpI (big m l) (big m' l') := by
  have h0 := val_nonneg h.1
  have h1 := val_nonneg h'.1
  unfold bgCmp
  rw [h.2, h'.2]
  simp only [Bool.or_self, Bool.false_eq_true, if_false]
  cases m with
  | false =>
    cases m' with
    | false => simp [big]
    | true =>
      have hp := h'.pos (fun e => by have := (bgFault_no h'.2).2.2 e; cases this)
      simp [big]
      unfold cmpI
      rw [if_neg (by omega), if_pos (by omega)]
  | true =>
    have hp := h.pos (fun e => by have := (bgFault_no h.2).2.2 e; cases this)
    cases m' with
    | false =>
      simp [big]
      unfold cmpI
      rw [if_pos (by omega)]
    | true => simp [big, cmpI_neg]
theorem cmpI_self (x : Int) : cmpI x x = 0 := by unfold cmpI; simp
theorem bgCmp_self {m : Bool} {l : List Int} (h : Good m l) : bgCmp m l m l = 0 := by rw [bgCmp_good h h, cmpI_self]
theorem cmpI_lt (x y : Int) : (cmpI x y < 0) ↔ x < y := by
  unfold cmpI
  split
  · simp_all
  · split <;> simp_all
theorem cmpI_eq (x y : Int) : (cmpI x y = 0) ↔ x = y := by
  unfold cmpI
  split
  · constructor
    · intro h; omega
    · intro h; omega
  · split
    · constructor
      · intro h; omega
      · intro h; omega
    · constructor
      · intro _; omega
      · intro _; rfl

/-- A sum is too large: one of the two has all limbs. -/
theorem add_over {m m' : Bool} {l l' : List Int} (h : Good m l) (h' : Good m' l') (ho : 40 < (lims (big m l + big m' l')).length) : ¬ (l.length < 40 ∧ l'.length < 40) := by
  rintro ⟨h1, h2⟩
  have a := Int.lt_of_lt_of_le (lt_ab h) (PW_mono (show l.length ≤ 39 by omega))
  have b := Int.lt_of_lt_of_le (lt_ab h') (PW_mono (show l'.length ≤ 39 by omega))
  have c := lims_over ho
  rw [show (40 : Nat) = 39 + 1 from rfl, PW_succ] at c
  have p := PW_pos 39
  generalize PW 39 = P at *
  generalize big m l = x at *
  generalize big m' l' = y at *
  unfold ab at a b c
  split at a <;> split at b <;> split at c <;> omega
theorem ab_mul (x y : Int) : ab (x * y) = ab x * ab y := by
  have h : ∀ z : Int, ab z = z.natAbs := fun z => by unfold ab; split <;> omega
  rw [h, h, h, Int.natAbs_mul, Int.natCast_mul]
theorem mul_size {m m' : Bool} {l l' : List Int} (h : Good m l) (h' : Good m' l') : ab (big m l * big m' l') < PW (l.length + l'.length) := by
  rw [ab_mul, ab_big h.1, ab_big h'.1]
  exact mul_lt h.1 h'.1 l.length
theorem mul_len {m m' : Bool} {l l' : List Int} (h : Good m l) (h' : Good m' l') : (lims (big m l * big m' l')).length ≤ l.length + l'.length := lims_le (mul_size h h')
theorem mul_len_ge {m m' : Bool} {l l' : List Int} (h : Good m l) (h' : Good m' l') (h0 : l.length ≠ 0) (h1 : l'.length ≠ 0) : l.length + l'.length - 1 ≤ (lims (big m l * big m' l')).length := by
  refine Nat.le_of_not_lt fun hn => ?_
  have a := top_le h.1 h.top (by omega)
  have b := top_le h'.1 h'.top (by omega)
  have c : ab (big m l * big m' l') < PW (l.length + l'.length - 2) := by
    refine Int.not_le.1 fun hc => ?_
    have d : ab (big m l * big m' l') < PW (lims (big m l * big m' l')).length := lt_of_lim_len (ab_nonneg _) (Nat.le_refl _)
    have e := PW_mono (show (lims (big m l * big m' l')).length ≤ l.length + l'.length - 2 by omega)
    omega
  rw [ab_mul, ab_big h.1, ab_big h'.1, show l.length + l'.length - 2 = (l.length - 1) + (l'.length - 1) by omega, PW_add] at c
  have d : PW (l.length - 1) * PW (l'.length - 1) ≤ val l * val l' := Int.mul_le_mul a b (Int.le_of_lt (PW_pos _)) (val_nonneg h.1)
  omega
theorem mul_nil {m m' : Bool} {l l' : List Int} (h : Good m l) (h' : Good m' l') : (lims (big m l * big m' l')).length = 0 ↔ l.length = 0 ∨ l'.length = 0 := by
  rw [lims_nil, Int.mul_eq_zero, ← lims_nil, ← lims_nil, lims_big h, lims_big h']
theorem sub_sign {x y : Int} : decide (cmpI x y < 0) = sgn (x - y) := by
  unfold sgn
  rw [decide_eq_decide, cmpI_lt]
  omega
theorem sub_nil {x y : Int} : cmpI x y = 0 ↔ (lims (x - y)).length = 0 := by
  rw [cmpI_eq, lims_nil]
  omega

end Go.Proofs.Ytajmeeppigdjnaa
