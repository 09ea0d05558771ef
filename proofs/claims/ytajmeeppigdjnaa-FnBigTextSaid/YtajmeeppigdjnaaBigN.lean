/- Limbs as numbers: what a list of limbs is worth, and the list of a number. No program is named here. -/
import Derived.KernelRfl
namespace Go.Proofs.Ytajmeeppigdjnaa

/-- 2 to the 32, n times. -/
def PW (n : Nat) : Int := 4294967296 ^ n
theorem PW_zero : PW 0 = 1 := rfl
theorem PW_succ (n : Nat) : PW (n + 1) = 4294967296 * PW n := by unfold PW; rw [Int.pow_succ, Int.mul_comm]
theorem PW_pos (n : Nat) : 0 < PW n := by
  induction n with
  | zero => decide
  | succ n ih => rw [PW_succ]; omega
theorem PW_add (a b : Nat) : PW (a + b) = PW a * PW b := by unfold PW; rw [Int.pow_add]
theorem PW_mono {a b : Nat} (h : a ≤ b) : PW a ≤ PW b := by
  obtain ⟨c, rfl⟩ := Nat.exists_eq_add_of_le h
  rw [PW_add]
  have h1 := PW_pos a
  have h2 := PW_pos c
  calc PW a = PW a * 1 := by omega
    _ ≤ PW a * PW c := Int.mul_le_mul_of_nonneg_left (by omega) (by omega)

def lmb (l : List Int) (i : Nat) : Int := l.getD i 0
/-- Each of 32 bits. -/
def Us (l : List Int) : Prop := ∀ x ∈ l, 0 ≤ x ∧ x < 4294967296
theorem Us.nil : Us [] := fun _ h => by cases h
theorem Us.cons {x : Int} {l : List Int} (h0 : 0 ≤ x) (h1 : x < 4294967296) (h : Us l) : Us (x :: l) := fun y hy => by
  rcases List.mem_cons.1 hy with rfl | hy
  · exact ⟨h0, h1⟩
  · exact h y hy
theorem Us.tail {x : Int} {l : List Int} (h : Us (x :: l)) : Us l := fun y hy => h y (by simp [hy])
theorem Us.append {a b : List Int} (h : Us a) (h' : Us b) : Us (a ++ b) := fun y hy => by
  rcases List.mem_append.1 hy with hy | hy
  · exact h y hy
  · exact h' y hy
theorem Us.take {l : List Int} (h : Us l) (n : Nat) : Us (l.take n) := fun y hy => h y (List.mem_of_mem_take hy)
theorem Us.set {l : List Int} (h : Us l) (i : Nat) {x : Int} (h0 : 0 ≤ x) (h1 : x < 4294967296) : Us (l.set i x) := fun y hy => by
  rcases List.mem_or_eq_of_mem_set hy with hy | rfl
  · exact h y hy
  · exact ⟨h0, h1⟩
theorem Us.replicate (n : Nat) : Us (List.replicate n 0) := fun y hy => by
  obtain rfl := List.eq_of_mem_replicate hy
  omega
theorem lmb_range {l : List Int} (h : Us l) (i : Nat) : 0 ≤ lmb l i ∧ lmb l i < 4294967296 := by
  unfold lmb
  by_cases hi : i < l.length
  · rw [List.getD_eq_getElem?_getD, List.getElem?_eq_getElem hi]
    exact h _ (List.getElem_mem hi)
  · rw [List.getD_eq_getElem?_getD, List.getElem?_eq_none (by omega)]
    simp
theorem lmb_over {l : List Int} {i : Nat} (h : l.length ≤ i) : lmb l i = 0 := by simp [lmb, List.getD_eq_getElem?_getD, List.getElem?_eq_none h]
theorem lmb_at {l : List Int} {i : Nat} (h : i < l.length) : lmb l i = l[i] := by simp [lmb, List.getD_eq_getElem?_getD, List.getElem?_eq_getElem h]

/-- The lowest n limbs' worth. -/
def vt (l : List Int) : Nat → Int
  | 0 => 0
  | n + 1 => vt l n + lmb l n * PW n
def val (l : List Int) : Int := vt l l.length
theorem vt_nonneg {l : List Int} (h : Us l) (n : Nat) : 0 ≤ vt l n := by
  induction n with
  | zero => exact Int.le_refl _
  | succ n ih =>
    have := Int.mul_nonneg (lmb_range h n).1 (Int.le_of_lt (PW_pos n))
    simp only [vt]; omega
theorem vt_lt {l : List Int} (h : Us l) (n : Nat) : vt l n < PW n := by
  induction n with
  | zero => simp [vt, PW_zero]
  | succ n ih =>
    have h1 : lmb l n * PW n ≤ 4294967295 * PW n := Int.mul_le_mul_of_nonneg_right (by have := (lmb_range h n).2; omega) (Int.le_of_lt (PW_pos n))
    rw [PW_succ]; simp only [vt]; omega
theorem vt_over {l : List Int} {n m : Nat} (h : l.length ≤ n) (hm : n ≤ m) : vt l m = vt l n := by
  induction m with
  | zero => obtain rfl : n = 0 := by omega
            rfl
  | succ m ih =>
    rcases Nat.lt_or_ge n (m + 1) with h1 | h1
    · simp only [vt]; rw [lmb_over (by omega), ih (by omega)]; omega
    · obtain rfl : n = m + 1 := by omega
      rfl
theorem vt_val {l : List Int} {n : Nat} (h : l.length ≤ n) : vt l n = val l := vt_over (Nat.le_refl _) h
theorem val_nonneg {l : List Int} (h : Us l) : 0 ≤ val l := vt_nonneg h _
theorem val_lt {l : List Int} (h : Us l) : val l < PW l.length := vt_lt h _
theorem lmb_append_left {a b : List Int} {i : Nat} (h : i < a.length) : lmb (a ++ b) i = lmb a i := by
  simp [lmb, List.getD_eq_getElem?_getD, List.getElem?_append_left h]
theorem lmb_append_right {a b : List Int} {i : Nat} (h : a.length ≤ i) : lmb (a ++ b) i = lmb b (i - a.length) := by
  simp [lmb, List.getD_eq_getElem?_getD, List.getElem?_append_right h]
theorem vt_congr {a b : List Int} {n : Nat} (h : ∀ i, i < n → lmb a i = lmb b i) : vt a n = vt b n := by
  induction n with
  | zero => rfl
  | succ n ih => simp only [vt]; rw [ih (fun i hi => h i (by omega)), h n (by omega)]
theorem val_snoc (l : List Int) (x : Int) : val (l ++ [x]) = val l + x * PW l.length := by
  have h1 : vt (l ++ [x]) l.length = val l := vt_congr (fun i hi => lmb_append_left hi)
  have h2 : lmb (l ++ [x]) l.length = x := by rw [lmb_append_right (Nat.le_refl _)]; simp [lmb]
  unfold val
  rw [List.length_append, List.length_singleton]
  simp only [vt]
  rw [h1, h2]; rfl
theorem val_nil : val [] = 0 := rfl
theorem val_one (x : Int) : val [x] = x := by have := val_snoc [] x; simpa [PW_zero, val_nil] using this
theorem vt_cons (x : Int) (l : List Int) (n : Nat) : vt (x :: l) (n + 1) = x + 4294967296 * vt l n := by
  induction n with
  | zero => simp [vt, lmb, PW_zero]
  | succ n ih =>
    have h1 : vt (x :: l) (n + 1 + 1) = vt (x :: l) (n + 1) + lmb (x :: l) (n + 1) * PW (n + 1) := rfl
    have h2 : lmb (x :: l) (n + 1) = lmb l n := by simp [lmb]
    have h3 : lmb l n * (4294967296 * PW n) = 4294967296 * (lmb l n * PW n) := by rw [Int.mul_left_comm]
    rw [h1, ih, h2, PW_succ, h3]
    simp only [vt]
    omega
theorem val_cons (x : Int) (l : List Int) : val (x :: l) = x + 4294967296 * val l := vt_cons x l l.length
theorem val_replicate (n : Nat) : val (List.replicate n 0) = 0 := by
  induction n with
  | zero => rfl
  | succ n ih => rw [List.replicate_succ, val_cons, ih]; omega
theorem lmb_set_same {l : List Int} {i : Nat} (h : i < l.length) (x : Int) : lmb (l.set i x) i = x := by
  simp [lmb, List.getD_eq_getElem?_getD, h]
theorem lmb_set_other {l : List Int} {i j : Nat} (h : i ≠ j) (x : Int) : lmb (l.set i x) j = lmb l j := by
  simp [lmb, List.getD_eq_getElem?_getD, h]
theorem vt_set {l : List Int} {i : Nat} (h : i < l.length) (x : Int) (n : Nat) : vt (l.set i x) n = if i < n then vt l n + (x - lmb l i) * PW i else vt l n := by
  induction n with
  | zero => rfl
  | succ n ih =>
    simp only [vt]
    rw [ih]
    by_cases h1 : i < n
    · rw [if_pos h1, if_pos (by omega), lmb_set_other (by omega)]; omega
    · rw [if_neg h1]
      by_cases h2 : i = n
      · subst h2
        rw [if_pos (by omega), lmb_set_same h, Int.sub_mul]; omega
      · rw [if_neg (by omega), lmb_set_other h2]
theorem val_set {l : List Int} {i : Nat} (h : i < l.length) (x : Int) : val (l.set i x) = val l + (x - lmb l i) * PW i := by
  unfold val
  rw [List.length_set, vt_set h, if_pos h]

/-- The limbs of a number. -/
def limN (n : Nat) : List Int := if h : n = 0 then [] else ((n % 4294967296 : Nat) : Int) :: limN (n / 4294967296)
termination_by n
decreasing_by omega
def lim (z : Int) : List Int := limN z.toNat
theorem limN_zero : limN 0 = [] := by rw [limN]; simp
theorem limN_pos {n : Nat} (h : n ≠ 0) : limN n = ((n % 4294967296 : Nat) : Int) :: limN (n / 4294967296) := by rw [limN, dif_neg h]
theorem val_limN (n : Nat) : val (limN n) = n := by
  induction n using Nat.strongRecOn with
  | _ n ih =>
    by_cases h : n = 0
    · subst h; rw [limN_zero]; rfl
    · rw [limN_pos h, val_cons, ih _ (by omega)]; omega
theorem us_limN (n : Nat) : Us (limN n) := by
  induction n using Nat.strongRecOn with
  | _ n ih =>
    by_cases h : n = 0
    · subst h; rw [limN_zero]; exact Us.nil
    · rw [limN_pos h]; exact Us.cons (by omega) (by omega) (ih _ (by omega))
theorem val_lim {z : Int} (h : 0 ≤ z) : val (lim z) = z := by unfold lim; rw [val_limN]; omega
theorem us_lim (z : Int) : Us (lim z) := us_limN _
theorem lim_zero : lim 0 = [] := limN_zero
/-- No nought on top. -/
def Top (l : List Int) : Prop := 0 < l.length → lmb l (l.length - 1) ≠ 0
theorem top_limN (n : Nat) : Top (limN n) := by
  induction n using Nat.strongRecOn with
  | _ n ih =>
    by_cases h : n = 0
    · subst h; rw [limN_zero]; intro h; simp at h
    · rw [limN_pos h]
      intro _
      by_cases h2 : n / 4294967296 = 0
      · rw [h2, limN_zero]; simp [lmb]; omega
      · have := ih _ (show n / 4294967296 < n by omega)
        have hp : 0 < (limN (n / 4294967296)).length := by rw [limN_pos h2]; simp
        have h3 := this hp
        have e : ((((n % 4294967296 : Nat) : Int) :: limN (n / 4294967296)).length - 1) = ((limN (n / 4294967296)).length - 1) + 1 := by simp; omega
        rw [e]
        simpa [lmb] using h3
theorem top_lim (z : Int) : Top (lim z) := top_limN _
theorem lim_val : ∀ {l : List Int}, Us l → Top l → lim (val l) = l
  | [], _, _ => limN_zero
  | x :: l, hu, ht => by
    have hx := hu x (by simp)
    have hv := val_nonneg hu.tail
    have htl : Top l := by
      intro hp
      have := ht (by simp)
      rw [show (x :: l).length - 1 = (l.length - 1) + 1 by simp; omega] at this
      simpa [lmb] using this
    have ih := lim_val hu.tail htl
    have hne : (val (x :: l)).toNat ≠ 0 := by
      rw [val_cons]
      by_cases hl : l = []
      · subst hl
        have := ht (by simp)
        simp [lmb] at this
        rw [val_nil]; omega
      · have : val l ≠ 0 := by
          intro h0
          rw [h0, lim_zero] at ih
          exact hl ih.symm
        omega
    unfold lim
    rw [limN_pos hne]
    rw [val_cons]
    have e1 : (x + 4294967296 * val l).toNat % 4294967296 = x.toNat := by omega
    have e2 : (x + 4294967296 * val l).toNat / 4294967296 = (val l).toNat := by omega
    rw [e1, e2]
    unfold lim at ih
    rw [ih]
    congr 1
    omega
theorem lim_snoc_zero (l : List Int) : val (l ++ [0]) = val l := by rw [val_snoc]; omega
theorem val_inj {a b : List Int} (ha : Us a) (hb : Us b) (ta : Top a) (tb : Top b) (h : val a = val b) : a = b := by
  rw [← lim_val ha ta, ← lim_val hb tb, h]
/-- As many limbs as it needs. -/
theorem top_le {l : List Int} (hu : Us l) (ht : Top l) (hp : 0 < l.length) : PW (l.length - 1) ≤ val l := by
  obtain ⟨n, hn⟩ : ∃ n, l.length = n + 1 := ⟨l.length - 1, by omega⟩
  have h1 := ht hp
  have h2 := vt_nonneg hu n
  have h3 := lmb_range hu n
  unfold val
  rw [hn] at h1 ⊢
  simp only [Nat.add_sub_cancel] at h1 ⊢
  have h4 : 1 * PW n ≤ lmb l n * PW n := Int.mul_le_mul_of_nonneg_right (by omega) (Int.le_of_lt (PW_pos n))
  simp only [vt]; omega
theorem lim_len_le {z : Int} {n : Nat} (h0 : 0 ≤ z) (h : z < PW n) : (lim z).length ≤ n := by
  rcases Nat.lt_or_ge n (lim z).length with h1 | h1
  · have h2 := top_le (us_lim z) (top_lim z) (by omega)
    rw [val_lim h0] at h2
    have h3 := PW_mono (show n ≤ (lim z).length - 1 by omega)
    omega
  · exact h1
theorem lt_of_lim_len {z : Int} {n : Nat} (h0 : 0 ≤ z) (h : (lim z).length ≤ n) : z < PW n := by
  have h1 := val_lt (us_lim z)
  rw [val_lim h0] at h1
  have := PW_mono h
  omega
theorem lim_eq_nil {z : Int} (h0 : 0 ≤ z) : lim z = [] ↔ z = 0 := by
  constructor
  · intro h
    have := val_lim h0
    rw [h] at this
    rw [← this]; rfl
  · rintro rfl; exact lim_zero

/-! ### Compared -/
def cmpI (x y : Int) : Int := if x < y then -1 else if y < x then 1 else 0
def cmpL (a b : List Int) : Nat → Int
  | 0 => 0
  | i + 1 => if lmb a i < lmb b i then -1 else if lmb b i < lmb a i then 1 else cmpL a b i
theorem cmpL_vt {a b : List Int} (ha : Us a) (hb : Us b) (n : Nat) : cmpL a b n = cmpI (vt a n) (vt b n) := by
  induction n with
  | zero => rfl
  | succ n ih =>
    have a0 := vt_nonneg ha n
    have b0 := vt_nonneg hb n
    have a1 := vt_lt ha n
    have b1 := vt_lt hb n
    have hp := PW_pos n
    simp only [cmpL, vt]
    generalize lmb a n = x at *
    generalize lmb b n = y at *
    by_cases h1 : x < y
    · rw [if_pos h1]
      have h2 : (x + 1) * PW n ≤ y * PW n := Int.mul_le_mul_of_nonneg_right (by omega) (by omega)
      rw [Int.add_mul] at h2
      unfold cmpI
      rw [if_pos (by omega)]
    · rw [if_neg h1]
      by_cases h2 : y < x
      · rw [if_pos h2]
        have h3 : (y + 1) * PW n ≤ x * PW n := Int.mul_le_mul_of_nonneg_right (by omega) (by omega)
        rw [Int.add_mul] at h3
        unfold cmpI
        rw [if_neg (by omega), if_pos (by omega)]
      · rw [if_neg h2, ih]
        obtain rfl : x = y := by omega
        unfold cmpI
        by_cases h3 : vt a n < vt b n
        · rw [if_pos h3, if_pos (by omega)]
        · by_cases h4 : vt b n < vt a n
          · rw [if_neg h3, if_pos h4, if_neg (by omega), if_pos (by omega)]
          · rw [if_neg h3, if_neg h4, if_neg (by omega), if_neg (by omega)]
theorem len_of_le {a b : List Int} (ha : Us a) (hb : Us b) (tb : Top b) (h : val b ≤ val a) : b.length ≤ a.length := by
  rcases Nat.eq_zero_or_pos b.length with h0 | h0
  · omega
  · rcases Nat.lt_or_ge a.length b.length with h1 | h1
    · have h2 := top_le hb tb h0
      have h3 := val_lt ha
      have h4 := PW_mono (show a.length ≤ b.length - 1 by omega)
      omega
    · exact h1

end Go.Proofs.Ytajmeeppigdjnaa
