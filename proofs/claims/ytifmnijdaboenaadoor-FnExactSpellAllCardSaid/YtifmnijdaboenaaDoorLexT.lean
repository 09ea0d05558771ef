/- Texts between marks: what is written is read again; a token's fault. No program is named here. -/
import Derived.Test.YtifmnijdaboenaaDoorLexN
namespace Go.Proofs.YtifmnijdaboenaaDoor
set_option linter.unusedVariables false
set_option linter.unusedSimpArgs false

def esc1 (m c : UInt8) : List UInt8 := if c = 10 then [92, 110] else if c = 92 ∨ c = m then [92, c] else [c]
def escL (m : UInt8) (x : List UInt8) : List UInt8 := m :: (x.flatMap (esc1 m) ++ [m])
def okC (c : UInt8) : Bool := c == 10 || (decide (32 ≤ c.toNat) && decide (c.toNat ≤ 126))
def okB (x : List UInt8) : Bool := x.all okC

theorem cb_get {t : ByteArray} {i : Nat} {c : UInt8} (h : t.data.toList[i]? = some c) : i < t.size ∧ cb t i = (c.toNat : Int) ∧ ∀ h : i < t.size, t[i]'h = c := by
  have hi : i < t.size := by
    have h1 := (List.getElem?_eq_some_iff.1 h).1
    have h2 : t.data.toList.length = t.size := rfl
    omega
  have e : ∀ h : i < t.size, t[i]'h = c := fun h' => by
    have h2 := (List.getElem?_eq_some_iff.1 h).2
    exact (Array.getElem_toList (xs := t.data) (i := i) h').symm.trans h2
  refine ⟨hi, ?_, e⟩
  rw [← cb_at hi, e hi]
theorem drop_get {l y : List UInt8} {a j : Nat} (h : l.drop a = y) : l[a + j]? = y[j]? := by rw [← h, List.getElem?_drop]
theorem u8_eq {c : UInt8} {n : Nat} (h : n < 256) : ((c.toNat : Int) = (n : Int)) ↔ c = UInt8.ofNat n := by
  constructor
  · intro h1
    have h2 : c.toNat = n := by omega
    rw [← h2]; simp
  · rintro rfl
    have : (UInt8.ofNat n).toNat = n := by simp; omega
    omega

theorem quo_esc (t : ByteArray) (m : UInt8) (hm : m = 34 ∨ m = 39) : ∀ (y : List UInt8) (a : Nat), t.data.toList.drop a = y.flatMap (esc1 m) ++ [m] → quoL t (m.toNat : Int) a = if okB y then some (y, t.size - 1) else none
  | [], a, h => by
    have h0 := cb_get (show t.data.toList[a + 0]? = some m by rw [drop_get h]; rfl)
    have hlen : t.size = a + 1 := by
      have := congrArg List.length h
      simp at this
      have hs : t.data.size = t.size := rfl
      have := h0.1
      omega
    simp only [Nat.add_zero] at h0
    rw [quoL, dif_pos h0.1, if_pos h0.2.1]
    simp [okB, hlen]
  | c :: y, a, h => by
    by_cases h10 : c = 10
    · subst h10
      have e : esc1 m 10 = [92, 110] := by simp [esc1]
      rw [List.flatMap_cons, e] at h
      have h0 := cb_get (show t.data.toList[a + 0]? = some 92 by rw [drop_get h]; rfl)
      have h1 := cb_get (show t.data.toList[a + 1]? = some 110 by rw [drop_get h]; rfl)
      have hr : t.data.toList.drop (a + 2) = y.flatMap (esc1 m) ++ [m] := by rw [← List.drop_drop, h]; rfl
      simp only [Nat.add_zero] at h0
      rw [quoL, dif_pos h0.1, if_neg (by rw [h0.2.1]; rcases hm with rfl | rfl <;> decide), if_neg (by rw [h0.2.1]; decide), if_pos (by rw [h0.2.1]; rfl), dif_pos h1.1, if_pos (by rw [h1.2.1]; decide), quo_esc t m hm y (a + 2) hr, if_pos (by rw [h1.2.1]; rfl)]
      have : okB ((10 : UInt8) :: y) = okB y := by simp [okB, okC]
      rw [this]
      cases okB y <;> simp
    · by_cases hq : c = 92 ∨ c = m
      · have e : esc1 m c = [92, c] := by simp [esc1, h10, hq]
        rw [List.flatMap_cons, e] at h
        have h0 := cb_get (show t.data.toList[a + 0]? = some 92 by rw [drop_get h]; rfl)
        have h1 := cb_get (show t.data.toList[a + 1]? = some c by rw [drop_get h]; rfl)
        have hr : t.data.toList.drop (a + 2) = y.flatMap (esc1 m) ++ [m] := by rw [← List.drop_drop, h]; rfl
        simp only [Nat.add_zero] at h0
        rw [quoL, dif_pos h0.1, if_neg (by rw [h0.2.1]; rcases hm with rfl | rfl <;> decide), if_neg (by rw [h0.2.1]; decide), if_pos (by rw [h0.2.1]; rfl), dif_pos h1.1, if_pos (by rw [h1.2.1]; rcases hq with rfl | rfl; (· decide); rcases hm with rfl | rfl <;> decide), quo_esc t m hm y (a + 2) hr, if_neg (by rw [h1.2.1]; rcases hq with rfl | rfl; (· decide); rcases hm with rfl | rfl <;> decide)]
        have hc : okC c = true := by rcases hq with rfl | rfl; (· rfl); rcases hm with rfl | rfl <;> rfl
        have : okB (c :: y) = okB y := by simp [okB, hc]
        rw [this, h1.2.2]
        cases okB y <;> simp
      · have e : esc1 m c = [c] := by simp [esc1, h10, hq]
        rw [List.flatMap_cons, e] at h
        have h0 := cb_get (show t.data.toList[a + 0]? = some c by rw [drop_get h]; rfl)
        have hr : t.data.toList.drop (a + 1) = y.flatMap (esc1 m) ++ [m] := by rw [← List.drop_drop, h]; rfl
        simp only [Nat.add_zero] at h0
        have hne : ¬ ((c.toNat : Int) = (m.toNat : Int)) := fun h' => hq (.inr (UInt8.toNat_inj.1 (by omega)))
        have hne2 : ¬ ((c.toNat : Int) = 92) := fun h' => hq (.inl (by have := (u8_eq (c := c) (n := 92) (by decide)).1 h'; simpa using this))
        rw [quoL, dif_pos h0.1, if_neg (by rw [h0.2.1]; exact hne)]
        by_cases hb : (c.toNat : Int) < 32 ∨ 126 < (c.toNat : Int)
        · rw [if_pos (by rw [h0.2.1]; exact hb)]
          have : okB (c :: y) = false := by simp [okB, okC, h10]; intro h1 h2; omega
          rw [this]; simp
        · rw [if_neg (by rw [h0.2.1]; exact hb), if_neg (by rw [h0.2.1]; exact hne2), quo_esc t m hm y (a + 1) hr, h0.2.2 h0.1]
          have hc : okC c = true := by simp [okC]; right; omega
          have : okB (c :: y) = okB y := by simp [okB, hc]
          rw [this]
          cases okB y <;> simp [h0.1]

/-- A text between marks, read. -/
theorem lex_quote (m : UInt8) (hm : m = 34 ∨ m = 39) (x : List UInt8) (hs : (escL m x).length ≤ 60000) :
    lexR ⟨(escL m x).toArray⟩ = if okB x = true ∧ (m = 39 → x.length = 1) then ⟨0, 0, 0, [⟨if m = 39 then 6 else 7, ⟨x.toArray⟩, 1, 1⟩]⟩ else ⟨4, 1, 1, []⟩ := by
  generalize ht : (⟨(escL m x).toArray⟩ : ByteArray) = t
  have hd : t.data.toList = escL m x := by rw [← ht]
  have hsz : t.size = (escL m x).length := by rw [← ht]; simp [ByteArray.size]
  have hl : 2 ≤ (escL m x).length := by simp [escL]
  have h0 := cb_get (show t.data.toList[0]? = some m by rw [hd]; rfl)
  have hq := quo_esc t m hm x 1 (by rw [hd]; rfl)
  have hm1 : cb t 0 = 39 ∨ cb t 0 = 34 := by rw [h0.2.1]; rcases hm with rfl | rfl <;> decide
  have hst : stepL t 0 = if okB x = true ∧ (m = 39 → x.length = 1) then .tok (if m = 39 then 6 else 7) ⟨x.toArray⟩ t.size else .bad 4 := by
    unfold stepL
    rw [if_neg (by omega), if_neg (by simp [two]; intro _ h; omega), if_neg (by simp [isSm, isCap]; omega), if_neg (by simp [isDig]; omega), if_pos hm1, h0.2.1, hq]
    have hm2 : ((m.toNat : Int) = 39) ↔ m = 39 := by rcases hm with rfl | rfl <;> decide
    by_cases hb : okB x = true
    · rw [if_pos hb]
      simp only [hb, true_and, hm2, Nat.sub_zero]
      rw [show t.size - 1 + 1 = t.size by omega]
      by_cases h1 : m = 39 ∧ x.length ≠ 1
      · rw [if_pos h1, if_neg (fun h => h1.2 (h h1.1))]
      · rw [if_neg h1, if_pos (fun h => Decidable.byContradiction fun h2 => h1 ⟨h, h2⟩)]
    · rw [if_neg hb, if_neg (show ¬ (okB x = true ∧ (m = 39 → x.length = 1)) from fun h => hb h.1)]
  unfold lexR
  rw [if_neg (by omega), lexL, if_neg (by omega), hst]
  by_cases hc : okB x = true ∧ (m = 39 → x.length = 1)
  · rw [if_pos hc, if_pos hc]
    simp only [List.nil_append, Nat.zero_add]
    rw [show t.size = (t.size - 1) + 1 by omega]
    rw [lexL, if_pos (by omega)]
  · rw [if_neg hc, if_neg hc]

/-- One token, of this kind and text. -/
def oneTk (r : LexR) (k : Int) (x : ByteArray) : Bool := match r.ts with | [y] => (r.code == 0) && (y.k == k) && (y.x.toList == x.toList) | _ => false
def layL : List (List UInt8) := [[123], [59], [125]]
/-- Is the token none that is read so? -/
def tfR (k : Int) (x : ByteArray) : Bool :=
  if 60000 < x.size then true
  else if k = 7 then !(okB x.data.toList && decide ((escL 34 x.data.toList).length ≤ 60000))
  else if k = 6 then !(decide (x.size = 1) && okB x.data.toList)
  else if k = 11 then !(layL.contains x.data.toList)
  else if x.size = 0 then true
  else !(oneTk (lexR x) k x)
/-- The token's text, spelt. -/
def spR (k : Int) (x : ByteArray) : ByteArray := if k = 7 then ⟨(escL 34 x.data.toList).toArray⟩ else if k = 6 then ⟨(escL 39 x.data.toList).toArray⟩ else x
theorem oneTk_err {c l d : Int} (k : Int) (x : ByteArray) : oneTk ⟨c, l, d, []⟩ k x = false := rfl
theorem size_data (x : ByteArray) : x.data.toList.length = x.size := rfl
theorem esc_len (m : UInt8) (x : List UInt8) : x.length + 2 ≤ (escL m x).length := by
  have : x.length ≤ (x.flatMap (esc1 m)).length := by
    induction x with
    | nil => simp
    | cons c x ih =>
      rw [List.flatMap_cons, List.length_append]
      show x.length + 1 ≤ _
      have : 1 ≤ (esc1 m c).length := by unfold esc1; split; (· simp); split <;> simp
      omega
  show _ ≤ (x.flatMap (esc1 m) ++ [m]).length + 1
  rw [List.length_append]
  show _ ≤ _ + 1 + 1
  omega
theorem esc_len2 (m : UInt8) (x : List UInt8) : (escL m x).length ≤ 2 * x.length + 2 := by
  have : (x.flatMap (esc1 m)).length ≤ 2 * x.length := by
    induction x with
    | nil => simp
    | cons c x ih =>
      rw [List.flatMap_cons, List.length_append]
      show _ ≤ 2 * (x.length + 1)
      have : (esc1 m c).length ≤ 2 := by unfold esc1; split; (· simp); split <;> simp
      omega
  show (x.flatMap (esc1 m) ++ [m]).length + 1 ≤ _
  rw [List.length_append]
  show _ + 1 + 1 ≤ _
  omega
/-- The program asks by reading what it would spell. -/
theorem tfR_spell (k : Int) (x : ByteArray) (h11 : k ≠ 11) (hs : x.size ≤ 60000) : tfR k x = !(oneTk (lexR (spR k x)) k x) := by
  unfold tfR spR
  rw [if_neg (by omega)]
  by_cases h7 : k = 7
  · subst h7
    rw [if_pos rfl, if_pos rfl]
    by_cases hl : (escL 34 x.data.toList).length ≤ 60000
    · rw [lex_quote 34 (.inl rfl) _ hl]
      by_cases hb : okB x.data.toList = true
      · rw [if_pos ⟨hb, fun h => absurd h (by decide)⟩]
        simp [hb, hl, oneTk]
      · rw [if_neg (fun h => hb h.1)]
        simp only [Bool.not_eq_true] at hb
        simp [hb, oneTk]
    · have : lexR ⟨(escL 34 x.data.toList).toArray⟩ = ⟨5, 1, 1, []⟩ := by unfold lexR; rw [if_pos (by simp [ByteArray.size]; omega)]
      rw [this]
      simp [hl, oneTk]
  · rw [if_neg h7, if_neg h7]
    by_cases h6 : k = 6
    · subst h6
      rw [if_pos rfl, if_pos rfl]
      by_cases hl : (escL 39 x.data.toList).length ≤ 60000
      · rw [lex_quote 39 (.inr rfl) _ hl]
        by_cases hb : okB x.data.toList = true ∧ x.data.toList.length = 1
        · rw [if_pos ⟨hb.1, fun _ => hb.2⟩]
          rw [size_data] at hb
          simp [hb.1, hb.2, oneTk]
        · rw [if_neg (fun h => hb ⟨h.1, h.2 rfl⟩)]
          rw [size_data] at hb
          rw [oneTk_err]
          simp only [Bool.not_false, Bool.not_eq_true', Bool.and_eq_false_iff, decide_eq_false_iff_not]
          by_cases h1 : x.size = 1
          · right; simpa [h1] using hb
          · left; exact h1
      · have : lexR ⟨(escL 39 x.data.toList).toArray⟩ = ⟨5, 1, 1, []⟩ := by unfold lexR; rw [if_pos (by simp [ByteArray.size]; omega)]
        rw [this, oneTk_err]
        have h2 := esc_len2 39 x.data.toList
        rw [size_data] at h2
        have : x.size ≠ 1 := by omega
        simp [this]
    · rw [if_neg h6, if_neg h6, if_neg h11]
      by_cases h0 : x.size = 0
      · rw [if_pos h0]
        have : lexR x = ⟨0, 0, 0, []⟩ := by unfold lexR; rw [if_neg (by omega), lexL, if_pos (by omega)]
        rw [this, oneTk_err]
        rfl
      · rw [if_neg h0]

/-- Spelt, or nothing where the token has a fault. -/
def spellR (k : Int) (x : ByteArray) : ByteArray := if tfR k x = true then ⟨#[]⟩ else spR k x
theorem spR_pos {k : Int} {x : ByteArray} (h : tfR k x = false) : 0 < (spR k x).size := by
  unfold spR
  split
  · have := esc_len 34 x.data.toList
    show 0 < (escL 34 x.data.toList).toArray.size
    simp; omega
  · split
    · have := esc_len 39 x.data.toList
      show 0 < (escL 39 x.data.toList).toArray.size
      simp; omega
    · next h7 h6 =>
      unfold tfR at h
      refine Nat.pos_of_ne_zero fun h0 => ?_
      rw [if_neg (by omega), if_neg h7, if_neg h6] at h
      split at h
      · have : x.data.toList = [] := List.eq_nil_of_length_eq_zero (by rw [size_data]; exact h0)
        rw [this] at h
        exact absurd h (by decide)
      · simp [h0] at h
/-- What the reference builds token by token. -/
def spAll (out : List UInt8) : List (Int × ByteArray) → List UInt8
  | [] => out
  | p :: ps => spAll (if tfR p.1 p.2 = true then out else (if 0 < out.length then out ++ [32] else out) ++ (spR p.1 p.2).data.toList) ps
def goodT (l : List (Int × ByteArray)) : List ByteArray := (l.filter fun p => !tfR p.1 p.2).map fun p => spR p.1 p.2
theorem inter_cons (s : List UInt8) (x : List UInt8) (xs : List (List UInt8)) (h : xs ≠ []) : s.intercalate (x :: xs) = x ++ s ++ s.intercalate xs := by
  match xs, h with
  | y :: ys, _ => simp [List.intercalate, List.intersperse]
theorem spAll_out : ∀ (l : List (Int × ByteArray)) (out : List UInt8), 0 < out.length → spAll out l = out ++ (goodT l).flatMap fun x => 32 :: x.data.toList
  | [], out, _ => by simp [spAll, goodT]
  | p :: ps, out, h => by
    rw [spAll]
    by_cases ht : tfR p.1 p.2 = true
    · rw [if_pos ht, spAll_out ps out h]
      simp [goodT, ht]
    · rw [if_neg ht, if_pos h, spAll_out ps _ (by simp; omega)]
      simp [goodT, ht]
theorem inter_flat (xs : List (List UInt8)) (x : List UInt8) : [(32 : UInt8)].intercalate (x :: xs) = x ++ xs.flatMap fun x => 32 :: x := by
  induction xs generalizing x with
  | nil => simp [List.intercalate]
  | cons y ys ih =>
    rw [inter_cons _ _ _ (by simp), ih]
    simp
theorem spAll_join : ∀ (l : List (Int × ByteArray)), spAll [] l = [(32 : UInt8)].intercalate ((goodT l).map fun x => x.data.toList)
  | [] => by simp [spAll, goodT, List.intercalate]
  | p :: ps => by
    rw [spAll]
    by_cases ht : tfR p.1 p.2 = true
    · rw [if_pos ht, spAll_join ps]
      simp [goodT, ht]
    · have hp := spR_pos (by simpa using ht)
      rw [if_neg ht, if_neg (by simp), List.nil_append, spAll_out ps _ (by rw [size_data]; exact hp)]
      have : goodT (p :: ps) = spR p.1 p.2 :: goodT ps := by simp [goodT, ht]
      rw [this, List.map_cons, inter_flat, List.flatMap_map]

end Go.Proofs.YtifmnijdaboenaaDoor
