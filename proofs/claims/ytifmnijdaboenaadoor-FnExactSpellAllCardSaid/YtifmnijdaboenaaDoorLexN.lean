/- The rules of chapter 2 as functions over a text's bytes; no program is named here. -/
import Derived.Test.YtifmnijdaboenaaDoorHp
namespace Go.Proofs.YtifmnijdaboenaaDoor
set_option linter.unusedVariables false
set_option linter.unusedSimpArgs false

/-- The byte at a place (0 behind the end). -/
def cb (t : ByteArray) (i : Nat) : Int := if h : i < t.size then ((t[i]'h).toNat : Int) else 0
theorem cb_at {t : ByteArray} {i : Nat} (h : i < t.size) : ((t[i]'h).toNat : Int) = cb t i := by simp [cb, h]
theorem cb_out {t : ByteArray} {i : Nat} (h : t.size ≤ i) : cb t i = 0 := by simp [cb, Nat.not_lt.mpr h]
theorem cb_lo (t : ByteArray) (i : Nat) : 0 ≤ cb t i := by unfold cb; split <;> omega
theorem cb_hi (t : ByteArray) (i : Nat) : cb t i ≤ 255 := by
  unfold cb
  split
  · next h => have := (t[i]'h).toNat_lt; omega
  · omega

def isDig (c : Int) : Bool := decide (48 ≤ c) && decide (c ≤ 57)
def isSm (c : Int) : Bool := (decide (97 ≤ c) && decide (c ≤ 122)) || (c == 95)
def isCap (c : Int) : Bool := decide (65 ≤ c) && decide (c ≤ 90)
def isIn (c : Int) : Bool := isSm c || isCap c || isDig c || (c == 39)
def symL : List UInt8 := [33, 35, 36, 37, 38, 42, 43, 46, 47, 60, 61, 62, 63, 64, 92, 94, 124, 45, 126, 58]
def specL : List UInt8 := [40, 41, 91, 93, 44, 59, 96, 123, 125]
def inL (l : List UInt8) (c : Int) : Bool := l.any fun x => (x.toNat : Int) == c
def isSym (c : Int) : Bool := inL symL c
def isSpc (c : Int) : Bool := inL specL c

/-- How many bytes from a place on are of a kind. -/
def runL (p : Int → Bool) (t : ByteArray) (a : Nat) : Nat :=
  if h : a < t.size then (if p (cb t a) then 1 + runL p t (a + 1) else 0) else 0
termination_by t.size - a
theorem runL_le (p : Int → Bool) (t : ByteArray) (a : Nat) (ha : a ≤ t.size) : a + runL p t a ≤ t.size := by
  rw [runL]
  split
  · split
    · have := runL_le p t (a + 1) (by omega); omega
    · omega
  · omega
termination_by t.size - a
theorem runL_is (p : Int → Bool) (t : ByteArray) (n : Nat) : ∀ a, (∀ k, k < n → p (cb t (a + k)) = true) → a + n ≤ t.size → (a + n < t.size → p (cb t (a + n)) = false) → runL p t a = n := by
  induction n with
  | zero =>
    intro a _ h1 h2
    rw [runL]
    split
    · next h => rw [if_neg (by simpa using h2 h)]
    · rfl
  | succ n ih =>
    intro a h0 h1 h2
    rw [runL, dif_pos (by omega), if_pos (by simpa using h0 0 (by omega)), ih (a + 1) (fun k hk => by have := h0 (k + 1) (by omega); rwa [show a + 1 + k = a + (k + 1) by omega]) (by omega) (fun h => by have := h2 (by omega); rwa [show a + 1 + n = a + (n + 1) by omega])]
    omega
theorem runL_all (p : Int → Bool) (t : ByteArray) (a : Nat) : ∀ k, k < runL p t a → p (cb t (a + k)) = true := by
  intro k hk
  rw [runL] at hk
  split at hk
  · next h =>
    split at hk
    · next h2 =>
      cases k with
      | zero => simpa using h2
      | succ k => have := runL_all p t (a + 1) k (by omega); rwa [show a + 1 + k = a + (k + 1) by omega] at this
    · omega
  · omega
termination_by t.size - a
theorem runL_end (p : Int → Bool) (t : ByteArray) (a : Nat) (h : a + runL p t a < t.size) : p (cb t (a + runL p t a)) = false := by
  rw [runL] at h ⊢
  split at h
  · next h1 =>
    rw [dif_pos h1]
    split at h
    · next h2 =>
      rw [if_pos h2]
      have := runL_end p t (a + 1) (by omega)
      rwa [show a + 1 + runL p t (a + 1) = a + (1 + runL p t (a + 1)) by omega] at this
    · next h2 => rw [if_neg h2]; simpa using h2
  · omega
termination_by t.size - a
theorem runL_pos {p : Int → Bool} {t : ByteArray} {a : Nat} (h : a < t.size) (hp : p (cb t a) = true) : 0 < runL p t a := by
  rw [runL, dif_pos h, if_pos hp]; omega
theorem runL_zero {p : Int → Bool} {t : ByteArray} {a : Nat} (hp : p (cb t a) = false) : runL p t a = 0 := by
  rw [runL]
  split
  · rw [if_neg (by simp [hp])]
  · rfl

def two (t : ByteArray) (a : Nat) (x y : Int) : Bool := decide (a + 2 ≤ t.size) && (cb t a == x) && (cb t (a + 1) == y)
/-- Where a comment that stands 'd' deep ends. -/
def nestL (t : ByteArray) (a : Nat) (d : Int) : Option Nat :=
  if h : a < t.size then
    if two t a 123 45 then nestL t (a + 2) (d + 1)
    else if two t a 45 125 then (if d - 1 = 0 then some (a + 2) else nestL t (a + 2) (d - 1))
    else nestL t (a + 1) d
  else none
termination_by t.size - a
theorem nestL_ge (t : ByteArray) (a : Nat) (d : Int) (e : Nat) (h : nestL t a d = some e) : a + 2 ≤ e ∧ e ≤ t.size := by
  rw [nestL] at h
  split at h
  · split at h
    · have := nestL_ge t (a + 2) (d + 1) e h; omega
    · split at h
      · next h3 =>
        split at h
        · injection h with h; subst h; simp [two] at h3; omega
        · have := nestL_ge t (a + 2) (d - 1) e h; omega
      · have := nestL_ge t (a + 1) d e h; omega
  · cases h
termination_by t.size - a

/-- What stands between two marks: its bytes, and the place of the second mark. -/
def quoL (t : ByteArray) (m : Int) (a : Nat) : Option (List UInt8 × Nat) :=
  if h : a < t.size then
    if cb t a = m then some ([], a)
    else if cb t a < 32 ∨ 126 < cb t a then none
    else if cb t a = 92 then
      (if h2 : a + 1 < t.size then
        (if inL [110, 92, 39, 34] (cb t (a + 1)) then (quoL t m (a + 2)).map fun r => ((if cb t (a + 1) = 110 then 10 else t[a + 1]'h2) :: r.1, r.2) else none)
      else none)
    else (quoL t m (a + 1)).map fun r => ((t[a]'h) :: r.1, r.2)
  else none
termination_by t.size - a

/-- The place behind some bytes: line and column. -/
def advL (t : ByteArray) (a : Nat) : Nat → Int × Int → Int × Int
  | 0, p => p
  | n + 1, p => advL t (a + 1) n (if cb t a = 10 then (p.1 + 1, 1) else (p.1, p.2 + 1))
theorem advL_snoc (t : ByteArray) : ∀ (n a : Nat) (p : Int × Int), advL t a (n + 1) p = (let q := advL t a n p; if cb t (a + n) = 10 then (q.1 + 1, 1) else (q.1, q.2 + 1))
  | 0, a, p => by simp [advL]
  | n + 1, a, p => by
    rw [advL, advL_snoc t n (a + 1)]
    simp only [advL]
    rw [show a + 1 + n = a + (n + 1) by omega]
theorem advL_add (t : ByteArray) : ∀ (n m a : Nat) (p : Int × Int), advL t a (n + m) p = advL t (a + n) m (advL t a n p)
  | 0, m, a, p => by simp [advL]
  | n + 1, m, a, p => by
    rw [show n + 1 + m = (n + m) + 1 by omega, advL, advL_add t n m (a + 1)]
    simp only [advL]
    rw [show a + 1 + n = a + (n + 1) by omega]
theorem advL_bound (t : ByteArray) : ∀ (n a : Nat) (p : Int × Int) (K : Int), 0 ≤ p.1 → p.1 ≤ K → 0 ≤ p.2 → p.2 ≤ K → 1 ≤ K → 0 ≤ (advL t a n p).1 ∧ (advL t a n p).1 ≤ K + n ∧ 0 ≤ (advL t a n p).2 ∧ (advL t a n p).2 ≤ K + n
  | 0, a, p, K, h0, h1, h2, h3, _ => by simp [advL]; omega
  | n + 1, a, p, K, h0, h1, h2, h3, h4 => by
    rw [advL]
    have := advL_bound t n (a + 1) (if cb t a = 10 then (p.1 + 1, 1) else (p.1, p.2 + 1)) (K + 1) (by split <;> simp <;> omega) (by split <;> simp <;> omega) (by split <;> simp <;> omega) (by split <;> simp <;> omega) (by omega)
    omega

def wordsL : List (List UInt8) := [[99, 97, 115, 101], [99, 108, 97, 115, 115], [100, 97, 116, 97], [100, 101, 114, 105, 118, 105, 110, 103], [101, 108, 115, 101], [105, 102], [105, 109, 112, 111, 114, 116], [105, 110], [105, 110, 102, 105, 120], [105, 110, 102, 105, 120, 108], [105, 110, 102, 105, 120, 114], [105, 110, 115, 116, 97, 110, 99, 101], [108, 101, 116], [109, 111, 100, 117, 108, 101], [111, 102], [116, 104, 101, 110], [119, 104, 101, 114, 101], [95]]
def marksL : List (List UInt8) := [[61], [124], [45, 62], [60, 45], [92], [58, 58], [61, 62], [46, 46], [64], [126], [33]]
def isWord (x : ByteArray) : Bool := wordsL.contains x.toList
def isMark (x : ByteArray) : Bool := marksL.contains x.toList

/-- What stands at a place: something to go over, a token, or a fault. -/
inductive Stp where
  | skip (n : Nat)
  | tok (k : Int) (x : ByteArray) (n : Nat)
  | bad (c : Int)
def stepL (t : ByteArray) (a : Nat) : Stp :=
  if cb t a = 32 ∨ cb t a = 10 then .skip 1
  else if two t a 123 45 then (match nestL t a 0 with | none => .bad 2 | some e => .skip (e - a))
  else if isSm (cb t a) || isCap (cb t a) then
    .tok (if isCap (cb t a) then 2 else if isWord (t.extract a (a + runL isIn t a)) then 8 else 1) (t.extract a (a + runL isIn t a)) (runL isIn t a)
  else if isDig (cb t a) then
    (if 300 < runL isDig t a ∨ (1 < runL isDig t a ∧ cb t a = 48) then .bad 3 else .tok 5 (t.extract a (a + runL isDig t a)) (runL isDig t a))
  else if cb t a = 39 ∨ cb t a = 34 then
    (match quoL t (cb t a) (a + 1) with
    | none => .bad 4
    | some (x, e) => if cb t a = 39 ∧ x.length ≠ 1 then .bad 4 else .tok (if cb t a = 39 then 6 else 7) ⟨x.toArray⟩ (e + 1 - a))
  else if isSym (cb t a) then
    (if 2 ≤ runL isSym t a ∧ runL (fun c => c == 45) t a = runL isSym t a then .skip (runL (fun c => !(c == 10)) t a)
    else .tok (if isMark (t.extract a (a + runL isSym t a)) then 9 else if cb t a = 58 then 4 else 3) (t.extract a (a + runL isSym t a)) (runL isSym t a))
  else if isSpc (cb t a) then .tok 10 (t.extract a (a + 1)) 1
  else .bad 1
/-- A token: kind, text, line, column. -/
structure Tk where
  k : Int
  x : ByteArray
  l : Int
  c : Int
structure LexR where
  code : Int
  l : Int
  c : Int
  ts : List Tk
/-- The tokens from a place on. -/
def lexL (t : ByteArray) : Nat → Nat → Int × Int → List Tk → LexR
  | 0, _, _, ts => ⟨0, 0, 0, ts⟩
  | f + 1, a, p, ts =>
    if t.size ≤ a then ⟨0, 0, 0, ts⟩
    else match stepL t a with
      | .skip n => lexL t f (a + n) (advL t a n p) ts
      | .tok k x n => lexL t f (a + n) (advL t a n p) (ts ++ [⟨k, x, p.1, p.2⟩])
      | .bad c => ⟨c, p.1, p.2, []⟩
def lexR (t : ByteArray) : LexR := if 60000 < t.size then ⟨5, 1, 1, []⟩ else lexL t (t.size + 1) 0 (1, 1) []

theorem quoL_ge (t : ByteArray) (m : Int) (a : Nat) (x : List UInt8) (e : Nat) (h : quoL t m a = some (x, e)) : a ≤ e ∧ e < t.size := by
  rw [quoL] at h
  split at h
  · next h1 =>
    split at h
    · injection h with h; injection h with _ h; omega
    · split at h
      · cases h
      · split at h
        · split at h
          · split at h
            · obtain ⟨r, hr, he⟩ := Option.map_eq_some_iff.1 h
              have := quoL_ge t m (a + 2) r.1 r.2 hr
              injection he with _ he
              omega
            · cases h
          · cases h
        · obtain ⟨r, hr, he⟩ := Option.map_eq_some_iff.1 h
          have := quoL_ge t m (a + 1) r.1 r.2 hr
          injection he with _ he
          omega
  · cases h
termination_by t.size - a
theorem stepL_skip {t : ByteArray} {a n : Nat} (h : stepL t a = .skip n) (ha : a < t.size) : 1 ≤ n ∧ a + n ≤ t.size := by
  unfold stepL at h
  split at h
  · injection h with h; omega
  · split at h
    · next h2 =>
      split at h
      · cases h
      · next e he =>
        injection h with h
        have := nestL_ge _ _ _ _ he
        omega
    · split at h
      · cases h
      · split at h
        · split at h <;> cases h
        · split at h
          · split at h
            · cases h
            · split at h <;> cases h
          · split at h
            · split at h
              · next h5 =>
                injection h with h
                have h6 := runL_le (fun c => !(c == 10)) t a (by omega)
                have h7 := runL_all (fun c => c == 45) t a 0 (by omega)
                have h8 := runL_pos (p := fun c => !(c == 10)) (t := t) ha (by simp at h7; simp [h7])
                omega
              · cases h
            · split at h <;> cases h
theorem stepL_tok {t : ByteArray} {a n : Nat} {k : Int} {x : ByteArray} (h : stepL t a = .tok k x n) (ha : a < t.size) : 1 ≤ n ∧ a + n ≤ t.size := by
  unfold stepL at h
  split at h
  · cases h
  · split at h
    · split at h <;> cases h
    · split at h
      · next h2 =>
        injection h with _ _ h
        subst h
        exact ⟨runL_pos ha (by unfold isIn; simp only [Bool.or_eq_true] at h2 ⊢; rcases h2 with h2 | h2 <;> simp [h2]), runL_le _ _ _ (by omega)⟩
      · split at h
        · next h2 =>
          split at h
          · cases h
          · injection h with _ _ h
            subst h
            exact ⟨runL_pos ha h2, runL_le _ _ _ (by omega)⟩
        · split at h
          · split at h
            · cases h
            · next x e he =>
              split at h
              · cases h
              · injection h with _ _ h
                have := quoL_ge _ _ _ _ _ he
                omega
          · split at h
            · next h2 =>
              split at h
              · cases h
              · injection h with _ _ h
                subst h
                exact ⟨runL_pos ha h2, runL_le _ _ _ (by omega)⟩
            · split at h
              · injection h with _ _ h; omega
              · cases h

end Go.Proofs.YtifmnijdaboenaaDoor
