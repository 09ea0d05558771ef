/- The reference's shape of a core term; no condition. -/
import Derived.Test.YthidbmjdphfddaaCfS
import Derived.Test.YthidbmjdphfddaaMp
namespace Go.Proofs.Ythidbmjdphfddaa
open Go.RowKit
set_option linter.unusedVariables false
set_option linter.unusedSimpArgs false

/-- A truth value that says P; nothing that was there has changed. -/
def Says (P : Prop) (w : World) (e : Ending) (w' : World) : Prop := ∃ r : Bool, e = .returned (.bool r) ∧ (r = true ↔ P) ∧ Below w.heap.size w w'
theorem says_of {P : Prop} {w w' : World} {r : Bool} (h : r = true ↔ P) (hb : Below w.heap.size w w') : Says P w (.returned (.bool r)) w' := ⟨r, rfl, h, hb⟩
theorem says_bool {P : Prop} {w w' : World} {v : Value} {r : Bool} (hv : v = .bool r) (h : r = true ↔ P) (hb : Below w.heap.size w w') : Says P w (.returned v) w' := by subst hv; exact says_of h hb
def noFit (k : Int) (m : Bool) (a b d : Nat) : Prop := (k ≠ 2 ∧ (m = true ∨ 0 < a)) ∨ (k ≠ 8 ∧ 0 < d) ∨ (k ≠ 6 ∧ k ≠ 7 ∧ 0 < b)
theorem fit_no {k : Int} {n : ByteArray} {m : Bool} {l : List Int} {ns : List ByteArray} {nk : Nat} {qs : List Ca} (h : noFit k m l.length ns.length qs.length) : ¬ fitP k n m l ns nk qs := by
  unfold fitP
  rintro ⟨h1, h2, h3, _⟩
  rcases h with ⟨hk, h⟩ | ⟨hk, h⟩ | ⟨hk, hk', h⟩
  · have := h1 hk
    rcases h with h | h
    · rw [this.1] at h; cases h
    · omega
  · have := h2 hk
    omega
  · have := h3 hk hk'
    omega
theorem emp_t {n : ByteArray} (h : n.toList.isEmpty = true) : n.toList = [] := by simpa using h
theorem emp_f {n : ByteArray} (h : n.toList.isEmpty = false) : n.toList ≠ [] := by simpa using h

section
variable (n : ByteArray) (m : Bool) (l : List Int) (ns : List ByteArray) (ks : List Cr) (qs : List Ca) (w : World) (AL AN AK AA : Option Addr) (cL cN cK cA : Nat)
def boxC (k : Int) (n : ByteArray) (m : Bool) (a b c d : Nat) (AL AN AK AA : Option Addr) (cL cN cK cA : Nat) : Obj := .cells #[.int .i64 k, .string n, .bool m, .slice AL a cL, .slice AN b cN, .slice AK c cK, .slice AA d cA] 36
set_option maxRecDepth 100000 in
theorem shapeBad (k : Int) (h : noFit k m l.length ns.length qs.length) :
    Calls Try.prog 153 #[.agg #[.int .i64 k, .string n, .bool m, .slice AL l.length cL, .slice AN ns.length cN, .slice AK ks.length cK, .slice AA qs.length cA]] w (Says (fitP k n m l ns ks.length qs) w) := by
  have NF := Lib.hid h
  clear h
  obtain ⟨P, hP⟩ : ∃ P : Prop, P = fitP k n m l ns ks.length qs := ⟨_, rfl⟩
  rw [← hP]
  have HP : Hid (¬ P) := by rw [hP]; exact fit_no NF.out
  clear hP
  generalize l.length = a at *
  generalize ns.length = b at *
  generalize qs.length = d at *
  generalize ks.length = c at *
  by_cases hk2 : k = 2
  · subst hk2
    by_cases hd : 0 < d
    · by_cases ha : 0 < a
      · have B1 := Lib.hid ((Below.refl w.heap.size w).alloc (Nat.le_refl _) (.cells #[.int .i64 2, .string n, .bool m, .slice AL a cL, .slice AN b cN, .slice AK c cK, .slice AA d cA] 36))
        go_enter Try.func153, Try.ntmps153
        go_wp2_with fail
        go_ret
        exact says_of (iff_of_false (by decide) HP.out) B1.out
      · obtain rfl : a = 0 := by omega
        have B1 := Lib.hid ((Below.refl w.heap.size w).alloc (Nat.le_refl _) (.cells #[.int .i64 2, .string n, .bool m, .slice AL 0 cL, .slice AN b cN, .slice AK c cK, .slice AA d cA] 36))
        go_enter Try.func153, Try.ntmps153
        go_wp2_with fail
        go_ret
        exact says_of (iff_of_false (by decide) HP.out) B1.out
    · obtain rfl : d = 0 := by omega
      have hb : 0 < b := by
        rcases NF.out with h | h | h
        · exact absurd rfl h.1
        · omega
        · exact h.2.2
      by_cases ha : 0 < a
      · have B1 := Lib.hid ((Below.refl w.heap.size w).alloc (Nat.le_refl _) (.cells #[.int .i64 2, .string n, .bool m, .slice AL a cL, .slice AN b cN, .slice AK c cK, .slice AA 0 cA] 36))
        go_enter Try.func153, Try.ntmps153
        go_wp2_with fail
        go_ret
        exact says_of (iff_of_false (by decide) HP.out) B1.out
      · obtain rfl : a = 0 := by omega
        have B1 := Lib.hid ((Below.refl w.heap.size w).alloc (Nat.le_refl _) (.cells #[.int .i64 2, .string n, .bool m, .slice AL 0 cL, .slice AN b cN, .slice AK c cK, .slice AA 0 cA] 36))
        go_enter Try.func153, Try.ntmps153
        go_wp2_with fail
        go_ret
        exact says_of (iff_of_false (by decide) HP.out) B1.out
  · have hk2' : (k != 2) = true := by simpa using hk2
    by_cases ha : 0 < a
    · have B1 := Lib.hid ((Below.refl w.heap.size w).alloc (Nat.le_refl _) (.cells #[.int .i64 k, .string n, .bool m, .slice AL a cL, .slice AN b cN, .slice AK c cK, .slice AA d cA] 36))
      go_enter Try.func153, Try.ntmps153
      go_wp2_with fail
      go_ret
      exact says_of (iff_of_false (by decide) HP.out) B1.out
    · obtain rfl : a = 0 := by omega
      cases m
      · by_cases hd8 : k ≠ 8 ∧ 0 < d
        · have hk8 : (k != 8) = true := by simpa using hd8.1
          have hd : 0 < d := hd8.2
          clear hd8
          have B1 := Lib.hid ((Below.refl w.heap.size w).alloc (Nat.le_refl _) (.cells #[.int .i64 k, .string n, .bool false, .slice AL 0 cL, .slice AN b cN, .slice AK c cK, .slice AA d cA] 36))
          go_enter Try.func153, Try.ntmps153
          go_wp2_with fail
          go_ret
          exact says_of (iff_of_false (by decide) HP.out) B1.out
        · have h67 : k ≠ 6 ∧ k ≠ 7 ∧ 0 < b := by
            rcases NF.out with h | h | h
            · rcases h.2 with h | h
              · cases h
              · omega
            · exact absurd h hd8
            · exact h
          have hk6 : (k != 6) = true := by simpa using h67.1
          have hk7 : (k != 7) = true := by simpa using h67.2.1
          have hb : 0 < b := h67.2.2
          clear h67
          by_cases hk8 : k = 8
          · subst hk8
            clear hd8 hk2
            have B1 := Lib.hid ((Below.refl w.heap.size w).alloc (Nat.le_refl _) (.cells #[.int .i64 8, .string n, .bool false, .slice AL 0 cL, .slice AN b cN, .slice AK c cK, .slice AA d cA] 36))
            go_enter Try.func153, Try.ntmps153
            go_wp2_with fail
            go_ret
            exact says_of (iff_of_false (by decide) HP.out) B1.out
          · have hk8' : (k != 8) = true := by simpa using hk8
            obtain rfl : d = 0 := by omega
            clear hd8
            have B1 := Lib.hid ((Below.refl w.heap.size w).alloc (Nat.le_refl _) (.cells #[.int .i64 k, .string n, .bool false, .slice AL 0 cL, .slice AN b cN, .slice AK c cK, .slice AA 0 cA] 36))
            go_enter Try.func153, Try.ntmps153
            go_wp2_with fail
            go_ret
            exact says_of (iff_of_false (by decide) HP.out) B1.out
      · clear hk2
        have B1 := Lib.hid ((Below.refl w.heap.size w).alloc (Nat.le_refl _) (.cells #[.int .i64 k, .string n, .bool true, .slice AL 0 cL, .slice AN b cN, .slice AK c cK, .slice AA d cA] 36))
        go_enter Try.func153, Try.ntmps153
        go_wp2_with fail
        go_ret
        exact says_of (iff_of_false (by decide) HP.out) B1.out

set_option maxRecDepth 100000 in
theorem shapeK1 (c : Nat) (hl : l.length = 0) (hb : ns.length = 0) (hd : qs.length = 0) : Calls Try.prog 153 #[.agg #[.int .i64 1, .string n, .bool false, .slice AL 0 cL, .slice AN 0 cN, .slice AK c cK, .slice AA 0 cA]] w (Says (fitP 1 n false l ns c qs) w) := by
  have FIT : Hid (fitP 1 n false l ns c qs ↔ (n.toList ≠ [] ∧ c = 0)) := by show _ ↔ _; simp [fitP, hl, hb, hd]
  clear hl hb hd
  cases hn : n.toList.isEmpty
  · have HN := Lib.hid (emp_f hn)
    have B1 := Lib.hid ((Below.refl w.heap.size w).alloc (Nat.le_refl _) (.cells #[.int .i64 1, .string n, .bool false, .slice AL 0 cL, .slice AN 0 cN, .slice AK c cK, .slice AA 0 cA] 36))
    go_enter Try.func153, Try.ntmps153
    go_wp2_with fail
    go_ret
    (refine says_of ?_ B1.out; rw [FIT.out]; simp [HN.out]; try omega)
  · have HN := Lib.hid (emp_t hn)
    have B1 := Lib.hid ((Below.refl w.heap.size w).alloc (Nat.le_refl _) (.cells #[.int .i64 1, .string n, .bool false, .slice AL 0 cL, .slice AN 0 cN, .slice AK c cK, .slice AA 0 cA] 36))
    go_enter Try.func153, Try.ntmps153
    go_wp2_with fail
    go_ret
    (refine says_of ?_ B1.out; rw [FIT.out]; simp [HN.out]; try omega)
set_option maxRecDepth 100000 in
theorem shapeK3 (c : Nat) (hl : l.length = 0) (hb : ns.length = 0) (hd : qs.length = 0) : Calls Try.prog 153 #[.agg #[.int .i64 3, .string n, .bool false, .slice AL 0 cL, .slice AN 0 cN, .slice AK c cK, .slice AA 0 cA]] w (Says (fitP 3 n false l ns c qs) w) := by
  have FIT : Hid (fitP 3 n false l ns c qs ↔ (n.size = 1 ∧ c = 0)) := by show _ ↔ _; simp [fitP, hl, hb, hd]
  clear hl hb hd
  by_cases hs : n.size = 1
  · have HN := Lib.hid hs
    have hs' : ((n.size : Int) == 1) = true := by rw [hs]; rfl
    clear hs
    have B1 := Lib.hid ((Below.refl w.heap.size w).alloc (Nat.le_refl _) (.cells #[.int .i64 3, .string n, .bool false, .slice AL 0 cL, .slice AN 0 cN, .slice AK c cK, .slice AA 0 cA] 36))
    go_enter Try.func153, Try.ntmps153
    go_wp2_with fail
    go_ret
    (refine says_of ?_ B1.out; rw [FIT.out]; simp [HN.out]; try omega)
  · have HN := Lib.hid hs
    have hs' : ((n.size : Int) == 1) = false := by rw [beq_eq_false_iff_ne]; omega
    clear hs
    have B1 := Lib.hid ((Below.refl w.heap.size w).alloc (Nat.le_refl _) (.cells #[.int .i64 3, .string n, .bool false, .slice AL 0 cL, .slice AN 0 cN, .slice AK c cK, .slice AA 0 cA] 36))
    go_enter Try.func153, Try.ntmps153
    go_wp2_with fail
    go_ret
    (refine says_of ?_ B1.out; rw [FIT.out]; simp [HN.out]; try omega)
set_option maxRecDepth 100000 in
theorem shapeK4 (c : Nat) (hl : l.length = 0) (hb : ns.length = 0) (hd : qs.length = 0) : Calls Try.prog 153 #[.agg #[.int .i64 4, .string n, .bool false, .slice AL 0 cL, .slice AN 0 cN, .slice AK c cK, .slice AA 0 cA]] w (Says (fitP 4 n false l ns c qs) w) := by
  have FIT : Hid (fitP 4 n false l ns c qs ↔ (n.toList ≠ [])) := by show _ ↔ _; simp [fitP, hl, hb, hd]
  clear hl hb hd
  cases hn : n.toList.isEmpty
  · have HN := Lib.hid (emp_f hn)
    have B1 := Lib.hid ((Below.refl w.heap.size w).alloc (Nat.le_refl _) (.cells #[.int .i64 4, .string n, .bool false, .slice AL 0 cL, .slice AN 0 cN, .slice AK c cK, .slice AA 0 cA] 36))
    go_enter Try.func153, Try.ntmps153
    go_wp2_with fail
    go_ret
    (refine says_of ?_ B1.out; rw [FIT.out]; simp [HN.out]; try omega)
  · have HN := Lib.hid (emp_t hn)
    have B1 := Lib.hid ((Below.refl w.heap.size w).alloc (Nat.le_refl _) (.cells #[.int .i64 4, .string n, .bool false, .slice AL 0 cL, .slice AN 0 cN, .slice AK c cK, .slice AA 0 cA] 36))
    go_enter Try.func153, Try.ntmps153
    go_wp2_with fail
    go_ret
    (refine says_of ?_ B1.out; rw [FIT.out]; simp [HN.out]; try omega)
set_option maxRecDepth 100000 in
theorem shapeK5 (c : Nat) (hl : l.length = 0) (hb : ns.length = 0) (hd : qs.length = 0) : Calls Try.prog 153 #[.agg #[.int .i64 5, .string n, .bool false, .slice AL 0 cL, .slice AN 0 cN, .slice AK c cK, .slice AA 0 cA]] w (Says (fitP 5 n false l ns c qs) w) := by
  have FIT : Hid (fitP 5 n false l ns c qs ↔ (n.toList = [] ∧ 2 ≤ c)) := by show _ ↔ _; simp [fitP, hl, hb, hd]
  clear hl hb hd
  cases hn : n.toList.isEmpty
  · have HN := Lib.hid (emp_f hn)
    have B1 := Lib.hid ((Below.refl w.heap.size w).alloc (Nat.le_refl _) (.cells #[.int .i64 5, .string n, .bool false, .slice AL 0 cL, .slice AN 0 cN, .slice AK c cK, .slice AA 0 cA] 36))
    go_enter Try.func153, Try.ntmps153
    go_wp2_with fail
    go_ret
    (refine says_of ?_ B1.out; rw [FIT.out]; simp [HN.out]; try omega)
  · have HN := Lib.hid (emp_t hn)
    have B1 := Lib.hid ((Below.refl w.heap.size w).alloc (Nat.le_refl _) (.cells #[.int .i64 5, .string n, .bool false, .slice AL 0 cL, .slice AN 0 cN, .slice AK c cK, .slice AA 0 cA] 36))
    go_enter Try.func153, Try.ntmps153
    go_wp2_with fail
    go_ret
    (refine says_of ?_ B1.out; rw [FIT.out]; simp [HN.out]; try omega)
set_option maxRecDepth 100000 in
theorem shapeK10 (c : Nat) (hl : l.length = 0) (hb : ns.length = 0) (hd : qs.length = 0) : Calls Try.prog 153 #[.agg #[.int .i64 10, .string n, .bool false, .slice AL 0 cL, .slice AN 0 cN, .slice AK c cK, .slice AA 0 cA]] w (Says (fitP 10 n false l ns c qs) w) := by
  have FIT : Hid (fitP 10 n false l ns c qs ↔ (n.toList ≠ [] ∧ n.size ≤ 60000 ∧ c = 0)) := by show _ ↔ _; simp [fitP, hl, hb, hd]
  clear hl hb hd
  cases hn : n.toList.isEmpty
  · have HN := Lib.hid (emp_f hn)
    by_cases hs : (n.size : Int) ≤ 60000
    · have B1 := Lib.hid ((Below.refl w.heap.size w).alloc (Nat.le_refl _) (.cells #[.int .i64 10, .string n, .bool false, .slice AL 0 cL, .slice AN 0 cN, .slice AK c cK, .slice AA 0 cA] 36))
      go_enter Try.func153, Try.ntmps153
      go_wp2_with fail
      go_ret
      (refine says_of ?_ B1.out; rw [FIT.out]; simp [HN.out]; try omega)
    · have B1 := Lib.hid ((Below.refl w.heap.size w).alloc (Nat.le_refl _) (.cells #[.int .i64 10, .string n, .bool false, .slice AL 0 cL, .slice AN 0 cN, .slice AK c cK, .slice AA 0 cA] 36))
      go_enter Try.func153, Try.ntmps153
      go_wp2_with fail
      go_ret
      (refine says_of ?_ B1.out; rw [FIT.out]; simp [HN.out]; try omega)
  · have HN := Lib.hid (emp_t hn)
    have B1 := Lib.hid ((Below.refl w.heap.size w).alloc (Nat.le_refl _) (.cells #[.int .i64 10, .string n, .bool false, .slice AL 0 cL, .slice AN 0 cN, .slice AK c cK, .slice AA 0 cA] 36))
    go_enter Try.func153, Try.ntmps153
    go_wp2_with fail
    go_ret
    (refine says_of ?_ B1.out; rw [FIT.out]; simp [HN.out]; try omega)
end
end Go.Proofs.Ythidbmjdphfddaa
