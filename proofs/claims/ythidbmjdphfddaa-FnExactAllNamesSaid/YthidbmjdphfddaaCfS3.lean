/- The reference's shape of a core term: numbers, binders, primitives, other kinds; no condition. -/
import Derived.Test.YthidbmjdphfddaaCfS2
import Derived.Test.YthidbmjdphfddaaMp
namespace Go.Proofs.Ythidbmjdphfddaa
open Go.RowKit
set_option linter.unusedVariables false
set_option linter.unusedSimpArgs false

section
variable (n : ByteArray) (m : Bool) (l : List Int) (ns : List ByteArray) (ks : List Cr) (qs : List Ca) (w : World) (AL AN AK AA : Option Addr) (cL cN cK cA : Nat)
set_option maxRecDepth 100000 in
theorem shapeK2 (c : Nat) (hl : l.length ≤ 140737488351232) (hb : ns.length = 0) (hd : qs.length = 0) (h : Rd w (bigD m l) [.bool m, .slice AL l.length cL]) : Calls Try.prog 153 #[.agg #[.int .i64 2, .string n, .bool m, .slice AL l.length cL, .slice AN 0 cN, .slice AK c cK, .slice AA 0 cA]] w (Says (fitP 2 n m l ns c qs) w) := by
  have FIT : Hid (fitP 2 n m l ns c qs ↔ (n.toList = [] ∧ c = 0 ∧ bigFault m l = false)) := by show _ ↔ _; simp [fitP, hb, hd]
  have B1 := Lib.hid ((Below.refl w.heap.size w).alloc (Nat.le_refl _) (.cells #[.int .i64 2, .string n, .bool m, .slice AL l.length cL, .slice AN 0 cN, .slice AK c cK, .slice AA 0 cA] 36))
  have CB := Lib.hid (specBigFault m l hl _ _ (h.below B1.out))
  clear h hl hb hd
  generalize l.length = a at *
  cases hn : n.toList.isEmpty
  · have HN := Lib.hid (emp_f hn)
    by_cases ha : 0 < a
    · go_enter Try.func153, Try.ntmps153
      go_wp2_with fail
      go_ret
      refine says_of ?_ B1.out
      rw [FIT.out]
      simp [HN.out]
    · obtain rfl : a = 0 := by omega
      go_enter Try.func153, Try.ntmps153
      go_wp2_with fail
      go_ret
      refine says_of ?_ B1.out
      rw [FIT.out]
      simp [HN.out]
  · have HN := Lib.hid (emp_t hn)
    by_cases hc : c = 0
    · subst hc
      by_cases ha : 0 < a
      · go_enter Try.func153, Try.ntmps153
        go_wp2_with fail
        refine CB.out.mono ?_
        rintro e w1 ⟨rfl, hb⟩
        have HB := Lib.hid (B1.out.trans (hb.mono B1.out.size))
        clear hb
        go_wp2
        go_ret
        refine says_of ?_ HB.out
        rw [FIT.out]
        simp [HN.out]
      · obtain rfl : a = 0 := by omega
        go_enter Try.func153, Try.ntmps153
        go_wp2_with fail
        refine CB.out.mono ?_
        rintro e w1 ⟨rfl, hb⟩
        have HB := Lib.hid (B1.out.trans (hb.mono B1.out.size))
        clear hb
        go_wp2
        go_ret
        refine says_of ?_ HB.out
        rw [FIT.out]
        simp [HN.out]
    · have hc' : ((c : Int) == 0) = false := by rw [beq_eq_false_iff_ne]; omega
      have HC := Lib.hid hc
      clear hc
      by_cases ha : 0 < a
      · go_enter Try.func153, Try.ntmps153
        go_wp2_with fail
        go_ret
        refine says_of ?_ B1.out
        rw [FIT.out]
        simp [HC.out]
      · obtain rfl : a = 0 := by omega
        go_enter Try.func153, Try.ntmps153
        go_wp2_with fail
        go_ret
        refine says_of ?_ B1.out
        rw [FIT.out]
        simp [HC.out]
set_option maxRecDepth 100000 in
theorem shapeK6 (c : Nat) (hl : l.length = 0) (hb : ns.length ≤ 140737488351232) (hd : qs.length = 0) (h : Rd w (.slice 1 (strs ns)) [.slice AN ns.length cN]) : Calls Try.prog 153 #[.agg #[.int .i64 6, .string n, .bool false, .slice AL 0 cL, .slice AN ns.length cN, .slice AK c cK, .slice AA 0 cA]] w (Says (fitP 6 n false l ns c qs) w) := by
  have FIT : Hid (fitP 6 n false l ns c qs ↔ (n.toList = [] ∧ c = 1 ∧ 1 ≤ ns.length ∧ okNames ns = true)) := by show _ ↔ _; simp [fitP, hl, hd]
  have B1 := Lib.hid ((Below.refl w.heap.size w).alloc (Nat.le_refl _) (.cells #[.int .i64 6, .string n, .bool false, .slice AL 0 cL, .slice AN ns.length cN, .slice AK c cK, .slice AA 0 cA] 36))
  have CB := Lib.hid (specNamesOk ns hb _ _ (h.below B1.out))
  have hbb : (ns.length : Int) ≤ 140737488351232 := by omega
  clear h hl hb hd
  generalize okNames ns = g at *
  generalize ns.length = b at *
  cases hn : n.toList.isEmpty
  · have HN := Lib.hid (emp_f hn)
    go_enter Try.func153, Try.ntmps153
    go_wp2_with fail
    go_ret
    refine says_of ?_ B1.out
    rw [FIT.out]
    simp [HN.out]
  · have HN := Lib.hid (emp_t hn)
    by_cases hc : c = 1
    · have H_hc := Lib.hid hc
      have q_hc : (((c : Int) == 1)) = true := by rw [beq_iff_eq]; omega
      clear hc
      by_cases hb : 1 ≤ b
      · have H_hb := Lib.hid hb
        have q_hb : (1 : Int) ≤ (b : Int) := by omega
        clear hb
        go_enter Try.func153, Try.ntmps153
        go_wp2_with fail
        refine CB.out.mono ?_
        rintro e w1 ⟨rfl, hb1⟩
        have HB := Lib.hid (B1.out.trans (hb1.mono B1.out.size))
        clear hb1
        go_wp2
        go_ret
        refine says_of ?_ HB.out
        rw [FIT.out]
        have g1 := H_hb.out
        have g2 := H_hc.out
        simp [HN.out, g1, g2]
      · have H_hb := Lib.hid hb
        have q_hb : ¬ (1 : Int) ≤ (b : Int) := by omega
        clear hb
        go_enter Try.func153, Try.ntmps153
        go_wp2_with fail
        go_ret
        refine says_of ?_ B1.out
        rw [FIT.out]
        have g1 := H_hb.out
        simp [g1]
    · have H_hc := Lib.hid hc
      have q_hc : (((c : Int) == 1)) = false := by rw [beq_eq_false_iff_ne]; omega
      clear hc
      go_enter Try.func153, Try.ntmps153
      go_wp2_with fail
      go_ret
      refine says_of ?_ B1.out
      rw [FIT.out]
      have g1 := H_hc.out
      simp [g1]
set_option maxRecDepth 100000 in
theorem shapeK7 (c : Nat) (hl : l.length = 0) (hb : ns.length ≤ 140737488351232) (hd : qs.length = 0) (h : Rd w (.slice 1 (strs ns)) [.slice AN ns.length cN]) : Calls Try.prog 153 #[.agg #[.int .i64 7, .string n, .bool false, .slice AL 0 cL, .slice AN ns.length cN, .slice AK c cK, .slice AA 0 cA]] w (Says (fitP 7 n false l ns c qs) w) := by
  have FIT : Hid (fitP 7 n false l ns c qs ↔ (n.toList = [] ∧ 1 ≤ ns.length ∧ c = ns.length + 1 ∧ okNames ns = true)) := by show _ ↔ _; simp [fitP, hl, hd]
  have B1 := Lib.hid ((Below.refl w.heap.size w).alloc (Nat.le_refl _) (.cells #[.int .i64 7, .string n, .bool false, .slice AL 0 cL, .slice AN ns.length cN, .slice AK c cK, .slice AA 0 cA] 36))
  have CB := Lib.hid (specNamesOk ns hb _ _ (h.below B1.out))
  have hbb : (ns.length : Int) ≤ 140737488351232 := by omega
  clear h hl hb hd
  generalize okNames ns = g at *
  generalize ns.length = b at *
  cases hn : n.toList.isEmpty
  · have HN := Lib.hid (emp_f hn)
    go_enter Try.func153, Try.ntmps153
    go_wp2_with fail
    go_ret
    refine says_of ?_ B1.out
    rw [FIT.out]
    simp [HN.out]
  · have HN := Lib.hid (emp_t hn)
    by_cases hb : 1 ≤ b
    · have H_hb := Lib.hid hb
      have q_hb : (1 : Int) ≤ (b : Int) := by omega
      clear hb
      by_cases hc : c = b + 1
      · have H_hc := Lib.hid hc
        have q_hc : (((c : Int) == (b : Int) + 1)) = true := by rw [beq_iff_eq]; omega
        clear hc
        go_enter Try.func153, Try.ntmps153
        go_wp2_with fail
        refine CB.out.mono ?_
        rintro e w1 ⟨rfl, hb1⟩
        have HB := Lib.hid (B1.out.trans (hb1.mono B1.out.size))
        clear hb1
        go_wp2
        go_ret
        refine says_of ?_ HB.out
        rw [FIT.out]
        have g1 := H_hb.out
        have g2 := H_hc.out
        simp [HN.out, g1, g2]
      · have H_hc := Lib.hid hc
        have q_hc : (((c : Int) == (b : Int) + 1)) = false := by rw [beq_eq_false_iff_ne]; omega
        clear hc
        go_enter Try.func153, Try.ntmps153
        go_wp2_with fail
        go_ret
        refine says_of ?_ B1.out
        rw [FIT.out]
        have g1 := H_hc.out
        simp [g1]
    · have H_hb := Lib.hid hb
      have q_hb : ¬ (1 : Int) ≤ (b : Int) := by omega
      clear hb
      go_enter Try.func153, Try.ntmps153
      go_wp2_with fail
      go_ret
      refine says_of ?_ B1.out
      rw [FIT.out]
      have g1 := H_hb.out
      simp [g1]
set_option maxRecDepth 100000 in
theorem shapeK9 (c : Nat) (hl : l.length = 0) (hb : ns.length = 0) (hd : qs.length = 0) : Calls Try.prog 153 #[.agg #[.int .i64 9, .string n, .bool false, .slice AL 0 cL, .slice AN 0 cN, .slice AK c cK, .slice AA 0 cA]] w (Says (fitP 9 n false l ns c qs) w) := by
  have FIT : Hid (fitP 9 n false l ns c qs ↔ (0 < primN n ∧ (c : Int) = primN n)) := by show _ ↔ _; simp [fitP, hl, hb, hd]
  clear hl hb hd
  have PR := primN_le n
  have CP := Lib.hid (specPrim n)
  generalize primN n = q at *
  have B1 := Lib.hid ((Below.refl w.heap.size w).alloc (Nat.le_refl _) (.cells #[.int .i64 9, .string n, .bool false, .slice AL 0 cL, .slice AN 0 cN, .slice AK c cK, .slice AA 0 cA] 36))
  by_cases h0 : 0 < q
  · by_cases he : (c : Int) = q
    · subst he
      go_enter Try.func153, Try.ntmps153
      go_wp2_with (go_at_call 180; refine (CP.out _).mono ?_; rintro e w1 ⟨rfl, rfl⟩)
      go_ret
      refine says_of ?_ B1.out
      rw [FIT.out]
      simp; omega
    · have he' : ((c : Int) == q) = false := by rw [beq_eq_false_iff_ne]; exact he
      have HE := Lib.hid he
      clear he
      go_enter Try.func153, Try.ntmps153
      go_wp2_with (go_at_call 180; refine (CP.out _).mono ?_; rintro e w1 ⟨rfl, rfl⟩)
      go_ret
      refine says_of ?_ B1.out
      rw [FIT.out]
      simp [HE.out]
  · go_enter Try.func153, Try.ntmps153
    go_wp2_with (go_at_call 180; refine (CP.out _).mono ?_; rintro e w1 ⟨rfl, rfl⟩)
    go_ret
    refine says_of ?_ B1.out
    rw [FIT.out]
    simp; omega
set_option maxRecDepth 100000 in
theorem shapeKx (k : Int) (c : Nat) (hk : ¬ (1 ≤ k ∧ k ≤ 10)) (hl : l.length = 0) (hb : ns.length = 0) (hd : qs.length = 0) : Calls Try.prog 153 #[.agg #[.int .i64 k, .string n, .bool false, .slice AL 0 cL, .slice AN 0 cN, .slice AK c cK, .slice AA 0 cA]] w (Says (fitP k n false l ns c qs) w) := by
  have FIT : Hid (¬ fitP k n false l ns c qs) := by
    show ¬ _
    unfold fitP
    rintro ⟨_, _, _, h⟩
    omega
  clear hl hb hd
  have k1 : (k == 1) = false := by rw [beq_eq_false_iff_ne]; omega
  have j1 : (k != 1) = true := by rw [bne_iff_ne]; omega
  have k2 : (k == 2) = false := by rw [beq_eq_false_iff_ne]; omega
  have j2 : (k != 2) = true := by rw [bne_iff_ne]; omega
  have k3 : (k == 3) = false := by rw [beq_eq_false_iff_ne]; omega
  have j3 : (k != 3) = true := by rw [bne_iff_ne]; omega
  have k4 : (k == 4) = false := by rw [beq_eq_false_iff_ne]; omega
  have j4 : (k != 4) = true := by rw [bne_iff_ne]; omega
  have k5 : (k == 5) = false := by rw [beq_eq_false_iff_ne]; omega
  have j5 : (k != 5) = true := by rw [bne_iff_ne]; omega
  have k6 : (k == 6) = false := by rw [beq_eq_false_iff_ne]; omega
  have j6 : (k != 6) = true := by rw [bne_iff_ne]; omega
  have k7 : (k == 7) = false := by rw [beq_eq_false_iff_ne]; omega
  have j7 : (k != 7) = true := by rw [bne_iff_ne]; omega
  have k8 : (k == 8) = false := by rw [beq_eq_false_iff_ne]; omega
  have j8 : (k != 8) = true := by rw [bne_iff_ne]; omega
  have k9 : (k == 9) = false := by rw [beq_eq_false_iff_ne]; omega
  have j9 : (k != 9) = true := by rw [bne_iff_ne]; omega
  have k10 : (k == 10) = false := by rw [beq_eq_false_iff_ne]; omega
  have j10 : (k != 10) = true := by rw [bne_iff_ne]; omega
  clear hk
  have B1 := Lib.hid ((Below.refl w.heap.size w).alloc (Nat.le_refl _) (.cells #[.int .i64 k, .string n, .bool false, .slice AL 0 cL, .slice AN 0 cN, .slice AK c cK, .slice AA 0 cA] 36))
  go_enter Try.func153, Try.ntmps153
  go_wp2_with fail
  go_ret
  exact says_of (iff_of_false (by decide) FIT.out) B1.out
end
end Go.Proofs.Ythidbmjdphfddaa
