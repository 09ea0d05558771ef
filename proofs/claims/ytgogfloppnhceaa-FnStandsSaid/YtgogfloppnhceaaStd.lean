/- What 'Stands' answers, in both; no condition. -/
import Derived.Test.YtgogfloppnhceaaFamOut
namespace Go.Proofs.Ytgogfloppnhceaa
open Go.RowKit
set_option linter.unusedVariables false
set_option linter.unusedSimpArgs false

/-- 'b begins with a'. -/
def stPre (a b : ByteArray) : Bool := decide (a.size ≤ b.size) && ((b.extract 0 a.size).toList == a.toList)
theorem stPre_self (a : ByteArray) : stPre a a = true := by
  simp [stPre]
def St (ae : Int) (ao : ByteArray) (be : Int) (bo : ByteArray) : Bool :=
  if ae = 7 ∨ ae = 5 then true
  else if ae = 0 ∨ ae = 4 then decide (be = ae) && (bo.toList == ao.toList)
  else if ae = 1 ∨ ae = 2 then (bo.toList == ao.toList) && decide (be = 1 ∨ be = 2 ∨ be = 3 ∨ be = 6 ∨ be = 8)
  else stPre ao bo || stPre bo ao

theorem long_any (e : Int) (w : World) : Calls Try.prog 51 #[.int .i64 e] w fun x w' => x = .returned (.bool (decide (e = 3 ∨ e = 6 ∨ e = 8))) ∧ w = w' := by
  by_cases h3 : e = 3
  · subst h3
    go_enter Try.func51, Try.ntmps51
    go_wp2
    go_ret
    exact ⟨rfl, rfl⟩
  · by_cases h6 : e = 6
    · subst h6
      go_enter Try.func51, Try.ntmps51
      go_wp2
      go_ret
      exact ⟨rfl, rfl⟩
    · have h3' : (e == 3) = false := by simpa using h3
      have h6' : (e == 6) = false := by simpa using h6
      have hf : decide (e = 3 ∨ e = 6 ∨ e = 8) = (e == 8) := by simp [h3, h6]; rfl
      rw [hf]
      clear hf h3 h6
      go_enter Try.func51, Try.ntmps51
      go_wp2
      go_ret
      exact ⟨rfl, rfl⟩

theorem begins_any (a b : ByteArray) (w : World) (ha : a.size ≤ 140737488351232) (hb : b.size ≤ 140737488351232) : Calls Try.prog 52 #[.string a, .string b] w fun x w' => x = .returned (.bool (stPre a b)) ∧ w = w' := by
  by_cases h : a.size ≤ b.size
  · have hf : stPre a b = ((b.extract 0 a.size).toList == a.toList) := by simp [stPre, h]
    rw [hf]
    clear hf
    go_enter Try.func52, Try.ntmps52
    go_wp2
    go_ret
    exact ⟨by simp, rfl⟩
  · have hf : stPre a b = false := by simp [stPre, h]
    rw [hf]
    clear hf
    go_enter Try.func52, Try.ntmps52
    go_wp2
    go_ret
    exact ⟨by simp, rfl⟩
theorem hasIn_any (a b : ByteArray) (w : World) (ha : a.size ≤ 140737488351232) (hb : b.size ≤ 140737488351232) : Calls Try.prog 74 #[.string a, .string b] w fun x w' => x = .returned (.bool (stPre b a)) ∧ w = w' := by
  by_cases h : b.size ≤ a.size
  · have hf : stPre b a = ((a.extract 0 b.size).toList == b.toList) := by simp [stPre, h]
    rw [hf]
    clear hf
    go_enter Try.func74, Try.ntmps74
    go_wp2
    go_ret
    exact ⟨by simp, rfl⟩
  · have hf : stPre b a = false := by simp [stPre, h]
    rw [hf]
    clear hf
    go_enter Try.func74, Try.ntmps74
    go_wp2
    go_ret
    exact ⟨by simp, rfl⟩
theorem has_any (a b : ByteArray) (w : World) (ha : a.size ≤ 140737488351232) (hb : b.size ≤ 140737488351232) : Calls Try.prog 53 #[.string a, .string b] w fun x w' => x = .returned (.bool (stPre b a)) ∧ w = w' := by
  go_enter Try.func53, Try.ntmps53
  go_wp2_with fail
  refine (hasIn_any a b _ ha hb).mono ?_
  rintro e w' ⟨rfl, rfl⟩
  go_wp2
  go_ret
  exact ⟨rfl, rfl⟩

def outD (e : Int) (o x : ByteArray) (s : Int) : D := .struct [.int .i64 e, .str o, .str x, .int .i64 s]

set_option maxRecDepth 100000 in
theorem specStands (ae : Int) (ao ax : ByteArray) (ad be : Int) (bo bx : ByteArray) (bd : Int) (ha : ao.size ≤ 140737488351232) (hb : bo.size ≤ 140737488351232) (w : World) (cs cs' : List Value) (h : Rd w (outD ae ao ax ad) cs) (h' : Rd w (outD be bo bx bd) cs') :
    Calls Try.prog 17 #[.agg cs.toArray, .agg cs'.toArray] w fun e w' => e = .returned (.bool (St ae ao be bo)) ∧ Below w.heap.size w w' := by
  obtain rfl := openOutcome h
  obtain rfl := openOutcome h'
  clear h h'
  have B2 := Lib.hid (((Below.refl w.heap.size w).alloc (Nat.le_refl _) (.cells #[.int .i64 ae, .string ao, .string ax, .int .i64 ad] 29)).alloc (by simp) (.cells #[.int .i64 be, .string bo, .string bx, .int .i64 bd] 29))
  go_enter Try.func17, Try.ntmps17
  go_wp2_with (first | (go_at_call 51; refine (long_any _ _).mono ?_; rintro e w' ⟨rfl, rfl⟩) | (go_at_call 52; refine (begins_any _ _ _ (by assumption) (by assumption)).mono ?_; rintro e w' ⟨rfl, rfl⟩))
  all_goals go_ret
  all_goals refine ⟨ret_bool ?_, ((Below.refl _ _).alloc (Nat.le_refl _) _).alloc (by simp) _⟩
  all_goals simp_all [St]

set_option maxRecDepth 100000 in
theorem implStands (ae : Int) (ao ax : ByteArray) (ad be : Int) (bo bx : ByteArray) (bd : Int) (ha : ao.size ≤ 140737488351232) (hb : bo.size ≤ 140737488351232) (w : World) (cs cs' : List Value) (h : Rd w (outD ae ao ax ad) cs) (h' : Rd w (outD be bo bx bd) cs') :
    Calls Try.prog 19 #[.agg cs.toArray, .agg cs'.toArray] w fun e w' => e = .returned (.bool (St ae ao be bo)) ∧ Below w.heap.size w w' := by
  obtain rfl := openOutcome h
  obtain rfl := openOutcome h'
  clear h h'
  go_enter Try.func19, Try.ntmps19
  go_wp2_with (go_at_call 53; refine (has_any _ _ _ (by assumption) (by assumption)).mono ?_; rintro e w' ⟨rfl, rfl⟩)
  all_goals go_ret
  all_goals refine ⟨ret_bool ?_, ((Below.refl _ _).alloc (Nat.le_refl _) _).alloc (by simp) _⟩
  all_goals simp_all [St]

end Go.Proofs.Ytgogfloppnhceaa
