/- The program's lexer: what each byte is; no condition. -/
import Derived.Test.YtifmnijdaboenaaDoorLxH
import Derived.Test.YtifmnijdaboenaaDoorShl
import Derived.Shelf.Small.Strs
namespace Go.Proofs.YtifmnijdaboenaaDoor
open Go.RowKit
set_option linter.unusedVariables false
set_option linter.unusedSimpArgs false

def isLt (c : Int) : Bool := (decide (97 ≤ c) && decide (c ≤ 122)) || (decide (65 ≤ c) && decide (c ≤ 90))
theorem implLetter (c : Int) (w : World) : Calls Tryd.prog 52 #[.int .u8 c] w fun e w' => e = .returned (.bool (isLt c)) ∧ w' = w := by
  go_enter Tryd.func52, Tryd.ntmps52
  go_wp2
  all_goals
    go_ret
    refine ⟨ret_bool ?_, rfl⟩
    simp_all [isLt] <;> omega
theorem implCapital (c : Int) (w : World) : Calls Tryd.prog 55 #[.int .u8 c] w fun e w' => e = .returned (.bool (isCap c)) ∧ w' = w := by
  go_enter Tryd.func55, Tryd.ntmps55
  go_wp2
  all_goals
    go_ret
    refine ⟨ret_bool ?_, rfl⟩
    simp_all [isCap] <;> omega
theorem implDigit (c : Int) (w : World) : Calls Tryd.prog 57 #[.int .u8 c] w fun e w' => e = .returned (.bool (isDig c)) ∧ w' = w := by
  go_enter Tryd.func57, Tryd.ntmps57
  go_wp2
  all_goals
    go_ret
    refine ⟨ret_bool ?_, rfl⟩
    simp_all [isDig] <;> omega
theorem isIn_eq (c : Int) : isIn c = (isLt c || isDig c || (c == 95) || (c == 39)) := by
  unfold isIn isSm isLt isCap
  cases decide (97 ≤ c) <;> cases decide (c ≤ 122) <;> cases (c == 95) <;> cases decide (65 ≤ c) <;> cases decide (c ≤ 90) <;> cases isDig c <;> rfl
theorem isLt_eq (c : Int) : (isSm c || isCap c) = (isLt c || (c == 95)) := by
  unfold isSm isLt isCap
  cases decide (97 ≤ c) <;> cases decide (c ≤ 122) <;> cases (c == 95) <;> cases decide (65 ≤ c) <;> cases decide (c ≤ 90) <;> rfl
theorem implName (c : Int) (w : World) : Calls Tryd.prog 54 #[.int .u8 c] w fun e w' => e = .returned (.bool (isIn c)) ∧ w' = w := by
  rw [isIn_eq]
  go_enter Tryd.func54, Tryd.ntmps54
  go_wp2_with (first | (go_at_call 52; refine (implLetter _ _).mono ?_; rintro e w1 ⟨rfl, hw⟩; obtain rfl := hw.symm) | (go_at_call 57; refine (implDigit _ _).mono ?_; rintro e w1 ⟨rfl, hw⟩; obtain rfl := hw.symm))
  all_goals
    go_ret
    refine ⟨ret_bool ?_, rfl⟩
    simp_all
theorem u8_of (c : Int) (h0 : 0 ≤ c) (h1 : c ≤ 255) (x : UInt8) : (x == c.toNat.toUInt8) = ((x.toNat : Int) == c) := by
  rw [Bool.eq_iff_iff, beq_iff_eq, beq_iff_eq]
  have e : (c.toNat.toUInt8).toNat = c.toNat := by simp [Nat.toUInt8]; omega
  constructor
  · rintro rfl; omega
  · intro h; exact UInt8.toNat_inj.1 (by omega)
theorem index_in (l : List UInt8) (c : Int) (h0 : 0 ≤ c) (h1 : c ≤ 255) : decide (0 ≤ Lib.indexByte l c.toNat.toUInt8) = inL l c := by
  induction l with
  | nil => rfl
  | cons x l ih =>
    have hg := Lib.indexByte_ge l c.toNat.toUInt8
    unfold Lib.indexByte
    have : inL (x :: l) c = (((x.toNat : Int) == c) || inL l c) := rfl
    rw [this, u8_of c h0 h1]
    cases ((x.toNat : Int) == c)
    · simp only [Bool.false_eq_true, if_false, Bool.false_or]
      rw [← ih]
      clear ih
      generalize Lib.indexByte l c.toNat.toUInt8 = z at *
      by_cases hm : z = -1
      · subst hm; rfl
      · rw [if_neg (by simpa using hm)]
        have h3 : 0 ≤ z := by omega
        have h4 : 0 ≤ z + 1 := by omega
        simp [h3, h4]
    · simp
theorem implSymbol (c : Int) (h0 : 0 ≤ c) (h1 : c ≤ 255) (w : World) : Calls Tryd.prog 60 #[.int .u8 c] w fun e w' => e = .returned (.bool (isSym c)) ∧ w' = w := by
  have HI := Lib.hid (Any.strings_IndexByte shlLays_n137 ⟨#[33, 35, 36, 37, 38, 42, 43, 46, 47, 60, 61, 62, 63, 64, 92, 94, 124, 45, 126, 58]⟩ c w)
  have HD := Lib.hid (index_in symL c h0 h1)
  go_enter Tryd.func60, Tryd.ntmps60
  by_cases hc : c = 0
  · subst hc
    go_wp2
    go_ret
    exact ⟨rfl, rfl⟩
  · go_wp2_with (go_at_call 74; refine HI.out.mono ?_; rintro e w1 ⟨rfl, hw⟩; obtain rfl := hw.symm)
    all_goals
      go_ret
      refine ⟨ret_bool ?_, rfl⟩
      have h2 := HD.out
      unfold isSym
      rw [← h2]
      simp_all [symL]
theorem implSpecial (c : Int) (h0 : 0 ≤ c) (h1 : c ≤ 255) (w : World) : Calls Tryd.prog 63 #[.int .u8 c] w fun e w' => e = .returned (.bool (isSpc c)) ∧ w' = w := by
  have HI := Lib.hid (Any.strings_IndexByte shlLays_n137 ⟨#[40, 41, 91, 93, 44, 59, 96, 123, 125]⟩ c w)
  have HD := Lib.hid (index_in specL c h0 h1)
  go_enter Tryd.func63, Tryd.ntmps63
  by_cases hc : c = 0
  · subst hc
    go_wp2
    go_ret
    exact ⟨rfl, rfl⟩
  · go_wp2_with (go_at_call 74; refine HI.out.mono ?_; rintro e w1 ⟨rfl, hw⟩; obtain rfl := hw.symm)
    all_goals
      go_ret
      refine ⟨ret_bool ?_, rfl⟩
      have h2 := HD.out
      unfold isSpc
      rw [← h2]
      simp_all [specL]
theorem implNoNl (c : Int) (w : World) : Calls Tryd.prog 62 #[.int .u8 c] w fun e w' => e = .returned (.bool (!(c == 10))) ∧ w' = w := by
  go_enter Tryd.func62, Tryd.ntmps62
  go_wp2
  go_ret
  refine ⟨ret_bool ?_, rfl⟩
  first | rfl | simp

end Go.Proofs.YtifmnijdaboenaaDoor
