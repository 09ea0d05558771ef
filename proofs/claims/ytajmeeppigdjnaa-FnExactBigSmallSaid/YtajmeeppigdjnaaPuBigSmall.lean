/- What the functions that the law 'FnExactBigSmall' compares come to, told as numbers; no condition. -/
import Derived.Test.YtajmeeppigdjnaaPFnExactBigSmallx1
import Derived.Test.YtajmeeppigdjnaaPFnExactBigSmallx2
import Derived.Test.YtajmeeppigdjnaaBigM
namespace Go.Proofs.Ytajmeeppigdjnaa.Own
end Go.Proofs.Ytajmeeppigdjnaa.Own
namespace Go.Proofs.Ytajmeeppigdjnaa.PFnExactBigSmall
open Go.RowKit Go.Proofs.Ytajmeeppigdjnaa Go.Proofs.Ytajmeeppigdjnaa.Own Go.Proofs.YtajmeeppigdjnaaW.PrintWords Go.Proofs.YtajmeeppigdjnaaW.PrintLast Go.Proofs.YtajmeeppigdjnaaW.PrintMore
set_option linter.unusedVariables false
set_option linter.unusedSimpArgs false

theorem spec_BigFault_is (m : Bool) (l : List Int) (hl : l.length ≤ 140737488351232) : spec_BigFault.f m l = some (bgFault m l) := by
  unfold spec_BigFault.f bgFault
  by_cases h0 : l.length = 0
  · rw [if_neg (by omega), if_neg (by omega), if_pos (by omega), if_pos h0]
  · rw [w64_in (by omega) (by omega), rd_lmb, show ((l.length : Int) - 1).toNat = l.length - 1 by omega, if_neg h0]
    by_cases h1 : 40 < l.length
    · rw [if_pos (by omega)]
      simp [h1]
    · rw [if_neg (by omega), if_pos (by omega), if_pos (by omega), if_pos (by omega)]
      by_cases h2 : lmb l (l.length - 1) = 0
      · rw [if_pos h2]; simp [h2]
      · rw [if_neg h2, if_neg (by omega)]
        simp [h2]
        omega

theorem impl_BigFault_is (m : Bool) (l : List Int) (hl : l.length ≤ 140737488351232) : impl_BigFault.f m l = some (bgFault m l) := by
  unfold impl_BigFault.f bgFault
  by_cases h0 : l.length = 0
  · rw [if_pos (by omega), if_pos h0]
  · rw [w64_in (by omega) (by omega), rd_lmb, show ((l.length : Int) - 1).toNat = l.length - 1 by omega, if_neg h0, if_neg (by omega)]
    by_cases h1 : 40 < l.length
    · rw [if_pos (by omega)]
      simp [h1]
    · rw [if_neg (by omega), if_pos (by omega), if_pos (by omega)]
      simp
      omega

theorem spec_l1Limb_is {l : List Int} (hu : Us l) (i : Nat) : spec_l1Limb.f l (i : Int) = some (lmb l i) := by
  have h := lmb_range hu i
  unfold spec_l1Limb.f
  by_cases hi : i < l.length
  · rw [if_pos (by omega), if_pos (by omega), rd_nat, u64_in h.1 (by omega)]
  · rw [if_neg (by omega), lmb_over (by omega)]

theorem spec_BigSmall_is (m : Bool) (l : List Int) (hu : Us l) (hl : l.length ≤ 140737488351232) : Ev (fun k => spec_BigSmall.f k m l) (bgSmall m l) := by
  have key : Ev (fun k => spec_BigSmall.j0 k (bgFault m l || decide (2 < l.length)) m l) (bgSmall m l) := by
    unfold bgSmall
    refine Ev.step (fun k => by simp only [spec_BigSmall.j0]; rfl) ?_
    by_cases h : (bgFault m l || decide (2 < l.length)) = true
    · simp only [if_pos h]; exact Ev.now _
    · simp only [if_neg h]
      have hl2 : l.length ≤ 2 := by simp at h; omega
      unfold smallOf
      have h0 := lmb_range hu 0
      have h1 := lmb_range hu 1
      have e0 : spec_l1Limb.f l 0 = some (lmb l 0) := spec_l1Limb_is hu 0
      have e1 : spec_l1Limb.f l 1 = some (lmb l 1) := spec_l1Limb_is hu 1
      simp only [e0, e1, Option.bind_some]
      rw [u64_in (by omega) (by omega), or_join h0.1 h0.2 h1.1 h1.2, ← val_two hl2]
      by_cases h3 : m = true
      · simp only [if_pos h3]
        refine Ev.step (fun k => by simp only [spec_BigSmall.j1]; rfl) ?_
        by_cases h4 : val l ≤ 9223372036854775808
        · simp only [if_pos h4, decide_eq_true h4, if_true]; exact Ev.now _
        · simp only [if_neg h4, decide_eq_false h4, if_pos h3, Bool.false_eq_true, if_false]; exact Ev.now _
      · simp only [if_neg h3]
        refine Ev.step (fun k => by simp only [spec_BigSmall.j1]; rfl) ?_
        simp only [Bool.false_eq_true, if_false, if_neg h3]
        by_cases h4 : val l < 9223372036854775808
        · simp only [if_pos h4]; exact Ev.now _
        · simp only [if_neg h4]; exact Ev.now _
  refine Ev.congr (fun k => ?_) key
  unfold spec_BigSmall.f
  rw [spec_BigFault_is m l hl, show decide ((l.length : Int) > 2) = decide (2 < l.length) from decide_eq_decide.2 (by omega)]
  cases bgFault m l <;> simp
theorem impl_BigSmall_l (m : Bool) (l : List Int) (hu : Us l) (hl2 : l.length ≤ 2) : ∀ d i : Nat, i + d = l.length → Ev (fun k => impl_BigSmall.l0 k (vt l i) l (l.length : Int) (i : Int) m l) (smallOf m (val l))
  | 0, i, hi => by
    refine Ev.step (fun k => by simp only [impl_BigSmall.l0]; rfl) ?_
    obtain rfl : i = l.length := by omega
    have e : vt l l.length = val l := rfl
    simp only [if_neg (show ¬ ((l.length : Int) < (l.length : Int)) by omega), e]
    unfold smallOf
    by_cases h3 : m = true
    · simp only [if_pos h3]
      by_cases h4 : val l ≤ 9223372036854775808
      · simp only [if_pos h4, if_neg (show ¬ (val l > 9223372036854775808) by omega)]; exact Ev.now _
      · simp only [if_neg h4, if_pos (show val l > 9223372036854775808 by omega)]; exact Ev.now _
    · simp only [if_neg h3]
      by_cases h4 : val l < 9223372036854775808
      · simp only [if_pos h4, if_neg (show ¬ (val l ≥ 9223372036854775808) by omega)]; exact Ev.now _
      · simp only [if_neg h4, if_pos (show val l ≥ 9223372036854775808 by omega)]; exact Ev.now _
  | d + 1, i, hi => by
    have ih := impl_BigSmall_l m l hu hl2 d (i + 1) (by omega)
    have h := lmb_range hu i
    have e1 : wrap64 (32 * (i : Int)) = 32 * (i : Int) := w64_in (by omega) (by omega)
    have e2 : wrap64 ((i : Int) + 1) = ((i + 1 : Nat) : Int) := by rw [w64_in (by omega) (by omega)]; omega
    have e3 : Go.bits .or .u64 (vt l i) (shl .u64 (lmb l i) (32 * (i : Int))) = vt l (i + 1) := or_shl hu (by omega)
    exact Ev.step (fun k => by simp only [impl_BigSmall.l0]; rw [if_pos (by omega), if_pos (by omega), if_pos (by omega), e1, if_pos (by omega), rd_nat, u64_in h.1 (by omega), e3, e2]) ih
theorem impl_BigSmall_is (m : Bool) (l : List Int) (hu : Us l) (hl : l.length ≤ 140737488351232) : Ev (fun k => impl_BigSmall.f k m l) (bgSmall m l) := by
  have key : Ev (fun k => impl_BigSmall.j0 k (bgFault m l || decide (2 < l.length)) m l) (bgSmall m l) := by
    unfold bgSmall
    refine Ev.step (fun k => by simp only [impl_BigSmall.j0]; rfl) ?_
    by_cases h : (bgFault m l || decide (2 < l.length)) = true
    · simp only [if_pos h]; exact Ev.now _
    · simp only [if_neg h]
      exact impl_BigSmall_l m l hu (by simp at h; omega) l.length 0 (by omega)
  refine Ev.congr (fun k => ?_) key
  unfold impl_BigSmall.f
  rw [impl_BigFault_is m l hl, show decide ((l.length : Int) > 2) = decide (2 < l.length) from decide_eq_decide.2 (by omega)]
  cases bgFault m l <;> simp

end Go.Proofs.Ytajmeeppigdjnaa.PFnExactBigSmall
