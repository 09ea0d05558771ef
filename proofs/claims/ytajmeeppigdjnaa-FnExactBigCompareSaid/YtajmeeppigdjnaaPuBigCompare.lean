/- What the functions that the law 'FnExactBigCompare' compares come to, told as numbers; no condition. -/
import Derived.Test.YtajmeeppigdjnaaPFnExactBigComparex1
import Derived.Test.YtajmeeppigdjnaaPFnExactBigComparex2
import Derived.Test.YtajmeeppigdjnaaBigM
import Derived.Test.YtajmeeppigdjnaaOCmp
namespace Go.Proofs.Ytajmeeppigdjnaa.PFnExactBigCompare
open Go.RowKit Go.Proofs.Ytajmeeppigdjnaa Go.Proofs.Ytajmeeppigdjnaa.Own Go.Proofs.YtajmeeppigdjnaaW.PrintWords Go.Proofs.YtajmeeppigdjnaaW.PrintLast
set_option linter.unusedVariables false
set_option linter.unusedSimpArgs false

theorem spec_BigFault_is (m : Bool) (l : List Int) (hl : l.length ≤ 140737488351232) : spec_BigFault.f m l = some (bgFault m l) := by
  unfold spec_BigFault.f bgFault
  by_cases h0 : l.length = 0
  · rw [if_neg (by omega), if_neg (by omega), if_pos (by omega), if_pos h0]
  · rw [w64_in (by omega) (by omega), rd_lmb, show ((l.length : Int) - 1).toNat = l.length - 1 by omega, if_neg h0]
    by_cases h1 : 40 < l.length
    · rw [if_pos (by omega)]
      simp [h1]
    · rw [if_neg (by omega), if_pos (by omega), if_pos (by omega), if_pos (by omega)]
      by_cases h2 : lmb l (l.length - 1) = 0
      · rw [if_pos h2]; simp [h2]
      · rw [if_neg h2, if_neg (by omega)]
        simp [h2]
        omega

theorem impl_BigFault_is (m : Bool) (l : List Int) (hl : l.length ≤ 140737488351232) : impl_BigFault.f m l = some (bgFault m l) := by
  unfold impl_BigFault.f bgFault
  by_cases h0 : l.length = 0
  · rw [if_pos (by omega), if_pos h0]
  · rw [w64_in (by omega) (by omega), rd_lmb, show ((l.length : Int) - 1).toNat = l.length - 1 by omega, if_neg h0, if_neg (by omega)]
    by_cases h1 : 40 < l.length
    · rw [if_pos (by omega)]
      simp [h1]
    · rw [if_neg (by omega), if_pos (by omega), if_pos (by omega)]
      simp
      omega

theorem spec_l1Cmp_is {l l' : List Int} (hl : l.length ≤ 140737488351232) (hl' : l'.length ≤ 140737488351232) (hu : Us l) (hu' : Us l') : Ev (fun k => spec_l1Cmp.f k l l') (cmpI (val l) (val l')) :=
  Ev.congr (fun k => by unfold spec_l1Cmp.f; rw [if_pos ⟨hl, hl', hu, hu'⟩]) (Ev.now _)

theorem impl_compareLimbs_l {l l' : List Int} (hl : l.length ≤ 140737488351232) (he : l'.length = l.length) : ∀ j : Nat, j ≤ l.length → Ev (fun k => impl_compareLimbs.l0 k l l' ((j : Int) - 1)) (cmpL l l' j)
  | 0, _ => Ev.step (f := fun _ => some 0) (fun k => by simp only [impl_compareLimbs.l0]; rw [if_neg (by omega)]) (Ev.now _)
  | j + 1, hj => by
    have ih := impl_compareLimbs_l hl he j (by omega)
    have e1 : ((j + 1 : Nat) : Int) - 1 = (j : Int) := by omega
    rw [e1]
    simp only [cmpL]
    by_cases h1 : lmb l j < lmb l' j
    · rw [if_pos h1]
      exact Ev.step (f := fun _ => some (-1)) (fun k => by simp only [impl_compareLimbs.l0]; rw [if_pos (by omega), if_pos (by omega), if_pos (by omega), if_pos (by omega), rd_nat, rd_nat, if_pos h1]) (Ev.now _)
    · rw [if_neg h1]
      by_cases h2 : lmb l' j < lmb l j
      · rw [if_pos h2]
        exact Ev.step (f := fun _ => some 1) (fun k => by simp only [impl_compareLimbs.l0]; rw [if_pos (by omega), if_pos (by omega), if_pos (by omega), if_pos (by omega), rd_nat, rd_nat, if_neg h1, if_pos h2]) (Ev.now _)
      · rw [if_neg h2]
        exact Ev.step (fun k => by simp only [impl_compareLimbs.l0]; rw [if_pos (by omega), if_pos (by omega), if_pos (by omega), if_pos (by omega), rd_nat, rd_nat, if_neg h1, if_neg h2, w64_in (by omega) (by omega)]) ih
theorem impl_compareLimbs_is {l l' : List Int} (hl : l.length ≤ 140737488351232) (hl' : l'.length ≤ 140737488351232) (hu : Us l) (hu' : Us l') (ht : Top l) (ht' : Top l') : Ev (fun k => impl_compareLimbs.f k l l') (cmpI (val l) (val l')) := by
  by_cases h1 : l.length < l'.length
  · rw [cmp_len_lt hu hu' ht' h1]
    exact Ev.congr (fun k => by unfold impl_compareLimbs.f; rw [if_pos (by omega)]) (Ev.now _)
  · by_cases h2 : l'.length < l.length
    · rw [cmpI_flip, cmp_len_lt hu' hu ht h2]
      exact Ev.congr (fun k => by unfold impl_compareLimbs.f; rw [if_neg (by omega), if_pos (by omega)]; rfl) (Ev.now _)
    · have e : l'.length = l.length := by omega
      have h := impl_compareLimbs_l hl e l.length (Nat.le_refl _)
      rw [cmpL_vt hu hu', vt_val (Nat.le_refl _), vt_val (by omega)] at h
      exact Ev.congr (fun k => by unfold impl_compareLimbs.f; rw [if_neg (by omega), if_neg (by omega), w64_in (by omega) (by omega)]) h

theorem spec_BigCompare_j (m m' : Bool) (l l' : List Int) (hu : Us l) (hu' : Us l') (hl : l.length ≤ 140737488351232) (hl' : l'.length ≤ 140737488351232) : Ev (fun k => spec_BigCompare.j0 k (bgFault m l || bgFault m' l') m l m' l') (bgCmp m l m' l') := by
  unfold bgCmp
  refine Ev.step (fun k => by simp only [spec_BigCompare.j0]; rfl) ?_
  by_cases h : (bgFault m l || bgFault m' l') = true
  · simp only [if_pos h]; exact Ev.now _
  · simp only [if_neg h]
    by_cases h2 : (m != m') = true
    · simp only [if_pos h2]
      by_cases h3 : m = true
      · simp only [if_pos h3]; exact Ev.now _
      · simp only [if_neg h3]; exact Ev.now _
    · simp only [if_neg h2]
      by_cases h3 : m = true
      · simp only [if_pos h3]; exact Ev.bind (spec_l1Cmp_is hl' hl hu' hu) (Ev.now _)
      · simp only [if_neg h3]; exact Ev.bind (spec_l1Cmp_is hl hl' hu hu') (Ev.now _)
theorem spec_BigCompare_is (m m' : Bool) (l l' : List Int) (hu : Us l) (hu' : Us l') (hl : l.length ≤ 140737488351232) (hl' : l'.length ≤ 140737488351232) : Ev (fun k => spec_BigCompare.f k m l m' l') (bgCmp m l m' l') := by
  have h := spec_BigCompare_j m m' l l' hu hu' hl hl'
  refine Ev.congr (fun k => ?_) h
  unfold spec_BigCompare.f
  rw [spec_BigFault_is m l hl, spec_BigFault_is m' l' hl']
  cases bgFault m l <;> rfl
theorem impl_BigCompare_j (m m' : Bool) (l l' : List Int) (hu : Us l) (hu' : Us l') (hl : l.length ≤ 140737488351232) (hl' : l'.length ≤ 140737488351232) : Ev (fun k => impl_BigCompare.j0 k (bgFault m l || bgFault m' l') m l m' l') (bgCmp m l m' l') := by
  unfold bgCmp
  refine Ev.step (fun k => by simp only [impl_BigCompare.j0]; rfl) ?_
  by_cases h : (bgFault m l || bgFault m' l') = true
  · simp only [if_pos h]; exact Ev.now _
  · simp only [if_neg h]
    have hf : bgFault m l = false ∧ bgFault m' l' = false := by simpa using h
    obtain ⟨_, ht, _⟩ := bgFault_no hf.1
    obtain ⟨_, ht', _⟩ := bgFault_no hf.2
    by_cases h2 : (m != m') = true
    · simp only [if_pos h2]
      by_cases h3 : m = true
      · simp only [if_pos h3]; exact Ev.now _
      · simp only [if_neg h3]; exact Ev.now _
    · simp only [if_neg h2]
      refine Ev.bind (impl_compareLimbs_is hl hl' hu hu' ht ht') ?_
      have hr := cmpI_range (val l) (val l')
      by_cases h3 : m = true
      · simp only [if_pos h3]
        rw [w64_in (by omega) (by omega), cmpI_flip (val l) (val l')]
        exact Ev.now _
      · simp only [if_neg h3]; exact Ev.now _
theorem impl_BigCompare_is (m m' : Bool) (l l' : List Int) (hu : Us l) (hu' : Us l') (hl : l.length ≤ 140737488351232) (hl' : l'.length ≤ 140737488351232) : Ev (fun k => impl_BigCompare.f k m l m' l') (bgCmp m l m' l') := by
  have h := impl_BigCompare_j m m' l l' hu hu' hl hl'
  refine Ev.congr (fun k => ?_) h
  unfold impl_BigCompare.f
  rw [impl_BigFault_is m l hl, impl_BigFault_is m' l' hl']
  cases bgFault m l <;> rfl

end Go.Proofs.Ytajmeeppigdjnaa.PFnExactBigCompare
