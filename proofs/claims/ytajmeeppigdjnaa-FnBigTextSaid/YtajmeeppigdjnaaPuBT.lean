/- What the printed functions of great numbers, their texts and small ones come to, told as numbers; no condition. -/
import Derived.Test.YtajmeeppigdjnaaEB1
import Derived.Test.YtajmeeppigdjnaaEB2
import Derived.Test.YtajmeeppigdjnaaEB4
import Derived.Test.YtajmeeppigdjnaaEB5
import Derived.Test.YtajmeeppigdjnaaEB7
import Derived.Test.YtajmeeppigdjnaaEBR
import Derived.Test.YtajmeeppigdjnaaBigM
import Derived.Test.YtajmeeppigdjnaaOCmp
import Derived.Test.YtajmeeppigdjnaaOAdd
import Derived.Test.YtajmeeppigdjnaaReadN
namespace Go.Proofs.Ytajmeeppigdjnaa.Own
end Go.Proofs.Ytajmeeppigdjnaa.Own
namespace Go.Proofs.Ytajmeeppigdjnaa.PFnBigText
open Go.RowKit Go.Proofs.Ytajmeeppigdjnaa Go.Proofs.Ytajmeeppigdjnaa.Own Go.Proofs.YtajmeeppigdjnaaW.PrintWords Go.Proofs.YtajmeeppigdjnaaW.PrintLast Go.Proofs.YtajmeeppigdjnaaW.PrintMore
set_option linter.unusedVariables false
set_option linter.unusedSimpArgs false
theorem spec_BigFault_is (m : Bool) (l : List Int) (hl : l.length ≤ 140737488351232) : spec_BigFault.f m l = some (bgFault m l) := by
  unfold spec_BigFault.f bgFault
  by_cases h0 : l.length = 0
  · rw [if_neg (by omega), if_neg (by omega), if_pos (by omega), if_pos h0]
  · rw [w64_in (by omega) (by omega), rd_lmb, show ((l.length : Int) - 1).toNat = l.length - 1 by omega, if_neg h0]
    by_cases h1 : 40 < l.length
    · rw [if_pos (by omega)]
      simp [h1]
    · rw [if_neg (by omega), if_pos (by omega), if_pos (by omega), if_pos (by omega)]
      by_cases h2 : lmb l (l.length - 1) = 0
      · rw [if_pos h2]; simp [h2]
      · rw [if_neg h2, if_neg (by omega)]
        simp [h2]
        omega
theorem impl_BigFault_is (m : Bool) (l : List Int) (hl : l.length ≤ 140737488351232) : impl_BigFault.f m l = some (bgFault m l) := by
  unfold impl_BigFault.f bgFault
  by_cases h0 : l.length = 0
  · rw [if_pos (by omega), if_pos h0]
  · rw [w64_in (by omega) (by omega), rd_lmb, show ((l.length : Int) - 1).toNat = l.length - 1 by omega, if_neg h0, if_neg (by omega)]
    by_cases h1 : 40 < l.length
    · rw [if_pos (by omega)]
      simp [h1]
    · rw [if_neg (by omega), if_pos (by omega), if_pos (by omega)]
      simp
      omega
theorem spec_l1Cmp_is {l l' : List Int} (hl : l.length ≤ 140737488351232) (hl' : l'.length ≤ 140737488351232) (hu : Us l) (hu' : Us l') : Ev (fun k => spec_l1Cmp.f k l l') (cmpI (val l) (val l')) :=
  Ev.congr (fun k => by unfold spec_l1Cmp.f; rw [if_pos ⟨hl, hl', hu, hu'⟩]) (Ev.now _)
theorem spec_l1Trim_is {l : List Int} (hl : l.length ≤ 35184372088831) (hu : Us l) : Ev (fun k => spec_l1Trim.f k l) (lim (val l)) :=
  Ev.congr (fun k => by unfold spec_l1Trim.f; rw [if_pos ⟨hl, hu⟩]) (Ev.now _)
theorem spec_l1Make_is (m : Bool) (l : List Int) : spec_l1Make.f m l = some (m && decide (0 < l.length), l) := by
  unfold spec_l1Make.f
  cases m <;> simp
theorem impl_compareLimbs_l {l l' : List Int} (hl : l.length ≤ 140737488351232) (he : l'.length = l.length) : ∀ j : Nat, j ≤ l.length → Ev (fun k => impl_compareLimbs.l0 k l l' ((j : Int) - 1)) (cmpL l l' j)
  | 0, _ => Ev.step (f := fun _ => some 0) (fun k => by simp only [impl_compareLimbs.l0]; rw [if_neg (by omega)]) (Ev.now _)
  | j + 1, hj => by
    have ih := impl_compareLimbs_l hl he j (by omega)
    have e1 : ((j + 1 : Nat) : Int) - 1 = (j : Int) := by omega
    rw [e1]
    simp only [cmpL]
    by_cases h1 : lmb l j < lmb l' j
    · rw [if_pos h1]
      exact Ev.step (f := fun _ => some (-1)) (fun k => by simp only [impl_compareLimbs.l0]; rw [if_pos (by omega), if_pos (by omega), if_pos (by omega), if_pos (by omega), rd_nat, rd_nat, if_pos h1]) (Ev.now _)
    · rw [if_neg h1]
      by_cases h2 : lmb l' j < lmb l j
      · rw [if_pos h2]
        exact Ev.step (f := fun _ => some 1) (fun k => by simp only [impl_compareLimbs.l0]; rw [if_pos (by omega), if_pos (by omega), if_pos (by omega), if_pos (by omega), rd_nat, rd_nat, if_neg h1, if_pos h2]) (Ev.now _)
      · rw [if_neg h2]
        exact Ev.step (fun k => by simp only [impl_compareLimbs.l0]; rw [if_pos (by omega), if_pos (by omega), if_pos (by omega), if_pos (by omega), rd_nat, rd_nat, if_neg h1, if_neg h2, w64_in (by omega) (by omega)]) ih
theorem impl_compareLimbs_is {l l' : List Int} (hl : l.length ≤ 140737488351232) (hl' : l'.length ≤ 140737488351232) (hu : Us l) (hu' : Us l') (ht : Top l) (ht' : Top l') : Ev (fun k => impl_compareLimbs.f k l l') (cmpI (val l) (val l')) := by
  by_cases h1 : l.length < l'.length
  · rw [cmp_len_lt hu hu' ht' h1]
    exact Ev.congr (fun k => by unfold impl_compareLimbs.f; rw [if_pos (by omega)]) (Ev.now _)
  · by_cases h2 : l'.length < l.length
    · rw [cmpI_flip, cmp_len_lt hu' hu ht h2]
      exact Ev.congr (fun k => by unfold impl_compareLimbs.f; rw [if_neg (by omega), if_pos (by omega)]; rfl) (Ev.now _)
    · have e : l'.length = l.length := by omega
      have h := impl_compareLimbs_l hl e l.length (Nat.le_refl _)
      rw [cmpL_vt hu hu', vt_val (Nat.le_refl _), vt_val (by omega)] at h
      exact Ev.congr (fun k => by unfold impl_compareLimbs.f; rw [if_neg (by omega), if_neg (by omega), w64_in (by omega) (by omega)]) h
theorem impl_trimLimbs_l {l : List Int} (hu : Us l) (hl : l.length ≤ 140737488351232) : ∀ j : Nat, j ≤ l.length → val l = vt l j → Ev (fun k => impl_trimLimbs.l0 k (l.take j)) (lim (val l))
  | 0, _, hv => by
    have e : val l = 0 := by rw [hv]; rfl
    rw [e, lim_zero]
    exact Ev.step (f := fun _ => some []) (fun k => by simp [impl_trimLimbs.l0]) (Ev.now _)
  | j + 1, hj, hv => by
    have hlen : (l.take (j + 1)).length = j + 1 := by rw [List.length_take]; omega
    have hr : rd (l.take (j + 1)) (j : Int) = lmb l j := by
      rw [rd_nat]
      simp [lmb, List.getD_eq_getElem?_getD, List.getElem?_take]
    have ew : wrap64 (((j + 1 : Nat) : Int) - 1) = (j : Int) := by rw [w64_in (by omega) (by omega)]; omega
    by_cases hz : lmb l j = 0
    · have ih := impl_trimLimbs_l hu hl j (by omega) (by rw [hv]; simp [vt, hz])
      refine Ev.step (fun k => ?_) ih
      simp only [impl_trimLimbs.l0, hlen, ew, hr]
      rw [if_pos (by omega), if_pos (by omega), if_pos (by omega), if_pos hz, if_pos (by omega), Int.toNat_natCast, List.take_take, Nat.min_eq_left (by omega)]
    · have e : l.take (j + 1) = lim (val l) := by
        have h1 : val (l.take (j + 1)) = val l := by
          rw [hv]
          unfold val
          rw [hlen]
          exact vt_congr (fun i hi => by simp [lmb, List.getD_eq_getElem?_getD, List.getElem?_take, hi])
        rw [← h1]
        refine (lim_val (hu.take _) (fun _ => ?_)).symm
        rw [hlen, Nat.add_sub_cancel]
        simpa [lmb, List.getD_eq_getElem?_getD, List.getElem?_take] using hz
      rw [← e]
      refine Ev.step (f := fun _ => some (l.take (j + 1))) (fun k => ?_) (Ev.now _)
      simp only [impl_trimLimbs.l0, hlen, ew, hr]
      rw [if_pos (by omega), if_pos (by omega), if_pos (by omega), if_neg hz]
theorem impl_trimLimbs_is {l : List Int} (hu : Us l) (hl : l.length ≤ 140737488351232) : Ev (fun k => impl_trimLimbs.f k l) (lim (val l)) := by
  have h := impl_trimLimbs_l hu hl l.length (Nat.le_refl _) rfl
  rw [List.take_length] at h
  exact h
theorem impl_makeBig_is (m : Bool) {l : List Int} (hu : Us l) (hl : l.length ≤ 1048576) : Ev (fun k => impl_makeBig.f k m l) (m && decide (0 < (lim (val l)).length), lim (val l)) := by
  have h0 := lim_len_le (val_nonneg hu) (val_lt hu)
  unfold impl_makeBig.f
  refine Ev.bind (impl_trimLimbs_is hu (by omega)) ?_
  by_cases h : (lim (val l)).length = 0
  · have e := List.eq_nil_of_length_eq_zero h
    rw [e]
    simp
    exact Ev.now _
  · simp only [if_neg (show ¬ ((lim (val l)).length : Int) = 0 by omega), Option.bind_some, List.nil_append, List.length_nil, Nat.zero_add, if_pos (show (lim (val l)).length < 35184372088832 by omega)]
    have e : (m && decide (0 < (lim (val l)).length)) = m := by
      rw [decide_eq_true (show 0 < (lim (val l)).length by omega), Bool.and_true]
    rw [e]
    exact Ev.now _
theorem impl_bigAnswer_is (m : Bool) {l : List Int} (hu : Us l) (hl : l.length ≤ 1048576) : Ev (fun k => impl_bigAnswer.f k m l) (bgRes (if m = true then -val l else val l)) := by
  rw [res_done m (val_nonneg hu)]
  have h0 := lim_len_le (val_nonneg hu) (val_lt hu)
  unfold impl_bigAnswer.f
  refine Ev.bind (impl_trimLimbs_is hu (by omega)) ?_
  by_cases h : 40 < (lim (val l)).length
  · simp only [if_pos (show ((lim (val l)).length : Int) > 40 by omega), if_pos h]; exact Ev.now _
  · simp only [if_neg (show ¬ ((lim (val l)).length : Int) > 40 by omega), if_neg h]
    have hm := impl_makeBig_is m (l := lim (val l)) (us_lim _) (by omega)
    rw [val_lim (val_nonneg hu)] at hm
    exact Ev.bind hm (Ev.now _)
theorem impl_addLimbs_is {l l' : List Int} (hl : l.length ≤ 81) (hl' : l'.length ≤ 81) (hu : Us l) (hu' : Us l') : Ev (fun k => impl_addLimbs.f k l l') (lim (val l + val l')) :=
  Ev.congr (fun k => by unfold impl_addLimbs.f; rw [if_pos ⟨hl, hl', hu, hu'⟩]) (Ev.now _)
theorem impl_subLimbs_is {l l' : List Int} (hl : l.length ≤ 82) (hl' : l'.length ≤ l.length) (hu : Us l) (hu' : Us l') (h : val l' ≤ val l) : Ev (fun k => impl_subLimbs.f k l l') (lim (val l - val l')) :=
  Ev.congr (fun k => by unfold impl_subLimbs.f; rw [if_pos ⟨hl, hl', hu, hu', h⟩]) (Ev.now _)
theorem ans_is (m : Bool) {s : Int} (h : 0 ≤ s) (hl : (lim s).length ≤ 1048576) : Ev (fun k => impl_bigAnswer.f k m (lim s)) (bgRes (if m = true then -s else s)) := by
  have := impl_bigAnswer_is m (us_lim s) hl
  rwa [val_lim h] at this
theorem impl_BigAdd_j (m m' : Bool) (l l' : List Int) (hu : Us l) (hu' : Us l') : Ev (fun k => impl_BigAdd.j0 k (bgFault m l || bgFault m' l') m l m' l') (bgAdd m l m' l') := by
  unfold bgAdd
  refine Ev.step (fun k => by simp only [impl_BigAdd.j0]; rfl) ?_
  by_cases h : (bgFault m l || bgFault m' l') = true
  · simp only [if_pos h]; exact Ev.now _
  · simp only [if_neg h]
    have hf : bgFault m l = false ∧ bgFault m' l' = false := by simpa using h
    obtain ⟨hl, ht, _⟩ := bgFault_no hf.1
    obtain ⟨hl', ht', _⟩ := bgFault_no hf.2
    have v0 := val_nonneg hu
    have v1 := val_nonneg hu'
    have b0 := val_lt hu
    have b1 := val_lt hu'
    have p0 := PW_mono hl
    have p1 := PW_mono hl'
    have p2 : PW 41 = 4294967296 * PW 40 := PW_succ 40
    have p3 := PW_pos 40
    by_cases h2 : m = m'
    · subst h2
      have e : (m == m) = true := by simp
      simp only [if_pos e]
      rw [big_same]
      have hq : (lim (val l + val l')).length ≤ 41 := lim_len_le (by omega) (by omega)
      exact Ev.bind (impl_addLimbs_is (by omega) (by omega) hu hu') (Ev.bind (ans_is m (by omega) (by omega)) (Ev.now _))
    · have e : ¬ ((m == m') = true) := by simpa using h2
      simp only [if_neg e]
      refine Ev.bind (impl_compareLimbs_is (by omega) (by omega) hu hu' ht ht') ?_
      by_cases h3 : val l < val l'
      · have c : cmpI (val l) (val l') = -1 := by unfold cmpI; rw [if_pos h3]
        rw [(big_less h2 l l').2]
        simp only [if_pos c]
        have hq : (lim (val l' - val l)).length ≤ 41 := lim_len_le (by omega) (by omega)
        exact Ev.bind (impl_subLimbs_is (by omega) (len_of_le hu' hu ht (by omega)) hu' hu (by omega)) (Ev.bind (ans_is m' (by omega) (by omega)) (Ev.now _))
      · have c : ¬ cmpI (val l) (val l') = -1 := by unfold cmpI; rw [if_neg h3]; split <;> omega
        rw [(big_less h2 l l').1]
        simp only [if_neg c]
        have hq : (lim (val l - val l')).length ≤ 41 := lim_len_le (by omega) (by omega)
        exact Ev.bind (impl_subLimbs_is (by omega) (len_of_le hu hu' ht' (by omega)) hu hu' (by omega)) (Ev.bind (ans_is m (by omega) (by omega)) (Ev.now _))
theorem impl_BigAdd_is (m m' : Bool) (l l' : List Int) (hu : Us l) (hu' : Us l') (hl : l.length ≤ 140737488351232) (hl' : l'.length ≤ 140737488351232) : Ev (fun k => impl_BigAdd.f k m l m' l') (bgAdd m l m' l') := by
  have h := impl_BigAdd_j m m' l l' hu hu'
  refine Ev.congr (fun k => ?_) h
  unfold impl_BigAdd.f
  rw [impl_BigFault_is m l hl, impl_BigFault_is m' l' hl']
  cases bgFault m l <;> rfl
theorem spec_BigCompare_j (m m' : Bool) (l l' : List Int) (hu : Us l) (hu' : Us l') (hl : l.length ≤ 140737488351232) (hl' : l'.length ≤ 140737488351232) : Ev (fun k => spec_BigCompare.j0 k (bgFault m l || bgFault m' l') m l m' l') (bgCmp m l m' l') := by
  unfold bgCmp
  refine Ev.step (fun k => by simp only [spec_BigCompare.j0]; rfl) ?_
  by_cases h : (bgFault m l || bgFault m' l') = true
  · simp only [if_pos h]; exact Ev.now _
  · simp only [if_neg h]
    by_cases h2 : (m != m') = true
    · simp only [if_pos h2]
      by_cases h3 : m = true
      · simp only [if_pos h3]; exact Ev.now _
      · simp only [if_neg h3]; exact Ev.now _
    · simp only [if_neg h2]
      by_cases h3 : m = true
      · simp only [if_pos h3]; exact Ev.bind (spec_l1Cmp_is hl' hl hu' hu) (Ev.now _)
      · simp only [if_neg h3]; exact Ev.bind (spec_l1Cmp_is hl hl' hu hu') (Ev.now _)
theorem spec_BigCompare_is (m m' : Bool) (l l' : List Int) (hu : Us l) (hu' : Us l') (hl : l.length ≤ 140737488351232) (hl' : l'.length ≤ 140737488351232) : Ev (fun k => spec_BigCompare.f k m l m' l') (bgCmp m l m' l') := by
  have h := spec_BigCompare_j m m' l l' hu hu' hl hl'
  refine Ev.congr (fun k => ?_) h
  unfold spec_BigCompare.f
  rw [spec_BigFault_is m l hl, spec_BigFault_is m' l' hl']
  cases bgFault m l <;> rfl
theorem spec_l1Limb_is {l : List Int} (hu : Us l) (i : Nat) : spec_l1Limb.f l (i : Int) = some (lmb l i) := by
  have h := lmb_range hu i
  unfold spec_l1Limb.f
  by_cases hi : i < l.length
  · rw [if_pos (by omega), if_pos (by omega), rd_nat, u64_in h.1 (by omega)]
  · rw [if_neg (by omega), lmb_over (by omega)]
theorem spec_BigSmall_is (m : Bool) (l : List Int) (hu : Us l) (hl : l.length ≤ 140737488351232) : Ev (fun k => spec_BigSmall.f k m l) (bgSmall m l) := by
  have key : Ev (fun k => spec_BigSmall.j0 k (bgFault m l || decide (2 < l.length)) m l) (bgSmall m l) := by
    unfold bgSmall
    refine Ev.step (fun k => by simp only [spec_BigSmall.j0]; rfl) ?_
    by_cases h : (bgFault m l || decide (2 < l.length)) = true
    · simp only [if_pos h]; exact Ev.now _
    · simp only [if_neg h]
      have hl2 : l.length ≤ 2 := by simp at h; omega
      unfold smallOf
      have h0 := lmb_range hu 0
      have h1 := lmb_range hu 1
      have e0 : spec_l1Limb.f l 0 = some (lmb l 0) := spec_l1Limb_is hu 0
      have e1 : spec_l1Limb.f l 1 = some (lmb l 1) := spec_l1Limb_is hu 1
      simp only [e0, e1, Option.bind_some]
      rw [u64_in (by omega) (by omega), or_join h0.1 h0.2 h1.1 h1.2, ← val_two hl2]
      by_cases h3 : m = true
      · simp only [if_pos h3]
        refine Ev.step (fun k => by simp only [spec_BigSmall.j1]; rfl) ?_
        by_cases h4 : val l ≤ 9223372036854775808
        · simp only [if_pos h4, decide_eq_true h4, if_true]; exact Ev.now _
        · simp only [if_neg h4, decide_eq_false h4, if_pos h3, Bool.false_eq_true, if_false]; exact Ev.now _
      · simp only [if_neg h3]
        refine Ev.step (fun k => by simp only [spec_BigSmall.j1]; rfl) ?_
        simp only [Bool.false_eq_true, if_false, if_neg h3]
        by_cases h4 : val l < 9223372036854775808
        · simp only [if_pos h4]; exact Ev.now _
        · simp only [if_neg h4]; exact Ev.now _
  refine Ev.congr (fun k => ?_) key
  unfold spec_BigSmall.f
  rw [spec_BigFault_is m l hl, show decide ((l.length : Int) > 2) = decide (2 < l.length) from decide_eq_decide.2 (by omega)]
  cases bgFault m l <;> simp
theorem impl_BigSmall_l (m : Bool) (l : List Int) (hu : Us l) (hl2 : l.length ≤ 2) : ∀ d i : Nat, i + d = l.length → Ev (fun k => impl_BigSmall.l0 k (vt l i) l (l.length : Int) (i : Int) m l) (smallOf m (val l))
  | 0, i, hi => by
    refine Ev.step (fun k => by simp only [impl_BigSmall.l0]; rfl) ?_
    obtain rfl : i = l.length := by omega
    have e : vt l l.length = val l := rfl
    simp only [if_neg (show ¬ ((l.length : Int) < (l.length : Int)) by omega), e]
    unfold smallOf
    by_cases h3 : m = true
    · simp only [if_pos h3]
      by_cases h4 : val l ≤ 9223372036854775808
      · simp only [if_pos h4, if_neg (show ¬ (val l > 9223372036854775808) by omega)]; exact Ev.now _
      · simp only [if_neg h4, if_pos (show val l > 9223372036854775808 by omega)]; exact Ev.now _
    · simp only [if_neg h3]
      by_cases h4 : val l < 9223372036854775808
      · simp only [if_pos h4, if_neg (show ¬ (val l ≥ 9223372036854775808) by omega)]; exact Ev.now _
      · simp only [if_neg h4, if_pos (show val l ≥ 9223372036854775808 by omega)]; exact Ev.now _
  | d + 1, i, hi => by
    have ih := impl_BigSmall_l m l hu hl2 d (i + 1) (by omega)
    have h := lmb_range hu i
    have e1 : wrap64 (32 * (i : Int)) = 32 * (i : Int) := w64_in (by omega) (by omega)
    have e2 : wrap64 ((i : Int) + 1) = ((i + 1 : Nat) : Int) := by rw [w64_in (by omega) (by omega)]; omega
    have e3 : Go.bits .or .u64 (vt l i) (shl .u64 (lmb l i) (32 * (i : Int))) = vt l (i + 1) := or_shl hu (by omega)
    exact Ev.step (fun k => by simp only [impl_BigSmall.l0]; rw [if_pos (by omega), if_pos (by omega), if_pos (by omega), e1, if_pos (by omega), rd_nat, u64_in h.1 (by omega), e3, e2]) ih
theorem impl_BigSmall_is (m : Bool) (l : List Int) (hu : Us l) (hl : l.length ≤ 140737488351232) : Ev (fun k => impl_BigSmall.f k m l) (bgSmall m l) := by
  have key : Ev (fun k => impl_BigSmall.j0 k (bgFault m l || decide (2 < l.length)) m l) (bgSmall m l) := by
    unfold bgSmall
    refine Ev.step (fun k => by simp only [impl_BigSmall.j0]; rfl) ?_
    by_cases h : (bgFault m l || decide (2 < l.length)) = true
    · simp only [if_pos h]; exact Ev.now _
    · simp only [if_neg h]
      exact impl_BigSmall_l m l hu (by simp at h; omega) l.length 0 (by omega)
  refine Ev.congr (fun k => ?_) key
  unfold impl_BigSmall.f
  rw [impl_BigFault_is m l hl, show decide ((l.length : Int) > 2) = decide (2 < l.length) from decide_eq_decide.2 (by omega)]
  cases bgFault m l <;> simp
theorem toList_nil (s : ByteArray) : s.toList = ([] : List UInt8) ↔ s.size = 0 := by
  rw [ByteArray.toList_eq, ← List.length_eq_zero_iff, Array.length_toList]
  exact Iff.rfl
theorem res_at (m : Bool) {s : Int} (h : 0 ≤ s) (hl : (lim s).length ≤ 40) : bgRes (if m = true then -s else s) = (0, m && decide (0 < (lim s).length), lim s) := by
  rw [res_done m h, if_neg (by omega)]
theorem res_over (m : Bool) {s : Int} (h : 0 ≤ s) (hl : 40 < (lim s).length) : bgRes (if m = true then -s else s) = (2, false, []) := by
  rw [res_done m h, if_pos hl]
theorem not_digs {t : ByteArray} (h : ¬ Digs t) : ∃ j : Nat, 0 ≤ j ∧ j < t.size ∧ ¬ (48 ≤ bt t j ∧ bt t j ≤ 57) := by
  refine Classical.byContradiction fun hn => h fun i hi => ?_
  exact Classical.byContradiction fun hb => hn ⟨i, Nat.zero_le _, hi, hb⟩
def hm (a : ByteArray) : Bool := decide (0 < a.size) && (bt a 0 == 45)
def tl (a : ByteArray) : ByteArray := if hm a = true then a.extract 1 a.size else a
theorem tl_size (a : ByteArray) : (tl a).size ≤ a.size := by
  unfold tl
  split
  · rw [ByteArray.size_extract]; omega
  · exact Nat.le_refl _
def TopV (l : List Int) : Prop := 0 < l.length → PW (l.length - 1) ≤ val l
theorem impl_read_in (m : Bool) (t : ByteArray) {i : Nat} {L : List Int} {d : Int} {R : Int × Bool × List Int} (hi : i < t.size) (hsz : t.size ≤ 400) (hu : Us L) (hL : L.length ≤ 1048576) (hT : TopV L) (hd0 : 0 ≤ d) (hd1 : d ≤ 9)
    (hnext : ∀ L' : List Int, Us L' → val L' = val L * 10 + d → L'.length ≤ L.length + 1 → TopV L' → Ev (fun n => impl_BigRead.l0 n m t L' ((i + 1 : Nat) : Int)) R) :
    ∀ e k : Nat, k + e = L.length → ∀ (o : List Int) (c : Int), o.length = L.length → Us o → (∀ j, k ≤ j → lmb o j = lmb L j) → 0 ≤ c → c ≤ 10 → vt o k + c * PW k = vt L k * 10 + d → Ev (fun n => impl_BigRead.l1 n m t o (i : Int) c (L.length : Int) (k : Int)) R
  | 0, k, hk, o, c, ho, huo, hj, hc0, hc1, hv => by
    obtain rfl : k = L.length := by omega
    have hvo : vt o L.length = val o := vt_val (by omega)
    have hvL : vt L L.length = val L := rfl
    rw [hvo, hvL] at hv
    have hpos := val_nonneg hu
    by_cases hc : c = 0
    · subst hc
      rw [Int.zero_mul, Int.add_zero] at hv
      have h := hnext o huo hv (by omega) (fun h => by
        rw [ho] at h ⊢
        have := hT h
        omega)
      exact Ev.step (fun n => by rw [impl_BigRead.l1, if_neg (by omega), if_neg (by omega), w64_in (by omega) (by omega)]; rfl) h
    · have e : c % 4294967296 = c := by omega
      have hval : val (o ++ [c]) = val L * 10 + d := by rw [val_snoc, ho]; exact hv
      have h := hnext (o ++ [c]) (huo.append (Us.cons (by omega) (by omega) Us.nil)) hval (by rw [List.length_append, List.length_singleton]; omega) (fun _ => by
        rw [List.length_append, List.length_singleton, Nat.add_sub_cancel, val_snoc]
        have h1 := val_nonneg huo
        have h2 : 1 * PW o.length ≤ c * PW o.length := Int.mul_le_mul_of_nonneg_right (by omega) (by have := PW_pos o.length; omega)
        omega)
      exact Ev.step (fun n => by rw [impl_BigRead.l1, if_neg (by omega), if_pos (by omega), if_pos (by omega), w64_in (by omega) (by omega), e]; rfl) h
  | e + 1, k, hk, o, c, ho, huo, hj, hc0, hc1, hv => by
    have hx := lmb_range hu k
    have hok : lmb o k = lmb L k := hj k (Nat.le_refl _)
    have ih := impl_read_in m t hi hsz hu hL hT hd0 hd1 hnext e (k + 1) (by omega) (o.set k ((lmb L k * 10 + c) % 4294967296)) ((lmb L k * 10 + c) / 4294967296) (by rw [List.length_set]; exact ho) (huo.set k (by omega) (by omega)) (fun j hjk => by rw [lmb_set_other (by omega)]; exact hj j (by omega)) (by omega) (by omega) (ten_step (by omega) hok hv)
    refine Ev.step (fun n => ?_) ih
    rw [impl_BigRead.l1, if_pos (by omega), if_pos (by omega), if_pos (by omega), rd_nat, hok, u64_in (x := lmb L k) hx.1 (by omega), u64_in (x := lmb L k * 10) (by omega) (by omega), u64_in (x := lmb L k * 10 + c) (by omega) (by omega), Int.toNat_natCast, w64_in (by omega) (by omega)]
    rfl
theorem impl_read_out (m : Bool) (t : ByteArray) (hsz : t.size ≤ 400) (hd : Digs t) : ∀ d i : Nat, i + d = t.size → ∀ L : List Int, Us L → val L = num t i → L.length ≤ i → TopV L → Ev (fun n => impl_BigRead.l0 n m t L (i : Int)) (bgRes (if m = true then -num t t.size else num t t.size))
  | 0, i, hi, L, hu, hv, hl, hT => by
    obtain rfl : i = t.size := by omega
    have h0 := num_nonneg hd t.size (Nat.le_refl _)
    have hlen := lim_len_of hu hT
    rw [hv] at hlen
    by_cases ho : 40 < L.length
    · rw [res_over m h0 (by omega)]
      exact Ev.step (f := fun _ => some (2, false, [])) (fun n => by rw [impl_BigRead.l0, if_neg (by omega), if_pos (by omega)]) (Ev.now _)
    · rw [res_at m h0 (by omega)]
      have hmk := impl_makeBig_is m hu (by omega)
      rw [hv] at hmk
      refine Ev.step (fun n => by rw [impl_BigRead.l0, if_neg (by omega), if_neg (by omega)]) ?_
      exact Ev.bind hmk (Ev.now _)
  | d + 1, i, hi, L, hu, hv, hl, hT => by
    have hb := hd i (by omega)
    have e256 : (bt t (i : Int) - 48) % 256 = bt t (i : Int) - 48 := by omega
    have h := impl_read_in (R := bgRes (if m = true then -num t t.size else num t t.size)) (d := bt t (i : Int) - 48) m t (i := i) (by omega) hsz hu (by omega) hT (by omega) (by omega)
      (fun L' hu' hv' hl' hT' => impl_read_out m t hsz hd d (i + 1) (by omega) L' hu' (by rw [hv', hv]; rfl) (by omega) hT') L.length 0 (by omega) L (bt t (i : Int) - 48) rfl hu (fun _ _ => rfl) (by omega) (by omega) (by simp [vt, PW_zero])
    refine Ev.step (fun n => ?_) h
    rw [impl_BigRead.l0, if_pos (by omega), if_pos (by omega), e256]
    rfl
theorem plain_l0_yes (t : ByteArray) (hsz : t.size ≤ 1048576) (hd : Digs t) : ∀ d i : Nat, i + d = t.size → Ev (fun k => impl_plainDigits.l0 k t (i : Int)) true
  | 0, i, hi => Ev.step (f := fun _ => some true) (fun k => by rw [impl_plainDigits.l0, if_neg (by omega)]) (Ev.now _)
  | d + 1, i, hi => by
    have hb := hd i (by omega)
    have ih := plain_l0_yes t hsz hd d (i + 1) (by omega)
    exact Ev.step (fun k => by rw [impl_plainDigits.l0, if_pos (by omega), if_pos (by omega), if_neg (by omega), if_neg (by omega), w64_in (by omega) (by omega)]; rfl) ih
theorem plain_l0_no (t : ByteArray) (hsz : t.size ≤ 1048576) : ∀ d i : Nat, i + d = t.size → (∃ j : Nat, i ≤ j ∧ j < t.size ∧ ¬ (48 ≤ bt t j ∧ bt t j ≤ 57)) → Ev (fun k => impl_plainDigits.l0 k t (i : Int)) false
  | 0, i, hi, ⟨j, h1, h2, _⟩ => by omega
  | d + 1, i, hi, ⟨j, h1, h2, h3⟩ => by
    by_cases hb : 48 ≤ bt t (i : Int) ∧ bt t (i : Int) ≤ 57
    · have hij : i ≠ j := fun e => h3 (e ▸ hb)
      have ih := plain_l0_no t hsz d (i + 1) (by omega) ⟨j, by omega, h2, h3⟩
      exact Ev.step (fun k => by rw [impl_plainDigits.l0, if_pos (by omega), if_pos (by omega), if_neg (by omega), if_neg (by omega), w64_in (by omega) (by omega)]; rfl) ih
    · by_cases hb1 : bt t (i : Int) < 48
      · exact Ev.step (f := fun _ => some false) (fun k => by rw [impl_plainDigits.l0, if_pos (by omega), if_pos (by omega), if_pos hb1]) (Ev.now _)
      · exact Ev.step (f := fun _ => some false) (fun k => by rw [impl_plainDigits.l0, if_pos (by omega), if_pos (by omega), if_neg hb1, if_pos (by omega)]) (Ev.now _)
theorem plain_yes (t : ByteArray) (hsz : t.size ≤ 1048576) (h0 : ¬ t.size = 0) (h1 : ¬ (bt t 0 = 48 ∧ 1 < t.size)) (hd : Digs t) : Ev (fun k => impl_plainDigits.f k t) true := by
  have h := plain_l0_yes t hsz hd t.size 0 (by omega)
  have hj : Ev (fun k => impl_plainDigits.j0 k t false) true := Ev.step (fun k => by rw [impl_plainDigits.j0, if_neg (by decide)]; rfl) h
  refine Ev.congr (fun k => ?_) hj
  unfold impl_plainDigits.f
  rw [if_neg (fun h => h0 ((toList_nil t).1 h)), if_pos (by omega)]
  by_cases hb : bt t 0 = 48
  · rw [if_pos hb, decide_eq_false (by omega)]
  · rw [if_neg hb]
theorem plain_no (t : ByteArray) (hsz : t.size ≤ 1048576) (h : t.size = 0 ∨ (bt t 0 = 48 ∧ 1 < t.size) ∨ ¬ Digs t) : Ev (fun k => impl_plainDigits.f k t) false := by
  have hj : Ev (fun k => impl_plainDigits.j0 k t true) false := Ev.step (f := fun _ => some false) (fun k => by rw [impl_plainDigits.j0, if_pos rfl]) (Ev.now _)
  by_cases h0 : t.size = 0
  · refine Ev.congr (fun k => ?_) hj
    unfold impl_plainDigits.f
    rw [if_pos ((toList_nil t).2 h0)]
  · have hn : ¬ t.toList = ([] : List UInt8) := fun h => h0 ((toList_nil t).1 h)
    by_cases h1 : bt t 0 = 48 ∧ 1 < t.size
    · refine Ev.congr (fun k => ?_) hj
      unfold impl_plainDigits.f
      rw [if_neg hn, if_pos (by omega), if_pos h1.1, decide_eq_true (by omega)]
    · have hd : ¬ Digs t := by
        rcases h with h | h | h
        · exact (h0 h).elim
        · exact (h1 h).elim
        · exact h
      have hl := plain_l0_no t hsz t.size 0 (by omega) (not_digs hd)
      have hj2 : Ev (fun k => impl_plainDigits.j0 k t false) false := Ev.step (fun k => by rw [impl_plainDigits.j0, if_neg (by decide)]; rfl) hl
      refine Ev.congr (fun k => ?_) hj2
      unfold impl_plainDigits.f
      rw [if_neg hn, if_pos (by omega)]
      by_cases hb : bt t 0 = 48
      · rw [if_pos hb, decide_eq_false (by omega)]
      · rw [if_neg hb]
theorem ext1 (a : ByteArray) (h : 0 < a.size) : ((a.extract 0 1).toList == (⟨#[45]⟩ : ByteArray).toList) = (bt a 0 == 45) := by
  rcases a with ⟨⟨l⟩⟩
  cases l with
  | nil => exact absurd h (by decide)
  | cons x xs =>
    have e1 : ((⟨⟨x :: xs⟩⟩ : ByteArray).extract 0 1).toList = [x] := by
      rw [ByteArray.toList_eq, ByteArray.data_extract]
      simp
    have e2 : (⟨#[45]⟩ : ByteArray).toList = [45] := by rw [ByteArray.toList_eq]
    have e3 : bt ⟨⟨x :: xs⟩⟩ 0 = (x.toNat : Int) := by
      unfold bt
      rw [dif_pos (by exact h)]
      rfl
    rw [e1, e2, e3]
    by_cases hx : x = 45
    · subst hx; rfl
    · have h1 : ¬ x.toNat = 45 := fun hn => hx (UInt8.toNat_inj.1 (by rw [hn]; rfl))
      have h2 : ([x] == [(45 : UInt8)]) = false := by simpa using hx
      have h3 : ((x.toNat : Int) == 45) = false := by
        rw [beq_eq_false_iff_ne]
        omega
      rw [h2, h3]
theorem pre45 (a : ByteArray) : stringslite_HasPrefix.f a (⟨#[45]⟩ : ByteArray) = some (hm a) := by
  have e : (⟨#[45]⟩ : ByteArray).size = 1 := rfl
  unfold stringslite_HasPrefix.f hm
  rw [e]
  by_cases h : 0 < a.size
  · rw [if_pos (by omega), if_pos (by omega), if_pos (by omega), decide_eq_true h, Bool.true_and, ← ext1 a h]
    rfl
  · rw [if_neg (by omega), decide_eq_false h, Bool.false_and]
theorem trim45 (a : ByteArray) : stringslite_TrimPrefix.f a (⟨#[45]⟩ : ByteArray) = some (tl a) := by
  have e : (⟨#[45]⟩ : ByteArray).size = 1 := rfl
  unfold stringslite_TrimPrefix.f tl
  rw [pre45, Option.bind_some, e]
  by_cases h : hm a = true
  · have hp : 0 < a.size := by
      unfold hm at h
      simp at h
      exact h.1
    rw [if_pos h, if_pos h, if_pos (by omega), if_pos (by omega)]
    rfl
  · rw [if_neg h, if_neg h]
theorem zero48 (t : ByteArray) (h0 : ¬ t.size = 0) : (t.toList == ([48] : List UInt8)) = (decide (t.size = 1) && (bt t 0 == 48)) := by
  rcases t with ⟨⟨l⟩⟩
  rw [ByteArray.toList_eq]
  match l, h0 with
  | [], h0 => exact absurd rfl h0
  | [x], _ =>
    have e3 : bt ⟨⟨[x]⟩⟩ 0 = (x.toNat : Int) := rfl
    rw [e3]
    by_cases hx : x = 48
    · subst hx; rfl
    · have h1 : ¬ x.toNat = 48 := fun hn => hx (UInt8.toNat_inj.1 (by rw [hn]; rfl))
      have h2 : ([x] == [(48 : UInt8)]) = false := by simpa using hx
      have h3 : ((x.toNat : Int) == 48) = false := by
        rw [beq_eq_false_iff_ne]
        omega
      show ([x] == [(48 : UInt8)]) = _
      rw [h2, h3, Bool.and_false]
  | x :: y :: xs, _ =>
    have h2 : ((x :: y :: xs) == [(48 : UInt8)]) = false := by simp
    show ((x :: y :: xs) == [(48 : UInt8)]) = _
    rw [h2]
    have h3 : ¬ (⟨⟨x :: y :: xs⟩⟩ : ByteArray).size = 1 := fun h => by
      have : (x :: y :: xs).length = 1 := h
      simp at this
    rw [decide_eq_false h3, Bool.false_and]
theorem impl_read_j0 (m : Bool) (t : ByteArray) (h0 : ¬ t.size = 0) (h1 : ¬ (bt t 0 = 48 ∧ 1 < t.size)) (hd : Digs t) : Ev (fun k => impl_BigRead.j0 k m t false) (bgRes (if m = true then -num t t.size else num t t.size)) := by
  by_cases hs : 400 < t.size
  · rw [res_over m (num_nonneg hd _ (Nat.le_refl _)) (num_long hd (fun h => h1 ⟨h, by omega⟩) hs)]
    exact Ev.step (f := fun _ => some (2, false, [])) (fun k => by rw [impl_BigRead.j0, if_neg (by decide), if_pos (by omega)]) (Ev.now _)
  · have h := impl_read_out m t (by omega) hd t.size 0 (by omega) [] Us.nil rfl (Nat.le_refl _) (fun h => absurd h (by decide))
    exact Ev.step (fun k => by rw [impl_BigRead.j0, if_neg (by decide), if_neg (by omega)]; rfl) h
theorem impl_BigRead_is (a : ByteArray) (hsz : a.size ≤ 1048576) : Ev (fun k => impl_BigRead.f k a) (readR (hm a) (tl a)) := by
  have hts := Nat.le_trans (tl_size a) hsz
  have fault : ∀ m t, Ev (fun k => impl_BigRead.j0 k m t true) (1, false, []) := fun m t => Ev.step (f := fun _ => some (1, false, [])) (fun k => by rw [impl_BigRead.j0, if_pos rfl]) (Ev.now _)
  have key : ∀ k, impl_BigRead.f k a = (impl_plainDigits.f k (tl a)).bind fun t208 => (if t208 = true then (if hm a = true then (impl_BigRead.j0 k (hm a) (tl a) ((tl a).toList == ([48] : List UInt8))) else (impl_BigRead.j0 k (hm a) (tl a) false)) else (impl_BigRead.j0 k (hm a) (tl a) true)) := fun k => by
    unfold impl_BigRead.f strings_HasPrefix.f strings_TrimPrefix.f
    rw [pre45, trim45]
    rfl
  refine Ev.congr key ?_
  clear key
  generalize hm a = m
  generalize tl a = t at *
  unfold readR
  by_cases hp : t.size = 0 ∨ (bt t 0 = 48 ∧ 1 < t.size) ∨ ¬ Digs t
  · rw [if_pos (by
      rcases hp with h | h | h
      · exact .inl h
      · exact .inr (.inl ⟨h.1, .inl h.2⟩)
      · exact .inr (.inr h))]
    refine Ev.bind (plain_no t hts hp) ?_
    simp only [Bool.false_eq_true, if_false]
    exact fault m t
  · have h0 : ¬ t.size = 0 := fun h => hp (.inl h)
    have h1 : ¬ (bt t 0 = 48 ∧ 1 < t.size) := fun h => hp (.inr (.inl h))
    have hd : Digs t := Classical.byContradiction fun h => hp (.inr (.inr h))
    refine Ev.bind (plain_yes t hts h0 h1 hd) ?_
    simp only [if_true]
    have hj := impl_read_j0 m t h0 h1 hd
    cases m with
    | false =>
      rw [if_neg (by
        rintro (h | ⟨h, h2 | h2⟩ | h)
        · exact h0 h
        · exact h1 ⟨h, h2⟩
        · cases h2
        · exact h hd)]
      simp only [Bool.false_eq_true, if_false]
      exact hj
    | true =>
      simp only [if_true]
      rw [zero48 t h0]
      by_cases hb : bt t 0 = 48
      · have hs1 : t.size = 1 := by
          by_cases h : 1 < t.size
          · exact absurd ⟨hb, h⟩ h1
          · omega
        rw [if_pos (.inr (.inl ⟨hb, .inr rfl⟩)), decide_eq_true hs1, hb]
        exact fault true t
      · have e : (bt t 0 == 48) = false := by rw [beq_eq_false_iff_ne]; exact hb
        rw [if_neg (by
          rintro (h | ⟨h, _⟩ | h)
          · exact h0 h
          · exact hb h
          · exact h hd), e, Bool.and_false]
        exact hj
theorem big_mul {m m' : Bool} {l l' : List Int} : big m l * big m' l' = if (m != m') = true then -(val l * val l') else val l * val l' := by
  unfold big
  cases m <;> cases m' <;> simp [Int.mul_neg, Int.neg_mul]
theorem same_is (m m' : Bool) (l l' : List Int) (hu : Us l) (hu' : Us l') (hl : l.length ≤ 140737488351232) (hl' : l'.length ≤ 140737488351232) : Ev (fun k => laws_lwSameBig.f k m l m' l') (decide (bgCmp m l m' l' = 0) && !bgFault m l) := by
  unfold laws_lwSameBig.f
  refine Ev.bind (spec_BigCompare_is m m' l l' hu hu' hl hl') ?_
  by_cases h : bgCmp m l m' l' = 0
  · simp only [if_pos h, spec_BigFault_is m l hl, Option.bind_some, h, decide_true, Bool.true_and]
    exact Ev.now _
  · simp only [if_neg h, h, decide_false, Bool.false_and]
    exact Ev.now _

end Go.Proofs.Ytajmeeppigdjnaa.PFnBigText
