/- What the functions that the law 'FnExactBigAdd' compares come to, told as numbers; no condition. -/
import Derived.Test.YtajmeeppigdjnaaPFnExactBigAddx2
import Derived.Test.YtajmeeppigdjnaaPFnExactBigAddx3
import Derived.Test.YtajmeeppigdjnaaPFnExactBigAddx4
import Derived.Test.YtajmeeppigdjnaaPFnExactBigAddx5
import Derived.Test.YtajmeeppigdjnaaBigM
import Derived.Test.YtajmeeppigdjnaaOCmp
import Derived.Test.YtajmeeppigdjnaaOAdd
namespace Go.Proofs.Ytajmeeppigdjnaa.Own
end Go.Proofs.Ytajmeeppigdjnaa.Own
namespace Go.Proofs.Ytajmeeppigdjnaa.PFnExactBigAdd
open Go.RowKit Go.Proofs.Ytajmeeppigdjnaa Go.Proofs.Ytajmeeppigdjnaa.Own Go.Proofs.YtajmeeppigdjnaaW.PrintWords Go.Proofs.YtajmeeppigdjnaaW.PrintLast Go.Proofs.YtajmeeppigdjnaaW.PrintMore
set_option linter.unusedVariables false
set_option linter.unusedSimpArgs false

theorem spec_BigFault_is (m : Bool) (l : List Int) (hl : l.length ≤ 140737488351232) : spec_BigFault.f m l = some (bgFault m l) := by
  unfold spec_BigFault.f bgFault
  by_cases h0 : l.length = 0
  · rw [if_neg (by omega), if_neg (by omega), if_pos (by omega), if_pos h0]
  · rw [w64_in (by omega) (by omega), rd_lmb, show ((l.length : Int) - 1).toNat = l.length - 1 by omega, if_neg h0]
    by_cases h1 : 40 < l.length
    · rw [if_pos (by omega)]
      simp [h1]
    · rw [if_neg (by omega), if_pos (by omega), if_pos (by omega), if_pos (by omega)]
      by_cases h2 : lmb l (l.length - 1) = 0
      · rw [if_pos h2]; simp [h2]
      · rw [if_neg h2, if_neg (by omega)]
        simp [h2]
        omega

theorem impl_BigFault_is (m : Bool) (l : List Int) (hl : l.length ≤ 140737488351232) : impl_BigFault.f m l = some (bgFault m l) := by
  unfold impl_BigFault.f bgFault
  by_cases h0 : l.length = 0
  · rw [if_pos (by omega), if_pos h0]
  · rw [w64_in (by omega) (by omega), rd_lmb, show ((l.length : Int) - 1).toNat = l.length - 1 by omega, if_neg h0, if_neg (by omega)]
    by_cases h1 : 40 < l.length
    · rw [if_pos (by omega)]
      simp [h1]
    · rw [if_neg (by omega), if_pos (by omega), if_pos (by omega)]
      simp
      omega

theorem spec_l1Limb_is {l : List Int} (hu : Us l) (i : Nat) : spec_l1Limb.f l (i : Int) = some (lmb l i) := by
  have h := lmb_range hu i
  unfold spec_l1Limb.f
  by_cases hi : i < l.length
  · rw [if_pos (by omega), if_pos (by omega), rd_nat, u64_in h.1 (by omega)]
  · rw [if_neg (by omega), lmb_over (by omega)]

theorem spec_l1Cmp_is {l l' : List Int} (hl : l.length ≤ 140737488351232) (hl' : l'.length ≤ 140737488351232) (hu : Us l) (hu' : Us l') : Ev (fun k => spec_l1Cmp.f k l l') (cmpI (val l) (val l')) :=
  Ev.congr (fun k => by unfold spec_l1Cmp.f; rw [if_pos ⟨hl, hl', hu, hu'⟩]) (Ev.now _)

theorem spec_l1Trim_is {l : List Int} (hl : l.length ≤ 35184372088831) (hu : Us l) : Ev (fun k => spec_l1Trim.f k l) (lim (val l)) :=
  Ev.congr (fun k => by unfold spec_l1Trim.f; rw [if_pos ⟨hl, hu⟩]) (Ev.now _)

theorem spec_l1Add_go {a b o : List Int} {c : Int} {i : Nat} {r : List Int} (ha : Us a) (hb : Us b) (ho : o.length = i) (hi : i < 35184372088832) (hc0 : 0 ≤ c) (hc1 : c ≤ 1) (h : Ev (fun k => spec_l1Add.l0 k a b (o ++ [(lmb a i + lmb b i + c) % 4294967296]) ((lmb a i + lmb b i + c) / 4294967296) ((i + 1 : Nat) : Int)) r) : Ev (fun k => spec_l1Add.j1 k a b o c (i : Int) true) r := by
  have h1 := lmb_range ha i
  have h2 := lmb_range hb i
  refine Ev.step (fun k => ?_) h
  simp only [spec_l1Add.j1, if_true]
  rw [spec_l1Limb_is ha i, spec_l1Limb_is hb i]
  simp only [Option.bind_some]
  rw [if_pos (by omega), u64_in (x := lmb a i + lmb b i) (by omega) (by omega), u64_in (x := lmb a i + lmb b i + c) (by omega) (by omega), w64_in (by omega) (by omega)]
  rfl
theorem spec_l1Add_stop {a b o : List Int} {c : Int} {i : Int} (hu : Us o) (hl : o.length ≤ 35184372088831) : Ev (fun k => spec_l1Add.j1 k a b o c i false) (lim (val o)) :=
  Ev.step (fun k => by simp only [spec_l1Add.j1, Bool.false_eq_true, if_false]) (Ev.bind (spec_l1Trim_is hl hu) (Ev.now _))
theorem spec_l1Add_l {a b : List Int} (ha : Us a) (hb : Us b) (M : Nat) (hM : M ≤ 1048576) (hla : a.length ≤ M) (hlb : b.length ≤ M) (hm : M = a.length ∨ M = b.length) : ∀ d i : Nat, i + d = M → ∀ (o : List Int) (c : Int), o.length = i → Us o → 0 ≤ c → c ≤ 1 → val o + c * PW i = vt a i + vt b i → Ev (fun k => spec_l1Add.l0 k a b o c (i : Int)) (lim (val a + val b))
  | 0, i, hi, o, c, ho, hu, hc0, hc1, hv => by
    obtain rfl : i = M := by omega
    have e0 : ∀ (k : Nat) (o' : List Int) (c' : Int) (n : Nat), i ≤ n → spec_l1Add.l0 (k + 1) a b o' c' (n : Int) = spec_l1Add.j1 k a b o' c' (n : Int) (decide (c' > 0)) := fun k o' c' n hn => by
      simp only [spec_l1Add.l0]
      rw [if_neg (by omega), if_neg (by omega)]
    have hva : vt a i = val a := vt_val hla
    have hvb : vt b i = val b := vt_val hlb
    rw [hva, hvb] at hv
    refine Ev.step (fun k => e0 k o c i (Nat.le_refl _)) ?_
    by_cases hz : c = 0
    · subst hz
      have e : val a + val b = val o := by omega
      rw [e]
      exact spec_l1Add_stop hu (by omega)
    · obtain rfl : c = 1 := by omega
      refine spec_l1Add_go ha hb ho (by omega) (by omega) (by omega) ?_
      rw [lmb_over hla, lmb_over hlb]
      refine Ev.step (fun k => e0 k _ _ (i + 1) (by omega)) ?_
      have e : val a + val b = val (o ++ [1]) := by rw [val_snoc, ho]; omega
      rw [e]
      exact spec_l1Add_stop (hu.append (Us.cons (by omega) (by omega) Us.nil)) (by rw [List.length_append, List.length_singleton]; omega)
  | d + 1, i, hi, o, c, ho, hu, hc0, hc1, hv => by
    have h1 := lmb_range ha i
    have h2 := lmb_range hb i
    have ih := spec_l1Add_l ha hb M hM hla hlb hm d (i + 1) (by omega) (o ++ [(lmb a i + lmb b i + c) % 4294967296]) ((lmb a i + lmb b i + c) / 4294967296) (by rw [List.length_append, List.length_singleton, ho]) (hu.append (Us.cons (by omega) (by omega) Us.nil)) (by omega) (by omega) (add_out ho hv)
    have hg := spec_l1Add_go ha hb ho (by omega) hc0 hc1 ih
    refine Ev.step (fun k => ?_) hg
    simp only [spec_l1Add.l0]
    by_cases hx : i < a.length
    · rw [if_pos (by omega)]
    · rw [if_neg (by omega), if_pos (by omega)]
theorem spec_l1Add_is {a b : List Int} (ha : Us a) (hb : Us b) (hla : a.length ≤ 1048576) (hlb : b.length ≤ 1048576) : Ev (fun k => spec_l1Add.f k a b) (lim (val a + val b)) := by
  unfold spec_l1Add.f
  rcases Nat.le_total a.length b.length with h | h
  · exact spec_l1Add_l ha hb b.length hlb h (Nat.le_refl _) (.inr rfl) b.length 0 (by omega) [] 0 rfl Us.nil (by omega) (by omega) (by simp [vt, val_nil])
  · exact spec_l1Add_l ha hb a.length hla (Nat.le_refl _) h (.inl rfl) a.length 0 (by omega) [] 0 rfl Us.nil (by omega) (by omega) (by simp [vt, val_nil])

theorem spec_l1Sub_l {a b : List Int} (ha : Us a) (hb : Us b) (hla : a.length ≤ 1048576) (hlb : b.length ≤ a.length) (hle : val b ≤ val a) : ∀ d i : Nat, i + d = a.length → ∀ (o : List Int) (q : Int), o.length = i → Us o → 0 ≤ q → q ≤ 1 → val o - q * PW i = vt a i - vt b i → Ev (fun k => spec_l1Sub.l0 k a b o q (i : Int)) (lim (val a - val b))
  | 0, i, hi, o, q, ho, hu, hc0, hc1, hv => by
    obtain rfl : i = a.length := by omega
    rw [← sub_last hu hc0 ho hlb hle hv]
    exact Ev.step (fun k => by simp only [spec_l1Sub.l0]; rw [if_neg (by omega)]) (Ev.bind (spec_l1Trim_is (by omega) hu) (Ev.now _))
  | d + 1, i, hi, o, q, ho, hu, hc0, hc1, hv => by
    have h1 := lmb_range ha i
    have h2 := lmb_range hb i
    have ih := spec_l1Sub_l ha hb hla hlb hle d (i + 1) (by omega) (o ++ [(lmb a i + 4294967296 - lmb b i - q) % 4294967296]) (1 - (lmb a i + 4294967296 - lmb b i - q) / 4294967296) (by rw [List.length_append, List.length_singleton, ho]) (hu.append (Us.cons (by omega) (by omega) Us.nil)) (by omega) (by omega) (sub_out ho hv)
    refine Ev.step (fun k => ?_) ih
    simp only [spec_l1Sub.l0]
    rw [if_pos (by omega), spec_l1Limb_is ha i, spec_l1Limb_is hb i]
    simp only [Option.bind_some]
    rw [if_pos (by omega), u64_in (x := lmb a i + 4294967296) (by omega) (by omega), u64_in (x := lmb a i + 4294967296 - lmb b i) (by omega) (by omega), u64_in (x := lmb a i + 4294967296 - lmb b i - q) (by omega) (by omega), u64_in (x := 1 - _) (by omega) (by omega), w64_in (by omega) (by omega)]
    rfl
theorem spec_l1Sub_is {a b : List Int} (ha : Us a) (hb : Us b) (hla : a.length ≤ 1048576) (hlb : b.length ≤ a.length) (hle : val b ≤ val a) : Ev (fun k => spec_l1Sub.f k a b) (lim (val a - val b)) :=
  spec_l1Sub_l ha hb hla hlb hle a.length 0 (by omega) [] 0 rfl Us.nil (by omega) (by omega) (by simp [vt, val_nil])

theorem spec_l1Make_is (m : Bool) (l : List Int) : spec_l1Make.f m l = some (m && decide (0 < l.length), l) := by
  unfold spec_l1Make.f
  cases m <;> simp
theorem spec_l1Done_is (m : Bool) {s : Int} (h : 0 ≤ s) : spec_l1Done.f m (lim s) = some (bgRes (if m = true then -s else s)) := by
  unfold spec_l1Done.f
  rw [res_done m h, spec_l1Make_is]
  by_cases h1 : 40 < (lim s).length
  · rw [if_pos (by omega), if_pos h1]
  · rw [if_neg (by omega), if_neg h1]; rfl

theorem spec_BigAdd_j (m m' : Bool) (l l' : List Int) (hu : Us l) (hu' : Us l') : Ev (fun k => spec_BigAdd.j0 k (bgFault m l || bgFault m' l') m l m' l') (bgAdd m l m' l') := by
  unfold bgAdd
  refine Ev.step (fun k => by simp only [spec_BigAdd.j0]; rfl) ?_
  by_cases h : (bgFault m l || bgFault m' l') = true
  · simp only [if_pos h]; exact Ev.now _
  · simp only [if_neg h]
    have hf : bgFault m l = false ∧ bgFault m' l' = false := by simpa using h
    obtain ⟨hl, ht, _⟩ := bgFault_no hf.1
    obtain ⟨hl', ht', _⟩ := bgFault_no hf.2
    have v0 := val_nonneg hu
    have v1 := val_nonneg hu'
    by_cases h2 : m = m'
    · subst h2
      have e : (m == m) = true := by simp
      simp only [if_pos e]
      rw [big_same]
      refine Ev.bind (spec_l1Add_is hu hu' (by omega) (by omega)) ?_
      simp only [spec_l1Done_is m (s := val l + val l') (by omega), Option.bind_some]
      exact Ev.now _
    · have e : ¬ ((m == m') = true) := by simpa using h2
      simp only [if_neg e]
      refine Ev.bind (spec_l1Cmp_is (by omega) (by omega) hu hu') ?_
      by_cases h3 : val l < val l'
      · have c : cmpI (val l) (val l') = -1 := by unfold cmpI; rw [if_pos h3]
        rw [c, (big_less h2 l l').2]
        simp only [if_neg (show ¬ ((-1 : Int) ≥ 0) by omega)]
        refine Ev.bind (spec_l1Sub_is hu' hu (by omega) (len_of_le hu' hu ht (by omega)) (by omega)) ?_
        simp only [spec_l1Done_is m' (s := val l' - val l) (by omega), Option.bind_some]
        exact Ev.now _
      · have c : cmpI (val l) (val l') ≥ 0 := by unfold cmpI; rw [if_neg h3]; split <;> omega
        rw [(big_less h2 l l').1]
        simp only [if_pos c]
        refine Ev.bind (spec_l1Sub_is hu hu' (by omega) (len_of_le hu hu' ht' (by omega)) (by omega)) ?_
        simp only [spec_l1Done_is m (s := val l - val l') (by omega), Option.bind_some]
        exact Ev.now _
theorem spec_BigAdd_is (m m' : Bool) (l l' : List Int) (hu : Us l) (hu' : Us l') (hl : l.length ≤ 140737488351232) (hl' : l'.length ≤ 140737488351232) : Ev (fun k => spec_BigAdd.f k m l m' l') (bgAdd m l m' l') := by
  have h := spec_BigAdd_j m m' l l' hu hu'
  refine Ev.congr (fun k => ?_) h
  unfold spec_BigAdd.f
  rw [spec_BigFault_is m l hl, spec_BigFault_is m' l' hl']
  cases bgFault m l <;> rfl

theorem impl_compareLimbs_l {l l' : List Int} (hl : l.length ≤ 140737488351232) (he : l'.length = l.length) : ∀ j : Nat, j ≤ l.length → Ev (fun k => impl_compareLimbs.l0 k l l' ((j : Int) - 1)) (cmpL l l' j)
  | 0, _ => Ev.step (f := fun _ => some 0) (fun k => by simp only [impl_compareLimbs.l0]; rw [if_neg (by omega)]) (Ev.now _)
  | j + 1, hj => by
    have ih := impl_compareLimbs_l hl he j (by omega)
    have e1 : ((j + 1 : Nat) : Int) - 1 = (j : Int) := by omega
    rw [e1]
    simp only [cmpL]
    by_cases h1 : lmb l j < lmb l' j
    · rw [if_pos h1]
      exact Ev.step (f := fun _ => some (-1)) (fun k => by simp only [impl_compareLimbs.l0]; rw [if_pos (by omega), if_pos (by omega), if_pos (by omega), if_pos (by omega), rd_nat, rd_nat, if_pos h1]) (Ev.now _)
    · rw [if_neg h1]
      by_cases h2 : lmb l' j < lmb l j
      · rw [if_pos h2]
        exact Ev.step (f := fun _ => some 1) (fun k => by simp only [impl_compareLimbs.l0]; rw [if_pos (by omega), if_pos (by omega), if_pos (by omega), if_pos (by omega), rd_nat, rd_nat, if_neg h1, if_pos h2]) (Ev.now _)
      · rw [if_neg h2]
        exact Ev.step (fun k => by simp only [impl_compareLimbs.l0]; rw [if_pos (by omega), if_pos (by omega), if_pos (by omega), if_pos (by omega), rd_nat, rd_nat, if_neg h1, if_neg h2, w64_in (by omega) (by omega)]) ih
theorem impl_compareLimbs_is {l l' : List Int} (hl : l.length ≤ 140737488351232) (hl' : l'.length ≤ 140737488351232) (hu : Us l) (hu' : Us l') (ht : Top l) (ht' : Top l') : Ev (fun k => impl_compareLimbs.f k l l') (cmpI (val l) (val l')) := by
  by_cases h1 : l.length < l'.length
  · rw [cmp_len_lt hu hu' ht' h1]
    exact Ev.congr (fun k => by unfold impl_compareLimbs.f; rw [if_pos (by omega)]) (Ev.now _)
  · by_cases h2 : l'.length < l.length
    · rw [cmpI_flip, cmp_len_lt hu' hu ht h2]
      exact Ev.congr (fun k => by unfold impl_compareLimbs.f; rw [if_neg (by omega), if_pos (by omega)]; rfl) (Ev.now _)
    · have e : l'.length = l.length := by omega
      have h := impl_compareLimbs_l hl e l.length (Nat.le_refl _)
      rw [cmpL_vt hu hu', vt_val (Nat.le_refl _), vt_val (by omega)] at h
      exact Ev.congr (fun k => by unfold impl_compareLimbs.f; rw [if_neg (by omega), if_neg (by omega), w64_in (by omega) (by omega)]) h

theorem impl_trimLimbs_l {l : List Int} (hu : Us l) (hl : l.length ≤ 140737488351232) : ∀ j : Nat, j ≤ l.length → val l = vt l j → Ev (fun k => impl_trimLimbs.l0 k (l.take j)) (lim (val l))
  | 0, _, hv => by
    have e : val l = 0 := by rw [hv]; rfl
    rw [e, lim_zero]
    exact Ev.step (f := fun _ => some []) (fun k => by simp [impl_trimLimbs.l0]) (Ev.now _)
  | j + 1, hj, hv => by
    have hlen : (l.take (j + 1)).length = j + 1 := by rw [List.length_take]; omega
    have hr : rd (l.take (j + 1)) (j : Int) = lmb l j := by
      rw [rd_nat]
      simp [lmb, List.getD_eq_getElem?_getD, List.getElem?_take]
    have ew : wrap64 (((j + 1 : Nat) : Int) - 1) = (j : Int) := by rw [w64_in (by omega) (by omega)]; omega
    by_cases hz : lmb l j = 0
    · have ih := impl_trimLimbs_l hu hl j (by omega) (by rw [hv]; simp [vt, hz])
      refine Ev.step (fun k => ?_) ih
      simp only [impl_trimLimbs.l0, hlen, ew, hr]
      rw [if_pos (by omega), if_pos (by omega), if_pos (by omega), if_pos hz, if_pos (by omega), Int.toNat_natCast, List.take_take, Nat.min_eq_left (by omega)]
    · have e : l.take (j + 1) = lim (val l) := by
        have h1 : val (l.take (j + 1)) = val l := by
          rw [hv]
          unfold val
          rw [hlen]
          exact vt_congr (fun i hi => by simp [lmb, List.getD_eq_getElem?_getD, List.getElem?_take, hi])
        rw [← h1]
        refine (lim_val (hu.take _) (fun _ => ?_)).symm
        rw [hlen, Nat.add_sub_cancel]
        simpa [lmb, List.getD_eq_getElem?_getD, List.getElem?_take] using hz
      rw [← e]
      refine Ev.step (f := fun _ => some (l.take (j + 1))) (fun k => ?_) (Ev.now _)
      simp only [impl_trimLimbs.l0, hlen, ew, hr]
      rw [if_pos (by omega), if_pos (by omega), if_pos (by omega), if_neg hz]
theorem impl_trimLimbs_is {l : List Int} (hu : Us l) (hl : l.length ≤ 140737488351232) : Ev (fun k => impl_trimLimbs.f k l) (lim (val l)) := by
  have h := impl_trimLimbs_l hu hl l.length (Nat.le_refl _) rfl
  rw [List.take_length] at h
  exact h
theorem impl_makeBig_is (m : Bool) {l : List Int} (hu : Us l) (hl : l.length ≤ 1048576) : Ev (fun k => impl_makeBig.f k m l) (m && decide (0 < (lim (val l)).length), lim (val l)) := by
  have h0 := lim_len_le (val_nonneg hu) (val_lt hu)
  unfold impl_makeBig.f
  refine Ev.bind (impl_trimLimbs_is hu (by omega)) ?_
  by_cases h : (lim (val l)).length = 0
  · have e := List.eq_nil_of_length_eq_zero h
    rw [e]
    simp
    exact Ev.now _
  · simp only [if_neg (show ¬ ((lim (val l)).length : Int) = 0 by omega), Option.bind_some, List.nil_append, List.length_nil, Nat.zero_add, if_pos (show (lim (val l)).length < 35184372088832 by omega)]
    have e : (m && decide (0 < (lim (val l)).length)) = m := by
      rw [decide_eq_true (show 0 < (lim (val l)).length by omega), Bool.and_true]
    rw [e]
    exact Ev.now _

theorem impl_bigAnswer_is (m : Bool) {l : List Int} (hu : Us l) (hl : l.length ≤ 1048576) : Ev (fun k => impl_bigAnswer.f k m l) (bgRes (if m = true then -val l else val l)) := by
  rw [res_done m (val_nonneg hu)]
  have h0 := lim_len_le (val_nonneg hu) (val_lt hu)
  unfold impl_bigAnswer.f
  refine Ev.bind (impl_trimLimbs_is hu (by omega)) ?_
  by_cases h : 40 < (lim (val l)).length
  · simp only [if_pos (show ((lim (val l)).length : Int) > 40 by omega), if_pos h]; exact Ev.now _
  · simp only [if_neg (show ¬ ((lim (val l)).length : Int) > 40 by omega), if_neg h]
    have hm := impl_makeBig_is m (l := lim (val l)) (us_lim _) (by omega)
    rw [val_lim (val_nonneg hu)] at hm
    exact Ev.bind hm (Ev.now _)

theorem impl_addLimbs_is {l l' : List Int} (hl : l.length ≤ 81) (hl' : l'.length ≤ 81) (hu : Us l) (hu' : Us l') : Ev (fun k => impl_addLimbs.f k l l') (lim (val l + val l')) :=
  Ev.congr (fun k => by unfold impl_addLimbs.f; rw [if_pos ⟨hl, hl', hu, hu'⟩]) (Ev.now _)
theorem impl_subLimbs_is {l l' : List Int} (hl : l.length ≤ 82) (hl' : l'.length ≤ l.length) (hu : Us l) (hu' : Us l') (h : val l' ≤ val l) : Ev (fun k => impl_subLimbs.f k l l') (lim (val l - val l')) :=
  Ev.congr (fun k => by unfold impl_subLimbs.f; rw [if_pos ⟨hl, hl', hu, hu', h⟩]) (Ev.now _)
theorem ans_is (m : Bool) {s : Int} (h : 0 ≤ s) (hl : (lim s).length ≤ 1048576) : Ev (fun k => impl_bigAnswer.f k m (lim s)) (bgRes (if m = true then -s else s)) := by
  have := impl_bigAnswer_is m (us_lim s) hl
  rwa [val_lim h] at this
theorem impl_BigAdd_j (m m' : Bool) (l l' : List Int) (hu : Us l) (hu' : Us l') : Ev (fun k => impl_BigAdd.j0 k (bgFault m l || bgFault m' l') m l m' l') (bgAdd m l m' l') := by
  unfold bgAdd
  refine Ev.step (fun k => by simp only [impl_BigAdd.j0]; rfl) ?_
  by_cases h : (bgFault m l || bgFault m' l') = true
  · simp only [if_pos h]; exact Ev.now _
  · simp only [if_neg h]
    have hf : bgFault m l = false ∧ bgFault m' l' = false := by simpa using h
    obtain ⟨hl, ht, _⟩ := bgFault_no hf.1
    obtain ⟨hl', ht', _⟩ := bgFault_no hf.2
    have v0 := val_nonneg hu
    have v1 := val_nonneg hu'
    have b0 := val_lt hu
    have b1 := val_lt hu'
    have p0 := PW_mono hl
    have p1 := PW_mono hl'
    have p2 : PW 41 = 4294967296 * PW 40 := PW_succ 40
    have p3 := PW_pos 40
    by_cases h2 : m = m'
    · subst h2
      have e : (m == m) = true := by simp
      simp only [if_pos e]
      rw [big_same]
      have hq : (lim (val l + val l')).length ≤ 41 := lim_len_le (by omega) (by omega)
      exact Ev.bind (impl_addLimbs_is (by omega) (by omega) hu hu') (Ev.bind (ans_is m (by omega) (by omega)) (Ev.now _))
    · have e : ¬ ((m == m') = true) := by simpa using h2
      simp only [if_neg e]
      refine Ev.bind (impl_compareLimbs_is (by omega) (by omega) hu hu' ht ht') ?_
      by_cases h3 : val l < val l'
      · have c : cmpI (val l) (val l') = -1 := by unfold cmpI; rw [if_pos h3]
        rw [(big_less h2 l l').2]
        simp only [if_pos c]
        have hq : (lim (val l' - val l)).length ≤ 41 := lim_len_le (by omega) (by omega)
        exact Ev.bind (impl_subLimbs_is (by omega) (len_of_le hu' hu ht (by omega)) hu' hu (by omega)) (Ev.bind (ans_is m' (by omega) (by omega)) (Ev.now _))
      · have c : ¬ cmpI (val l) (val l') = -1 := by unfold cmpI; rw [if_neg h3]; split <;> omega
        rw [(big_less h2 l l').1]
        simp only [if_neg c]
        have hq : (lim (val l - val l')).length ≤ 41 := lim_len_le (by omega) (by omega)
        exact Ev.bind (impl_subLimbs_is (by omega) (len_of_le hu hu' ht' (by omega)) hu hu' (by omega)) (Ev.bind (ans_is m (by omega) (by omega)) (Ev.now _))
theorem impl_BigAdd_is (m m' : Bool) (l l' : List Int) (hu : Us l) (hu' : Us l') (hl : l.length ≤ 140737488351232) (hl' : l'.length ≤ 140737488351232) : Ev (fun k => impl_BigAdd.f k m l m' l') (bgAdd m l m' l') := by
  have h := impl_BigAdd_j m m' l l' hu hu'
  refine Ev.congr (fun k => ?_) h
  unfold impl_BigAdd.f
  rw [impl_BigFault_is m l hl, impl_BigFault_is m' l' hl']
  cases bgFault m l <;> rfl

end Go.Proofs.Ytajmeeppigdjnaa.PFnExactBigAdd
