/- What the functions that the law 'FnExactBigMul' compares come to, told as numbers; no condition. -/
import Derived.Test.YtajmeeppigdjnaaEBigMul
import Derived.Test.YtajmeeppigdjnaaBigMulN
namespace Go.Proofs.Ytajmeeppigdjnaa.PFnExactBigMul
open Go.RowKit Go.Proofs.Ytajmeeppigdjnaa Go.Proofs.Ytajmeeppigdjnaa.Own Go.Proofs.YtajmeeppigdjnaaW.PrintWords Go.Proofs.YtajmeeppigdjnaaW.PrintLast Go.Proofs.YtajmeeppigdjnaaW.PrintMore
set_option linter.unusedVariables false
set_option linter.unusedSimpArgs false

theorem spec_BigFault_is (m : Bool) (l : List Int) (hl : l.length ≤ 140737488351232) : spec_BigFault.f m l = some (bgFault m l) := by
  unfold spec_BigFault.f bgFault
  by_cases h0 : l.length = 0
  · rw [if_neg (by omega), if_neg (by omega), if_pos (by omega), if_pos h0]
  · rw [w64_in (by omega) (by omega), rd_lmb, show ((l.length : Int) - 1).toNat = l.length - 1 by omega, if_neg h0]
    by_cases h1 : 40 < l.length
    · rw [if_pos (by omega)]
      simp [h1]
    · rw [if_neg (by omega), if_pos (by omega), if_pos (by omega), if_pos (by omega)]
      by_cases h2 : lmb l (l.length - 1) = 0
      · rw [if_pos h2]; simp [h2]
      · rw [if_neg h2, if_neg (by omega)]
        simp [h2]
        omega

theorem impl_BigFault_is (m : Bool) (l : List Int) (hl : l.length ≤ 140737488351232) : impl_BigFault.f m l = some (bgFault m l) := by
  unfold impl_BigFault.f bgFault
  by_cases h0 : l.length = 0
  · rw [if_pos (by omega), if_pos h0]
  · rw [w64_in (by omega) (by omega), rd_lmb, show ((l.length : Int) - 1).toNat = l.length - 1 by omega, if_neg h0, if_neg (by omega)]
    by_cases h1 : 40 < l.length
    · rw [if_pos (by omega)]
      simp [h1]
    · rw [if_neg (by omega), if_pos (by omega), if_pos (by omega)]
      simp
      omega

theorem spec_l1Limb_is {l : List Int} (hu : Us l) (i : Nat) : spec_l1Limb.f l (i : Int) = some (lmb l i) := by
  have h := lmb_range hu i
  unfold spec_l1Limb.f
  by_cases hi : i < l.length
  · rw [if_pos (by omega), if_pos (by omega), rd_nat, u64_in h.1 (by omega)]
  · rw [if_neg (by omega), lmb_over (by omega)]

theorem spec_l1Trim_is {l : List Int} (hl : l.length ≤ 35184372088831) (hu : Us l) : Ev (fun k => spec_l1Trim.f k l) (lim (val l)) :=
  Ev.congr (fun k => by unfold spec_l1Trim.f; rw [if_pos ⟨hl, hu⟩]) (Ev.now _)

theorem spec_l1Make_is (m : Bool) (l : List Int) : spec_l1Make.f m l = some (m && decide (0 < l.length), l) := by
  unfold spec_l1Make.f
  cases m <;> simp

theorem spec_l1Done_is (m : Bool) {s : Int} (h : 0 ≤ s) : spec_l1Done.f m (lim s) = some (bgRes (if m = true then -s else s)) := by
  unfold spec_l1Done.f
  rw [res_done m h, spec_l1Make_is]
  by_cases h1 : 40 < (lim s).length
  · rw [if_pos (by omega), if_pos h1]
  · rw [if_neg (by omega), if_neg h1]; rfl

theorem impl_trimLimbs_l {l : List Int} (hu : Us l) (hl : l.length ≤ 140737488351232) : ∀ j : Nat, j ≤ l.length → val l = vt l j → Ev (fun k => impl_trimLimbs.l0 k (l.take j)) (lim (val l))
  | 0, _, hv => by
    have e : val l = 0 := by rw [hv]; rfl
    rw [e, lim_zero]
    exact Ev.step (f := fun _ => some []) (fun k => by simp [impl_trimLimbs.l0]) (Ev.now _)
  | j + 1, hj, hv => by
    have hlen : (l.take (j + 1)).length = j + 1 := by rw [List.length_take]; omega
    have hr : rd (l.take (j + 1)) (j : Int) = lmb l j := by
      rw [rd_nat]
      simp [lmb, List.getD_eq_getElem?_getD, List.getElem?_take]
    have ew : wrap64 (((j + 1 : Nat) : Int) - 1) = (j : Int) := by rw [w64_in (by omega) (by omega)]; omega
    by_cases hz : lmb l j = 0
    · have ih := impl_trimLimbs_l hu hl j (by omega) (by rw [hv]; simp [vt, hz])
      refine Ev.step (fun k => ?_) ih
      simp only [impl_trimLimbs.l0, hlen, ew, hr]
      rw [if_pos (by omega), if_pos (by omega), if_pos (by omega), if_pos hz, if_pos (by omega), Int.toNat_natCast, List.take_take, Nat.min_eq_left (by omega)]
    · have e : l.take (j + 1) = lim (val l) := by
        have h1 : val (l.take (j + 1)) = val l := by
          rw [hv]
          unfold val
          rw [hlen]
          exact vt_congr (fun i hi => by simp [lmb, List.getD_eq_getElem?_getD, List.getElem?_take, hi])
        rw [← h1]
        refine (lim_val (hu.take _) (fun _ => ?_)).symm
        rw [hlen, Nat.add_sub_cancel]
        simpa [lmb, List.getD_eq_getElem?_getD, List.getElem?_take] using hz
      rw [← e]
      refine Ev.step (f := fun _ => some (l.take (j + 1))) (fun k => ?_) (Ev.now _)
      simp only [impl_trimLimbs.l0, hlen, ew, hr]
      rw [if_pos (by omega), if_pos (by omega), if_pos (by omega), if_neg hz]

theorem impl_trimLimbs_is {l : List Int} (hu : Us l) (hl : l.length ≤ 140737488351232) : Ev (fun k => impl_trimLimbs.f k l) (lim (val l)) := by
  have h := impl_trimLimbs_l hu hl l.length (Nat.le_refl _) rfl
  rw [List.take_length] at h
  exact h

theorem impl_makeBig_is (m : Bool) {l : List Int} (hu : Us l) (hl : l.length ≤ 1048576) : Ev (fun k => impl_makeBig.f k m l) (m && decide (0 < (lim (val l)).length), lim (val l)) := by
  have h0 := lim_len_le (val_nonneg hu) (val_lt hu)
  unfold impl_makeBig.f
  refine Ev.bind (impl_trimLimbs_is hu (by omega)) ?_
  by_cases h : (lim (val l)).length = 0
  · have e := List.eq_nil_of_length_eq_zero h
    rw [e]
    simp
    exact Ev.now _
  · simp only [if_neg (show ¬ ((lim (val l)).length : Int) = 0 by omega), Option.bind_some, List.nil_append, List.length_nil, Nat.zero_add, if_pos (show (lim (val l)).length < 35184372088832 by omega)]
    have e : (m && decide (0 < (lim (val l)).length)) = m := by
      rw [decide_eq_true (show 0 < (lim (val l)).length by omega), Bool.and_true]
    rw [e]
    exact Ev.now _

theorem impl_bigAnswer_is (m : Bool) {l : List Int} (hu : Us l) (hl : l.length ≤ 1048576) : Ev (fun k => impl_bigAnswer.f k m l) (bgRes (if m = true then -val l else val l)) := by
  rw [res_done m (val_nonneg hu)]
  have h0 := lim_len_le (val_nonneg hu) (val_lt hu)
  unfold impl_bigAnswer.f
  refine Ev.bind (impl_trimLimbs_is hu (by omega)) ?_
  by_cases h : 40 < (lim (val l)).length
  · simp only [if_pos (show ((lim (val l)).length : Int) > 40 by omega), if_pos h]; exact Ev.now _
  · simp only [if_neg (show ¬ ((lim (val l)).length : Int) > 40 by omega), if_neg h]
    have hm := impl_makeBig_is m (l := lim (val l)) (us_lim _) (by omega)
    rw [val_lim (val_nonneg hu)] at hm
    exact Ev.bind hm (Ev.now _)

theorem spec_l1Mul_go {a b o : List Int} {i k : Nat} {c : Int} {R : List Int} (ha : Us a) (hb : Us b) (hu : Us o) (hi : i < a.length) (hla : a.length ≤ 1048576) (hlb : b.length ≤ 1048576) (hk : k ≤ b.length) (ho : o.length = a.length + b.length + 1) (hc0 : 0 ≤ c) (hc1 : c < 4294967296) (hgo : k < b.length ∨ 0 < c)
    (h : Ev (fun n => spec_l1Mul.l1 n a b (o.set (i + k) ((lmb a i * lmb b k + lmb o (i + k) + c) % 4294967296)) (i : Int) ((lmb a i * lmb b k + lmb o (i + k) + c) / 4294967296) ((k + 1 : Nat) : Int)) R) :
    Ev (fun n => spec_l1Mul.l1 n a b o (i : Int) c (k : Int)) R := by
  have hx := lmb_range ha i
  have hy := lmb_range hb k
  have hz := lmb_range hu (i + k)
  have hp := prod_range hx.1 hx.2 hy.1 hy.2
  refine Ev.step (fun n => ?_) h
  have ek : wrap64 ((i : Int) + (k : Int)) = ((i + k : Nat) : Int) := by rw [w64_in (by omega) (by omega)]; omega
  have ek1 : wrap64 ((k : Int) + 1) = ((k + 1 : Nat) : Int) := by rw [w64_in (by omega) (by omega)]; omega
  have es : IntKind.u64.wrap (IntKind.u64.wrap (IntKind.u64.wrap (IntKind.u64.wrap (lmb a i) * lmb b k) + IntKind.u64.wrap (lmb o (i + k))) + c) = lmb a i * lmb b k + lmb o (i + k) + c := by
    rw [u64_in (x := lmb a i) hx.1 (by omega), u64_in (x := lmb a i * lmb b k) hp.1 (by omega), u64_in (x := lmb o (i + k)) hz.1 (by omega), u64_in (x := lmb a i * lmb b k + lmb o (i + k)) (by omega) (by omega), u64_in (by omega) (by omega)]
  have c2 : (0 : Int) ≤ (i : Int) := Int.natCast_nonneg i
  have c3 : (i : Int) < (a.length : Int) := Int.ofNat_lt.2 hi
  have c4 : (0 : Int) ≤ ((i + k : Nat) : Int) := Int.natCast_nonneg _
  have c5 : ((i + k : Nat) : Int) < (o.length : Int) := Int.ofNat_lt.2 (by rw [ho]; clear es ek ek1 h; omega)
  rw [spec_l1Mul.l1]
  by_cases hkb : k < b.length
  · have c1 : (k : Int) < (b.length : Int) := Int.ofNat_lt.2 hkb
    rw [if_pos c1, if_pos c2, if_pos c3, spec_l1Limb_is hb k, Option.bind_some, ek, ek1, rd_nat, rd_nat, es, if_pos c4, if_pos c5, Int.toNat_natCast]
  · have c1 : ¬ (k : Int) < (b.length : Int) := fun h => hkb (Int.ofNat_lt.1 h)
    have c6 : c > 0 := hgo.resolve_left hkb
    rw [if_neg c1, if_pos c6, if_pos c2, if_pos c3, spec_l1Limb_is hb k, Option.bind_some, ek, ek1, rd_nat, rd_nat, es, if_pos c4, if_pos c5, Int.toNat_natCast]
theorem spec_l1Mul_in {a b : List Int} {i : Nat} {R : List Int} (ha : Us a) (hb : Us b) (hi : i < a.length) (hla : a.length ≤ 1048576) (hlb : b.length ≤ 1048576)
    (hnext : ∀ o : List Int, o.length = a.length + b.length + 1 → Us o → val o = vt a (i + 1) * val b → Ev (fun n => spec_l1Mul.l0 n a b o ((i + 1 : Nat) : Int)) R) :
    ∀ d k : Nat, k + d = b.length + 1 → ∀ (o : List Int) (c : Int), o.length = a.length + b.length + 1 → Us o → 0 ≤ c → c < 4294967296 → val o + c * PW (i + k) = vt a i * val b + lmb a i * vt b k * PW i → Ev (fun n => spec_l1Mul.l1 n a b o (i : Int) c (k : Int)) R := by
  have stop : ∀ k : Nat, b.length ≤ k → ∀ (o : List Int), o.length = a.length + b.length + 1 → Us o → val o + 0 * PW (i + k) = vt a i * val b + lmb a i * vt b k * PW i → Ev (fun n => spec_l1Mul.l1 n a b o (i : Int) 0 (k : Int)) R := by
    intro k hk o ho hu hv
    rw [vt_val hk, mul_row, Int.zero_mul, Int.add_zero] at hv
    refine Ev.step (fun n => ?_) (hnext o ho hu hv)
    rw [spec_l1Mul.l1, if_neg (by omega), if_neg (by omega), w64_in (by omega) (by omega)]
    rfl
  intro d
  induction d with
  | zero =>
    intro k hk o c ho hu hc0 hc1 hv
    obtain rfl := mul_carry ha hb hu (by omega) hc0 hv
    exact stop k (by omega) o ho hu hv
  | succ d ih =>
    intro k hk o c ho hu hc0 hc1 hv
    by_cases hgo : k < b.length ∨ 0 < c
    · have hx := lmb_range ha i
      have hy := lmb_range hb k
      have hz := lmb_range hu (i + k)
      have hp := prod_range hx.1 hx.2 hy.1 hy.2
      exact spec_l1Mul_go ha hb hu hi hla hlb (by omega) ho hc0 hc1 hgo (ih (k + 1) (by omega) _ _ (by rw [List.length_set]; exact ho) (hu.set _ (by omega) (by omega)) (by omega) (by omega) (mul_step (by omega) hv))
    · obtain rfl : c = 0 := by omega
      exact stop k (by omega) o ho hu hv
theorem spec_l1Mul_out {a b : List Int} (ha : Us a) (hb : Us b) (hla : a.length ≤ 1048576) (hlb : b.length ≤ 1048576) : ∀ d i : Nat, i + d = a.length → ∀ o : List Int, o.length = a.length + b.length + 1 → Us o → val o = vt a i * val b → Ev (fun n => spec_l1Mul.l0 n a b o (i : Int)) (lim (val a * val b))
  | 0, i, hi, o, ho, hu, hv => by
    rw [vt_val (by omega : a.length ≤ i)] at hv
    rw [← hv]
    exact Ev.step (fun n => by rw [spec_l1Mul.l0, if_neg (by omega)]) (Ev.bind (spec_l1Trim_is (by omega) hu) (Ev.now _))
  | d + 1, i, hi, o, ho, hu, hv => by
    have h := spec_l1Mul_in (i := i) (R := lim (val a * val b)) ha hb (by omega) hla hlb (fun o ho hu hv => spec_l1Mul_out ha hb hla hlb d (i + 1) (by omega) o ho hu hv) (b.length + 1) 0 (by omega) o 0 ho hu (by omega) (by omega) (by simp [vt, hv])
    refine Ev.step (fun n => ?_) h
    rw [spec_l1Mul.l0, if_pos (by omega)]
    rfl
theorem spec_l1Mul_is {a b : List Int} (ha : Us a) (hb : Us b) (hla : a.length ≤ 1048576) (hlb : b.length ≤ 1048576) : Ev (fun n => spec_l1Mul.f n a b) (lim (val a * val b)) := by
  have h := spec_l1Mul_out ha hb hla hlb a.length 0 (by omega) (List.replicate (a.length + b.length + 1) 0) (by simp) (Us.replicate _) (by simp [vt, val_replicate])
  refine Ev.congr (fun n => ?_) h
  unfold spec_l1Mul.f
  rw [w64_in (x := (a.length : Int) + b.length) (by omega) (by omega), w64_in (by omega) (by omega), if_pos (by omega), if_pos (by omega)]
  rfl
theorem big_mul {m m' : Bool} {l l' : List Int} : big m l * big m' l' = if (m != m') = true then -(val l * val l') else val l * val l' := by
  unfold big
  cases m <;> cases m' <;> simp [Int.neg_mul, Int.mul_neg]
theorem spec_BigMul_j (m m' : Bool) (l l' : List Int) (hu : Us l) (hu' : Us l') : Ev (fun k => spec_BigMul.j0 k (bgFault m l || bgFault m' l') m l m' l') (bgMul m l m' l') := by
  unfold bgMul
  refine Ev.step (fun k => by simp only [spec_BigMul.j0]; rfl) ?_
  by_cases h : (bgFault m l || bgFault m' l') = true
  · simp only [if_pos h]; exact Ev.now _
  · simp only [if_neg h]
    have hf : bgFault m l = false ∧ bgFault m' l' = false := by simpa using h
    obtain ⟨hl, ht, _⟩ := bgFault_no hf.1
    obtain ⟨hl', ht', _⟩ := bgFault_no hf.2
    rw [big_mul]
    refine Ev.bind (spec_l1Mul_is hu hu' (by omega) (by omega)) ?_
    simp only [spec_l1Done_is (m != m') (s := val l * val l') (Int.mul_nonneg (val_nonneg hu) (val_nonneg hu')), Option.bind_some]
    exact Ev.now _
theorem spec_BigMul_is (m m' : Bool) (l l' : List Int) (hu : Us l) (hu' : Us l') (hl : l.length ≤ 140737488351232) (hl' : l'.length ≤ 140737488351232) : Ev (fun k => spec_BigMul.f k m l m' l') (bgMul m l m' l') := by
  have h := spec_BigMul_j m m' l l' hu hu'
  refine Ev.congr (fun k => ?_) h
  unfold spec_BigMul.f
  rw [spec_BigFault_is m l hl, spec_BigFault_is m' l' hl']
  cases bgFault m l <;> rfl

end Go.Proofs.Ytajmeeppigdjnaa.PFnExactBigMul
