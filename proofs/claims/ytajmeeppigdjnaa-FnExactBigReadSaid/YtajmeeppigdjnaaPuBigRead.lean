/- What the functions that the law 'FnExactBigRead' compares come to, told as numbers; no condition. -/
import Derived.Test.YtajmeeppigdjnaaEReadI
import Derived.Test.YtajmeeppigdjnaaEReadS
import Derived.Test.YtajmeeppigdjnaaReadN
namespace Go.Proofs.Ytajmeeppigdjnaa.PFnExactBigRead
open Go.RowKit Go.Proofs.Ytajmeeppigdjnaa Go.Proofs.Ytajmeeppigdjnaa.Own Go.Proofs.YtajmeeppigdjnaaW.PrintWords Go.Proofs.YtajmeeppigdjnaaW.PrintLast Go.Proofs.YtajmeeppigdjnaaW.PrintMore
set_option linter.unusedVariables false
set_option linter.unusedSimpArgs false

theorem spec_l1Limb_is {l : List Int} (hu : Us l) (i : Nat) : spec_l1Limb.f l (i : Int) = some (lmb l i) := by
  have h := lmb_range hu i
  unfold spec_l1Limb.f
  by_cases hi : i < l.length
  · rw [if_pos (by omega), if_pos (by omega), rd_nat, u64_in h.1 (by omega)]
  · rw [if_neg (by omega), lmb_over (by omega)]

theorem spec_l1Trim_is {l : List Int} (hl : l.length ≤ 35184372088831) (hu : Us l) : Ev (fun k => spec_l1Trim.f k l) (lim (val l)) :=
  Ev.congr (fun k => by unfold spec_l1Trim.f; rw [if_pos ⟨hl, hu⟩]) (Ev.now _)

theorem spec_l1Make_is (m : Bool) (l : List Int) : spec_l1Make.f m l = some (m && decide (0 < l.length), l) := by
  unfold spec_l1Make.f
  cases m <;> simp

theorem spec_l1Mul_go {a b o : List Int} {i k : Nat} {c : Int} {R : List Int} (ha : Us a) (hb : Us b) (hu : Us o) (hi : i < a.length) (hla : a.length ≤ 1048576) (hlb : b.length ≤ 1048576) (hk : k ≤ b.length) (ho : o.length = a.length + b.length + 1) (hc0 : 0 ≤ c) (hc1 : c < 4294967296) (hgo : k < b.length ∨ 0 < c)
    (h : Ev (fun n => spec_l1Mul.l1 n a b (o.set (i + k) ((lmb a i * lmb b k + lmb o (i + k) + c) % 4294967296)) (i : Int) ((lmb a i * lmb b k + lmb o (i + k) + c) / 4294967296) ((k + 1 : Nat) : Int)) R) :
    Ev (fun n => spec_l1Mul.l1 n a b o (i : Int) c (k : Int)) R := by
  have hx := lmb_range ha i
  have hy := lmb_range hb k
  have hz := lmb_range hu (i + k)
  have hp := prod_range hx.1 hx.2 hy.1 hy.2
  refine Ev.step (fun n => ?_) h
  have ek : wrap64 ((i : Int) + (k : Int)) = ((i + k : Nat) : Int) := by rw [w64_in (by omega) (by omega)]; omega
  have ek1 : wrap64 ((k : Int) + 1) = ((k + 1 : Nat) : Int) := by rw [w64_in (by omega) (by omega)]; omega
  have es : IntKind.u64.wrap (IntKind.u64.wrap (IntKind.u64.wrap (IntKind.u64.wrap (lmb a i) * lmb b k) + IntKind.u64.wrap (lmb o (i + k))) + c) = lmb a i * lmb b k + lmb o (i + k) + c := by
    rw [u64_in (x := lmb a i) hx.1 (by omega), u64_in (x := lmb a i * lmb b k) hp.1 (by omega), u64_in (x := lmb o (i + k)) hz.1 (by omega), u64_in (x := lmb a i * lmb b k + lmb o (i + k)) (by omega) (by omega), u64_in (by omega) (by omega)]
  have c2 : (0 : Int) ≤ (i : Int) := Int.natCast_nonneg i
  have c3 : (i : Int) < (a.length : Int) := Int.ofNat_lt.2 hi
  have c4 : (0 : Int) ≤ ((i + k : Nat) : Int) := Int.natCast_nonneg _
  have c5 : ((i + k : Nat) : Int) < (o.length : Int) := Int.ofNat_lt.2 (by rw [ho]; clear es ek ek1 h; omega)
  rw [spec_l1Mul.l1]
  by_cases hkb : k < b.length
  · have c1 : (k : Int) < (b.length : Int) := Int.ofNat_lt.2 hkb
    rw [if_pos c1, if_pos c2, if_pos c3, spec_l1Limb_is hb k, Option.bind_some, ek, ek1, rd_nat, rd_nat, es, if_pos c4, if_pos c5, Int.toNat_natCast]
  · have c1 : ¬ (k : Int) < (b.length : Int) := fun h => hkb (Int.ofNat_lt.1 h)
    have c6 : c > 0 := hgo.resolve_left hkb
    rw [if_neg c1, if_pos c6, if_pos c2, if_pos c3, spec_l1Limb_is hb k, Option.bind_some, ek, ek1, rd_nat, rd_nat, es, if_pos c4, if_pos c5, Int.toNat_natCast]

theorem spec_l1Mul_in {a b : List Int} {i : Nat} {R : List Int} (ha : Us a) (hb : Us b) (hi : i < a.length) (hla : a.length ≤ 1048576) (hlb : b.length ≤ 1048576)
    (hnext : ∀ o : List Int, o.length = a.length + b.length + 1 → Us o → val o = vt a (i + 1) * val b → Ev (fun n => spec_l1Mul.l0 n a b o ((i + 1 : Nat) : Int)) R) :
    ∀ d k : Nat, k + d = b.length + 1 → ∀ (o : List Int) (c : Int), o.length = a.length + b.length + 1 → Us o → 0 ≤ c → c < 4294967296 → val o + c * PW (i + k) = vt a i * val b + lmb a i * vt b k * PW i → Ev (fun n => spec_l1Mul.l1 n a b o (i : Int) c (k : Int)) R := by
  have stop : ∀ k : Nat, b.length ≤ k → ∀ (o : List Int), o.length = a.length + b.length + 1 → Us o → val o + 0 * PW (i + k) = vt a i * val b + lmb a i * vt b k * PW i → Ev (fun n => spec_l1Mul.l1 n a b o (i : Int) 0 (k : Int)) R := by
    intro k hk o ho hu hv
    rw [vt_val hk, mul_row, Int.zero_mul, Int.add_zero] at hv
    refine Ev.step (fun n => ?_) (hnext o ho hu hv)
    rw [spec_l1Mul.l1, if_neg (by omega), if_neg (by omega), w64_in (by omega) (by omega)]
    rfl
  intro d
  induction d with
  | zero =>
    intro k hk o c ho hu hc0 hc1 hv
    obtain rfl := mul_carry ha hb hu (by omega) hc0 hv
    exact stop k (by omega) o ho hu hv
  | succ d ih =>
    intro k hk o c ho hu hc0 hc1 hv
    by_cases hgo : k < b.length ∨ 0 < c
    · have hx := lmb_range ha i
      have hy := lmb_range hb k
      have hz := lmb_range hu (i + k)
      have hp := prod_range hx.1 hx.2 hy.1 hy.2
      exact spec_l1Mul_go ha hb hu hi hla hlb (by omega) ho hc0 hc1 hgo (ih (k + 1) (by omega) _ _ (by rw [List.length_set]; exact ho) (hu.set _ (by omega) (by omega)) (by omega) (by omega) (mul_step (by omega) hv))
    · obtain rfl : c = 0 := by omega
      exact stop k (by omega) o ho hu hv

theorem spec_l1Mul_out {a b : List Int} (ha : Us a) (hb : Us b) (hla : a.length ≤ 1048576) (hlb : b.length ≤ 1048576) : ∀ d i : Nat, i + d = a.length → ∀ o : List Int, o.length = a.length + b.length + 1 → Us o → val o = vt a i * val b → Ev (fun n => spec_l1Mul.l0 n a b o (i : Int)) (lim (val a * val b))
  | 0, i, hi, o, ho, hu, hv => by
    rw [vt_val (by omega : a.length ≤ i)] at hv
    rw [← hv]
    exact Ev.step (fun n => by rw [spec_l1Mul.l0, if_neg (by omega)]) (Ev.bind (spec_l1Trim_is (by omega) hu) (Ev.now _))
  | d + 1, i, hi, o, ho, hu, hv => by
    have h := spec_l1Mul_in (i := i) (R := lim (val a * val b)) ha hb (by omega) hla hlb (fun o ho hu hv => spec_l1Mul_out ha hb hla hlb d (i + 1) (by omega) o ho hu hv) (b.length + 1) 0 (by omega) o 0 ho hu (by omega) (by omega) (by simp [vt, hv])
    refine Ev.step (fun n => ?_) h
    rw [spec_l1Mul.l0, if_pos (by omega)]
    rfl

theorem spec_l1Mul_is {a b : List Int} (ha : Us a) (hb : Us b) (hla : a.length ≤ 1048576) (hlb : b.length ≤ 1048576) : Ev (fun n => spec_l1Mul.f n a b) (lim (val a * val b)) := by
  have h := spec_l1Mul_out ha hb hla hlb a.length 0 (by omega) (List.replicate (a.length + b.length + 1) 0) (by simp) (Us.replicate _) (by simp [vt, val_replicate])
  refine Ev.congr (fun n => ?_) h
  unfold spec_l1Mul.f
  rw [w64_in (x := (a.length : Int) + b.length) (by omega) (by omega), w64_in (by omega) (by omega), if_pos (by omega), if_pos (by omega)]
  rfl

theorem spec_l1Add_go {a b o : List Int} {c : Int} {i : Nat} {r : List Int} (ha : Us a) (hb : Us b) (ho : o.length = i) (hi : i < 35184372088832) (hc0 : 0 ≤ c) (hc1 : c ≤ 1) (h : Ev (fun k => spec_l1Add.l0 k a b (o ++ [(lmb a i + lmb b i + c) % 4294967296]) ((lmb a i + lmb b i + c) / 4294967296) ((i + 1 : Nat) : Int)) r) : Ev (fun k => spec_l1Add.j1 k a b o c (i : Int) true) r := by
  have h1 := lmb_range ha i
  have h2 := lmb_range hb i
  refine Ev.step (fun k => ?_) h
  simp only [spec_l1Add.j1, if_true]
  rw [spec_l1Limb_is ha i, spec_l1Limb_is hb i]
  simp only [Option.bind_some]
  rw [if_pos (by omega), u64_in (x := lmb a i + lmb b i) (by omega) (by omega), u64_in (x := lmb a i + lmb b i + c) (by omega) (by omega), w64_in (by omega) (by omega)]
  rfl

theorem spec_l1Add_stop {a b o : List Int} {c : Int} {i : Int} (hu : Us o) (hl : o.length ≤ 35184372088831) : Ev (fun k => spec_l1Add.j1 k a b o c i false) (lim (val o)) :=
  Ev.step (fun k => by simp only [spec_l1Add.j1, Bool.false_eq_true, if_false]) (Ev.bind (spec_l1Trim_is hl hu) (Ev.now _))

theorem spec_l1Add_l {a b : List Int} (ha : Us a) (hb : Us b) (M : Nat) (hM : M ≤ 1048576) (hla : a.length ≤ M) (hlb : b.length ≤ M) (hm : M = a.length ∨ M = b.length) : ∀ d i : Nat, i + d = M → ∀ (o : List Int) (c : Int), o.length = i → Us o → 0 ≤ c → c ≤ 1 → val o + c * PW i = vt a i + vt b i → Ev (fun k => spec_l1Add.l0 k a b o c (i : Int)) (lim (val a + val b))
  | 0, i, hi, o, c, ho, hu, hc0, hc1, hv => by
    obtain rfl : i = M := by omega
    have e0 : ∀ (k : Nat) (o' : List Int) (c' : Int) (n : Nat), i ≤ n → spec_l1Add.l0 (k + 1) a b o' c' (n : Int) = spec_l1Add.j1 k a b o' c' (n : Int) (decide (c' > 0)) := fun k o' c' n hn => by
      simp only [spec_l1Add.l0]
      rw [if_neg (by omega), if_neg (by omega)]
    have hva : vt a i = val a := vt_val hla
    have hvb : vt b i = val b := vt_val hlb
    rw [hva, hvb] at hv
    refine Ev.step (fun k => e0 k o c i (Nat.le_refl _)) ?_
    by_cases hz : c = 0
    · subst hz
      have e : val a + val b = val o := by omega
      rw [e]
      exact spec_l1Add_stop hu (by omega)
    · obtain rfl : c = 1 := by omega
      refine spec_l1Add_go ha hb ho (by omega) (by omega) (by omega) ?_
      rw [lmb_over hla, lmb_over hlb]
      refine Ev.step (fun k => e0 k _ _ (i + 1) (by omega)) ?_
      have e : val a + val b = val (o ++ [1]) := by rw [val_snoc, ho]; omega
      rw [e]
      exact spec_l1Add_stop (hu.append (Us.cons (by omega) (by omega) Us.nil)) (by rw [List.length_append, List.length_singleton]; omega)
  | d + 1, i, hi, o, c, ho, hu, hc0, hc1, hv => by
    have h1 := lmb_range ha i
    have h2 := lmb_range hb i
    have ih := spec_l1Add_l ha hb M hM hla hlb hm d (i + 1) (by omega) (o ++ [(lmb a i + lmb b i + c) % 4294967296]) ((lmb a i + lmb b i + c) / 4294967296) (by rw [List.length_append, List.length_singleton, ho]) (hu.append (Us.cons (by omega) (by omega) Us.nil)) (by omega) (by omega) (add_out ho hv)
    have hg := spec_l1Add_go ha hb ho (by omega) hc0 hc1 ih
    refine Ev.step (fun k => ?_) hg
    simp only [spec_l1Add.l0]
    by_cases hx : i < a.length
    · rw [if_pos (by omega)]
    · rw [if_neg (by omega), if_pos (by omega)]

theorem spec_l1Add_is {a b : List Int} (ha : Us a) (hb : Us b) (hla : a.length ≤ 1048576) (hlb : b.length ≤ 1048576) : Ev (fun k => spec_l1Add.f k a b) (lim (val a + val b)) := by
  unfold spec_l1Add.f
  rcases Nat.le_total a.length b.length with h | h
  · exact spec_l1Add_l ha hb b.length hlb h (Nat.le_refl _) (.inr rfl) b.length 0 (by omega) [] 0 rfl Us.nil (by omega) (by omega) (by simp [vt, val_nil])
  · exact spec_l1Add_l ha hb a.length hla (Nat.le_refl _) h (.inl rfl) a.length 0 (by omega) [] 0 rfl Us.nil (by omega) (by omega) (by simp [vt, val_nil])

theorem impl_trimLimbs_l {l : List Int} (hu : Us l) (hl : l.length ≤ 140737488351232) : ∀ j : Nat, j ≤ l.length → val l = vt l j → Ev (fun k => impl_trimLimbs.l0 k (l.take j)) (lim (val l))
  | 0, _, hv => by
    have e : val l = 0 := by rw [hv]; rfl
    rw [e, lim_zero]
    exact Ev.step (f := fun _ => some []) (fun k => by simp [impl_trimLimbs.l0]) (Ev.now _)
  | j + 1, hj, hv => by
    have hlen : (l.take (j + 1)).length = j + 1 := by rw [List.length_take]; omega
    have hr : rd (l.take (j + 1)) (j : Int) = lmb l j := by
      rw [rd_nat]
      simp [lmb, List.getD_eq_getElem?_getD, List.getElem?_take]
    have ew : wrap64 (((j + 1 : Nat) : Int) - 1) = (j : Int) := by rw [w64_in (by omega) (by omega)]; omega
    by_cases hz : lmb l j = 0
    · have ih := impl_trimLimbs_l hu hl j (by omega) (by rw [hv]; simp [vt, hz])
      refine Ev.step (fun k => ?_) ih
      simp only [impl_trimLimbs.l0, hlen, ew, hr]
      rw [if_pos (by omega), if_pos (by omega), if_pos (by omega), if_pos hz, if_pos (by omega), Int.toNat_natCast, List.take_take, Nat.min_eq_left (by omega)]
    · have e : l.take (j + 1) = lim (val l) := by
        have h1 : val (l.take (j + 1)) = val l := by
          rw [hv]
          unfold val
          rw [hlen]
          exact vt_congr (fun i hi => by simp [lmb, List.getD_eq_getElem?_getD, List.getElem?_take, hi])
        rw [← h1]
        refine (lim_val (hu.take _) (fun _ => ?_)).symm
        rw [hlen, Nat.add_sub_cancel]
        simpa [lmb, List.getD_eq_getElem?_getD, List.getElem?_take] using hz
      rw [← e]
      refine Ev.step (f := fun _ => some (l.take (j + 1))) (fun k => ?_) (Ev.now _)
      simp only [impl_trimLimbs.l0, hlen, ew, hr]
      rw [if_pos (by omega), if_pos (by omega), if_pos (by omega), if_neg hz]

theorem impl_trimLimbs_is {l : List Int} (hu : Us l) (hl : l.length ≤ 140737488351232) : Ev (fun k => impl_trimLimbs.f k l) (lim (val l)) := by
  have h := impl_trimLimbs_l hu hl l.length (Nat.le_refl _) rfl
  rw [List.take_length] at h
  exact h

theorem impl_makeBig_is (m : Bool) {l : List Int} (hu : Us l) (hl : l.length ≤ 1048576) : Ev (fun k => impl_makeBig.f k m l) (m && decide (0 < (lim (val l)).length), lim (val l)) := by
  have h0 := lim_len_le (val_nonneg hu) (val_lt hu)
  unfold impl_makeBig.f
  refine Ev.bind (impl_trimLimbs_is hu (by omega)) ?_
  by_cases h : (lim (val l)).length = 0
  · have e := List.eq_nil_of_length_eq_zero h
    rw [e]
    simp
    exact Ev.now _
  · simp only [if_neg (show ¬ ((lim (val l)).length : Int) = 0 by omega), Option.bind_some, List.nil_append, List.length_nil, Nat.zero_add, if_pos (show (lim (val l)).length < 35184372088832 by omega)]
    have e : (m && decide (0 < (lim (val l)).length)) = m := by
      rw [decide_eq_true (show 0 < (lim (val l)).length by omega), Bool.and_true]
    rw [e]
    exact Ev.now _

theorem toList_nil (s : ByteArray) : s.toList = ([] : List UInt8) ↔ s.size = 0 := by
  rw [ByteArray.toList_eq, ← List.length_eq_zero_iff, Array.length_toList]
  exact Iff.rfl
theorem res_at (m : Bool) {s : Int} (h : 0 ≤ s) (hl : (lim s).length ≤ 40) : bgRes (if m = true then -s else s) = (0, m && decide (0 < (lim s).length), lim s) := by
  rw [res_done m h, if_neg (by omega)]
theorem res_over (m : Bool) {s : Int} (h : 0 ≤ s) (hl : 40 < (lim s).length) : bgRes (if m = true then -s else s) = (2, false, []) := by
  rw [res_done m h, if_pos hl]
theorem spec_read_l1 (m : Bool) (t : ByteArray) (hsz : t.size ≤ 1048576) (hd : Digs t) : ∀ d i : Nat, i + d = t.size → (lim (num t i)).length ≤ 40 → Ev (fun k => spec_BigRead.l1 k m t (lim (num t i)) (i : Int)) (bgRes (if m = true then -num t t.size else num t t.size))
  | 0, i, hi, hl => by
    obtain rfl : i = t.size := by omega
    rw [res_at m (num_nonneg hd _ (Nat.le_refl _)) hl]
    exact Ev.step (f := fun _ => some (0, m && decide (0 < (lim (num t t.size)).length), lim (num t t.size))) (fun k => by rw [spec_BigRead.l1, if_neg (by omega), spec_l1Make_is]; rfl) (Ev.now _)
  | d + 1, i, hi, hl => by
    have h0 := num_nonneg hd i (by omega)
    have hb := hd i (by omega)
    refine Ev.step (fun k => by rw [spec_BigRead.l1, if_pos (by omega)]) ?_
    have hm := spec_l1Mul_is (a := lim (num t i)) (b := [10]) (us_lim _) (Us.cons (by omega) (by omega) Us.nil) (by omega) (by simp)
    rw [val_lim h0, val_one] at hm
    refine Ev.bind hm ?_
    simp only [if_pos (show (0 : Int) ≤ (i : Int) by omega)]
    have e256 : (bt t (i : Int) - 48) % 256 = bt t (i : Int) - 48 := by omega
    have ht := spec_l1Trim_is (l := [(bt t (i : Int) - 48) % 256]) (by simp) (Us.cons (by omega) (by omega) Us.nil)
    rw [val_one, e256] at ht
    rw [e256]
    refine Ev.bind ht ?_
    have hlt : num t i * 10 < PW 42 := by
      have := lt_of_lim_len h0 hl
      have e : PW 42 = 4294967296 * (4294967296 * PW 40) := by rw [PW_succ, PW_succ]
      have := PW_pos 40
      omega
    have hl1 := lim_len_le (show (0 : Int) ≤ num t i * 10 by omega) hlt
    have hl2 : (lim (bt t (i : Int) - 48)).length ≤ 1 := lim_len_le (by omega) (by unfold PW; omega)
    have ha := spec_l1Add_is (a := lim (num t i * 10)) (b := lim (bt t (i : Int) - 48)) (us_lim _) (us_lim _) (by omega) (by omega)
    rw [val_lim (by omega), val_lim (by omega)] at ha
    refine Ev.bind ha ?_
    have en : num t i * 10 + (bt t (i : Int) - 48) = num t (i + 1) := rfl
    rw [en]
    by_cases ho : 40 < (lim (num t (i + 1))).length
    · rw [res_over m (num_nonneg hd _ (Nat.le_refl _)) (num_over hd (i := i + 1) (by omega) ho)]
      simp only [if_pos (show ((lim (num t (i + 1))).length : Int) > 40 by omega)]
      exact Ev.now _
    · have ih := spec_read_l1 m t hsz hd d (i + 1) (by omega) (by omega)
      simp only [if_neg (show ¬ ((lim (num t (i + 1))).length : Int) > 40 by omega)]
      rw [w64_in (by omega) (by omega)]
      exact ih
theorem spec_read_start (m : Bool) (t : ByteArray) (hsz : t.size ≤ 1048576) (hd : Digs t) : Ev (fun k => spec_BigRead.l1 k m t [] 0) (bgRes (if m = true then -num t t.size else num t t.size)) := by
  have e : lim (num t 0) = [] := lim_zero
  have h := spec_read_l1 m t hsz hd t.size 0 (by omega) (by rw [e]; exact Nat.zero_le _)
  rw [e] at h
  exact h
theorem spec_read_ok (m : Bool) (t : ByteArray) (hsz : t.size ≤ 1048576) (hd : Digs t) {R : Int × Bool × List Int} (h : Ev (fun k => spec_BigRead.l1 k m t [] 0) R) : ∀ d i : Nat, i + d = t.size → Ev (fun k => spec_BigRead.l0 k m t (i : Int)) R
  | 0, i, hi => Ev.step (fun k => by rw [spec_BigRead.l0, if_neg (by omega)]) h
  | d + 1, i, hi => by
    have hb := hd i (by omega)
    have ih := spec_read_ok m t hsz hd h d (i + 1) (by omega)
    exact Ev.step (fun k => by rw [spec_BigRead.l0, if_pos (by omega), if_pos (by omega), if_neg (by omega), if_neg (by omega), w64_in (by omega) (by omega)]; rfl) ih
theorem spec_read_bad (m : Bool) (t : ByteArray) (hsz : t.size ≤ 1048576) : ∀ d i : Nat, i + d = t.size → (∃ j : Nat, i ≤ j ∧ j < t.size ∧ ¬ (48 ≤ bt t j ∧ bt t j ≤ 57)) → Ev (fun k => spec_BigRead.l0 k m t (i : Int)) (1, false, [])
  | 0, i, hi, ⟨j, h1, h2, _⟩ => by omega
  | d + 1, i, hi, ⟨j, h1, h2, h3⟩ => by
    by_cases hb : 48 ≤ bt t (i : Int) ∧ bt t (i : Int) ≤ 57
    · have hij : i ≠ j := fun e => h3 (e ▸ hb)
      have ih := spec_read_bad m t hsz d (i + 1) (by omega) ⟨j, by omega, h2, h3⟩
      exact Ev.step (fun k => by rw [spec_BigRead.l0, if_pos (by omega), if_pos (by omega), if_neg (by omega), if_neg (by omega), w64_in (by omega) (by omega)]; rfl) ih
    · by_cases hb1 : bt t (i : Int) < 48
      · exact Ev.step (f := fun _ => some (1, false, [])) (fun k => by rw [spec_BigRead.l0, if_pos (by omega), if_pos (by omega), if_pos hb1]) (Ev.now _)
      · exact Ev.step (f := fun _ => some (1, false, [])) (fun k => by rw [spec_BigRead.l0, if_pos (by omega), if_pos (by omega), if_neg hb1, if_pos (by omega)]) (Ev.now _)
theorem not_digs {t : ByteArray} (h : ¬ Digs t) : ∃ j : Nat, 0 ≤ j ∧ j < t.size ∧ ¬ (48 ≤ bt t j ∧ bt t j ≤ 57) := by
  refine Classical.byContradiction fun hn => h fun i hi => ?_
  exact Classical.byContradiction fun hb => hn ⟨i, Nat.zero_le _, hi, hb⟩
theorem spec_read_j1 (m : Bool) (t : ByteArray) (hsz : t.size ≤ 1048576) : Ev (fun k => spec_BigRead.j1 k m t) (readR m t) := by
  have fault : Ev (fun k => spec_BigRead.j2 k m t true) (1, false, []) := Ev.step (f := fun _ => some (1, false, [])) (fun k => by rw [spec_BigRead.j2, if_pos rfl]) (Ev.now _)
  unfold readR
  by_cases h0 : t.size = 0
  · rw [if_pos (.inl h0)]
    exact Ev.step (fun k => by rw [spec_BigRead.j1, if_pos ((toList_nil t).2 h0)]) fault
  · have hn : ¬ t.toList = ([] : List UInt8) := fun h => h0 ((toList_nil t).1 h)
    by_cases h1 : bt t 0 = 48
    · by_cases h2 : 1 < t.size
      · rw [if_pos (.inr (.inl ⟨h1, .inl h2⟩))]
        exact Ev.step (fun k => by rw [spec_BigRead.j1, if_neg hn, if_pos (by omega), if_pos h1, if_pos (by omega)]) fault
      · cases m with
        | true =>
          rw [if_pos (.inr (.inl ⟨h1, .inr rfl⟩))]
          exact Ev.step (fun k => by rw [spec_BigRead.j1, if_neg hn, if_pos (by omega), if_pos h1, if_neg (by omega)]) fault
        | false =>
          have hd : Digs t := fun i hi => by
            obtain rfl : i = 0 := by omega
            have e : bt t ((0 : Nat) : Int) = bt t 0 := rfl
            omega
          rw [if_neg (by
            rintro (h | ⟨_, h | h⟩ | h)
            · exact h0 h
            · exact h2 h
            · cases h
            · exact h hd)]
          refine Ev.step (fun k => by rw [spec_BigRead.j1, if_neg hn, if_pos (by omega), if_pos h1, if_neg (by omega)]) ?_
          refine Ev.step (fun k => by rw [spec_BigRead.j2, if_neg (by decide)]) ?_
          exact spec_read_ok false t hsz hd (spec_read_start false t hsz hd) t.size 0 (by omega)
    · refine Ev.step (fun k => by rw [spec_BigRead.j1, if_neg hn, if_pos (by omega), if_neg h1]) ?_
      refine Ev.step (fun k => by rw [spec_BigRead.j2, if_neg (by decide)]) ?_
      by_cases hd : Digs t
      · rw [if_neg (by
            rintro (h | ⟨h, _⟩ | h)
            · exact h0 h
            · exact h1 h
            · exact h hd)]
        exact spec_read_ok m t hsz hd (spec_read_start m t hsz hd) t.size 0 (by omega)
      · rw [if_pos (.inr (.inr hd))]
        exact spec_read_bad m t hsz t.size 0 (by omega) (not_digs hd)
def hm (a : ByteArray) : Bool := decide (0 < a.size) && (bt a 0 == 45)
def tl (a : ByteArray) : ByteArray := if hm a = true then a.extract 1 a.size else a
theorem tl_size (a : ByteArray) : (tl a).size ≤ a.size := by
  unfold tl
  split
  · rw [ByteArray.size_extract]; omega
  · exact Nat.le_refl _
theorem spec_BigRead_is (a : ByteArray) (hsz : a.size ≤ 1048576) : Ev (fun k => spec_BigRead.f k a) (readR (hm a) (tl a)) := by
  have hj := spec_read_j1 (hm a) (tl a) (Nat.le_trans (tl_size a) hsz)
  have h0 : Ev (fun k => spec_BigRead.j0 k a (hm a)) (readR (hm a) (tl a)) := by
    by_cases h : hm a = true
    · have hp : 0 < a.size := by
        unfold hm at h
        simp at h
        exact h.1
      have e : tl a = a.extract 1 a.size := by unfold tl; rw [if_pos h]
      rw [e] at hj ⊢
      exact Ev.step (fun k => by rw [spec_BigRead.j0, if_pos h, if_pos (by omega)]) hj
    · have e : tl a = a := by unfold tl; rw [if_neg h]
      rw [e] at hj ⊢
      exact Ev.step (fun k => by rw [spec_BigRead.j0, if_neg h]) hj
  refine Ev.congr (fun k => ?_) h0
  unfold spec_BigRead.f
  by_cases hs : a.size = 0
  · rw [if_pos ((toList_nil a).2 hs)]
    have e : hm a = false := by unfold hm; simp [hs]
    rw [e]
  · rw [if_neg (fun h => hs ((toList_nil a).1 h)), if_pos (by omega)]
    have e : hm a = (bt a 0 == 45) := by unfold hm; simp [show 0 < a.size by omega]
    rw [e]
/-! ### The program -/
def TopV (l : List Int) : Prop := 0 < l.length → PW (l.length - 1) ≤ val l
theorem impl_read_in (m : Bool) (t : ByteArray) {i : Nat} {L : List Int} {d : Int} {R : Int × Bool × List Int} (hi : i < t.size) (hsz : t.size ≤ 400) (hu : Us L) (hL : L.length ≤ 1048576) (hT : TopV L) (hd0 : 0 ≤ d) (hd1 : d ≤ 9)
    (hnext : ∀ L' : List Int, Us L' → val L' = val L * 10 + d → L'.length ≤ L.length + 1 → TopV L' → Ev (fun n => impl_BigRead.l0 n m t L' ((i + 1 : Nat) : Int)) R) :
    ∀ e k : Nat, k + e = L.length → ∀ (o : List Int) (c : Int), o.length = L.length → Us o → (∀ j, k ≤ j → lmb o j = lmb L j) → 0 ≤ c → c ≤ 10 → vt o k + c * PW k = vt L k * 10 + d → Ev (fun n => impl_BigRead.l1 n m t o (i : Int) c (L.length : Int) (k : Int)) R
  | 0, k, hk, o, c, ho, huo, hj, hc0, hc1, hv => by
    obtain rfl : k = L.length := by omega
    have hvo : vt o L.length = val o := vt_val (by omega)
    have hvL : vt L L.length = val L := rfl
    rw [hvo, hvL] at hv
    have hpos := val_nonneg hu
    by_cases hc : c = 0
    · subst hc
      rw [Int.zero_mul, Int.add_zero] at hv
      have h := hnext o huo hv (by omega) (fun h => by
        rw [ho] at h ⊢
        have := hT h
        omega)
      exact Ev.step (fun n => by rw [impl_BigRead.l1, if_neg (by omega), if_neg (by omega), w64_in (by omega) (by omega)]; rfl) h
    · have e : c % 4294967296 = c := by omega
      have hval : val (o ++ [c]) = val L * 10 + d := by rw [val_snoc, ho]; exact hv
      have h := hnext (o ++ [c]) (huo.append (Us.cons (by omega) (by omega) Us.nil)) hval (by rw [List.length_append, List.length_singleton]; omega) (fun _ => by
        rw [List.length_append, List.length_singleton, Nat.add_sub_cancel, val_snoc]
        have h1 := val_nonneg huo
        have h2 : 1 * PW o.length ≤ c * PW o.length := Int.mul_le_mul_of_nonneg_right (by omega) (by have := PW_pos o.length; omega)
        omega)
      exact Ev.step (fun n => by rw [impl_BigRead.l1, if_neg (by omega), if_pos (by omega), if_pos (by omega), w64_in (by omega) (by omega), e]; rfl) h
  | e + 1, k, hk, o, c, ho, huo, hj, hc0, hc1, hv => by
    have hx := lmb_range hu k
    have hok : lmb o k = lmb L k := hj k (Nat.le_refl _)
    have ih := impl_read_in m t hi hsz hu hL hT hd0 hd1 hnext e (k + 1) (by omega) (o.set k ((lmb L k * 10 + c) % 4294967296)) ((lmb L k * 10 + c) / 4294967296) (by rw [List.length_set]; exact ho) (huo.set k (by omega) (by omega)) (fun j hjk => by rw [lmb_set_other (by omega)]; exact hj j (by omega)) (by omega) (by omega) (ten_step (by omega) hok hv)
    refine Ev.step (fun n => ?_) ih
    rw [impl_BigRead.l1, if_pos (by omega), if_pos (by omega), if_pos (by omega), rd_nat, hok, u64_in (x := lmb L k) hx.1 (by omega), u64_in (x := lmb L k * 10) (by omega) (by omega), u64_in (x := lmb L k * 10 + c) (by omega) (by omega), Int.toNat_natCast, w64_in (by omega) (by omega)]
    rfl
theorem impl_read_out (m : Bool) (t : ByteArray) (hsz : t.size ≤ 400) (hd : Digs t) : ∀ d i : Nat, i + d = t.size → ∀ L : List Int, Us L → val L = num t i → L.length ≤ i → TopV L → Ev (fun n => impl_BigRead.l0 n m t L (i : Int)) (bgRes (if m = true then -num t t.size else num t t.size))
  | 0, i, hi, L, hu, hv, hl, hT => by
    obtain rfl : i = t.size := by omega
    have h0 := num_nonneg hd t.size (Nat.le_refl _)
    have hlen := lim_len_of hu hT
    rw [hv] at hlen
    by_cases ho : 40 < L.length
    · rw [res_over m h0 (by omega)]
      exact Ev.step (f := fun _ => some (2, false, [])) (fun n => by rw [impl_BigRead.l0, if_neg (by omega), if_pos (by omega)]) (Ev.now _)
    · rw [res_at m h0 (by omega)]
      have hmk := impl_makeBig_is m hu (by omega)
      rw [hv] at hmk
      refine Ev.step (fun n => by rw [impl_BigRead.l0, if_neg (by omega), if_neg (by omega)]) ?_
      exact Ev.bind hmk (Ev.now _)
  | d + 1, i, hi, L, hu, hv, hl, hT => by
    have hb := hd i (by omega)
    have e256 : (bt t (i : Int) - 48) % 256 = bt t (i : Int) - 48 := by omega
    have h := impl_read_in (R := bgRes (if m = true then -num t t.size else num t t.size)) (d := bt t (i : Int) - 48) m t (i := i) (by omega) hsz hu (by omega) hT (by omega) (by omega)
      (fun L' hu' hv' hl' hT' => impl_read_out m t hsz hd d (i + 1) (by omega) L' hu' (by rw [hv', hv]; rfl) (by omega) hT') L.length 0 (by omega) L (bt t (i : Int) - 48) rfl hu (fun _ _ => rfl) (by omega) (by omega) (by simp [vt, PW_zero])
    refine Ev.step (fun n => ?_) h
    rw [impl_BigRead.l0, if_pos (by omega), if_pos (by omega), e256]
    rfl
theorem plain_l0_yes (t : ByteArray) (hsz : t.size ≤ 1048576) (hd : Digs t) : ∀ d i : Nat, i + d = t.size → Ev (fun k => impl_plainDigits.l0 k t (i : Int)) true
  | 0, i, hi => Ev.step (f := fun _ => some true) (fun k => by rw [impl_plainDigits.l0, if_neg (by omega)]) (Ev.now _)
  | d + 1, i, hi => by
    have hb := hd i (by omega)
    have ih := plain_l0_yes t hsz hd d (i + 1) (by omega)
    exact Ev.step (fun k => by rw [impl_plainDigits.l0, if_pos (by omega), if_pos (by omega), if_neg (by omega), if_neg (by omega), w64_in (by omega) (by omega)]; rfl) ih
theorem plain_l0_no (t : ByteArray) (hsz : t.size ≤ 1048576) : ∀ d i : Nat, i + d = t.size → (∃ j : Nat, i ≤ j ∧ j < t.size ∧ ¬ (48 ≤ bt t j ∧ bt t j ≤ 57)) → Ev (fun k => impl_plainDigits.l0 k t (i : Int)) false
  | 0, i, hi, ⟨j, h1, h2, _⟩ => by omega
  | d + 1, i, hi, ⟨j, h1, h2, h3⟩ => by
    by_cases hb : 48 ≤ bt t (i : Int) ∧ bt t (i : Int) ≤ 57
    · have hij : i ≠ j := fun e => h3 (e ▸ hb)
      have ih := plain_l0_no t hsz d (i + 1) (by omega) ⟨j, by omega, h2, h3⟩
      exact Ev.step (fun k => by rw [impl_plainDigits.l0, if_pos (by omega), if_pos (by omega), if_neg (by omega), if_neg (by omega), w64_in (by omega) (by omega)]; rfl) ih
    · by_cases hb1 : bt t (i : Int) < 48
      · exact Ev.step (f := fun _ => some false) (fun k => by rw [impl_plainDigits.l0, if_pos (by omega), if_pos (by omega), if_pos hb1]) (Ev.now _)
      · exact Ev.step (f := fun _ => some false) (fun k => by rw [impl_plainDigits.l0, if_pos (by omega), if_pos (by omega), if_neg hb1, if_pos (by omega)]) (Ev.now _)
theorem plain_yes (t : ByteArray) (hsz : t.size ≤ 1048576) (h0 : ¬ t.size = 0) (h1 : ¬ (bt t 0 = 48 ∧ 1 < t.size)) (hd : Digs t) : Ev (fun k => impl_plainDigits.f k t) true := by
  have h := plain_l0_yes t hsz hd t.size 0 (by omega)
  have hj : Ev (fun k => impl_plainDigits.j0 k t false) true := Ev.step (fun k => by rw [impl_plainDigits.j0, if_neg (by decide)]; rfl) h
  refine Ev.congr (fun k => ?_) hj
  unfold impl_plainDigits.f
  rw [if_neg (fun h => h0 ((toList_nil t).1 h)), if_pos (by omega)]
  by_cases hb : bt t 0 = 48
  · rw [if_pos hb, decide_eq_false (by omega)]
  · rw [if_neg hb]
theorem plain_no (t : ByteArray) (hsz : t.size ≤ 1048576) (h : t.size = 0 ∨ (bt t 0 = 48 ∧ 1 < t.size) ∨ ¬ Digs t) : Ev (fun k => impl_plainDigits.f k t) false := by
  have hj : Ev (fun k => impl_plainDigits.j0 k t true) false := Ev.step (f := fun _ => some false) (fun k => by rw [impl_plainDigits.j0, if_pos rfl]) (Ev.now _)
  by_cases h0 : t.size = 0
  · refine Ev.congr (fun k => ?_) hj
    unfold impl_plainDigits.f
    rw [if_pos ((toList_nil t).2 h0)]
  · have hn : ¬ t.toList = ([] : List UInt8) := fun h => h0 ((toList_nil t).1 h)
    by_cases h1 : bt t 0 = 48 ∧ 1 < t.size
    · refine Ev.congr (fun k => ?_) hj
      unfold impl_plainDigits.f
      rw [if_neg hn, if_pos (by omega), if_pos h1.1, decide_eq_true (by omega)]
    · have hd : ¬ Digs t := by
        rcases h with h | h | h
        · exact (h0 h).elim
        · exact (h1 h).elim
        · exact h
      have hl := plain_l0_no t hsz t.size 0 (by omega) (not_digs hd)
      have hj2 : Ev (fun k => impl_plainDigits.j0 k t false) false := Ev.step (fun k => by rw [impl_plainDigits.j0, if_neg (by decide)]; rfl) hl
      refine Ev.congr (fun k => ?_) hj2
      unfold impl_plainDigits.f
      rw [if_neg hn, if_pos (by omega)]
      by_cases hb : bt t 0 = 48
      · rw [if_pos hb, decide_eq_false (by omega)]
      · rw [if_neg hb]
theorem ext1 (a : ByteArray) (h : 0 < a.size) : ((a.extract 0 1).toList == (⟨#[45]⟩ : ByteArray).toList) = (bt a 0 == 45) := by
  rcases a with ⟨⟨l⟩⟩
  cases l with
  | nil => exact absurd h (by decide)
  | cons x xs =>
    have e1 : ((⟨⟨x :: xs⟩⟩ : ByteArray).extract 0 1).toList = [x] := by
      rw [ByteArray.toList_eq, ByteArray.data_extract]
      simp
    have e2 : (⟨#[45]⟩ : ByteArray).toList = [45] := by rw [ByteArray.toList_eq]
    have e3 : bt ⟨⟨x :: xs⟩⟩ 0 = (x.toNat : Int) := by
      unfold bt
      rw [dif_pos (by exact h)]
      rfl
    rw [e1, e2, e3]
    by_cases hx : x = 45
    · subst hx; rfl
    · have h1 : ¬ x.toNat = 45 := fun hn => hx (UInt8.toNat_inj.1 (by rw [hn]; rfl))
      have h2 : ([x] == [(45 : UInt8)]) = false := by simpa using hx
      have h3 : ((x.toNat : Int) == 45) = false := by
        rw [beq_eq_false_iff_ne]
        omega
      rw [h2, h3]
theorem pre45 (a : ByteArray) : stringslite_HasPrefix.f a (⟨#[45]⟩ : ByteArray) = some (hm a) := by
  have e : (⟨#[45]⟩ : ByteArray).size = 1 := rfl
  unfold stringslite_HasPrefix.f hm
  rw [e]
  by_cases h : 0 < a.size
  · rw [if_pos (by omega), if_pos (by omega), if_pos (by omega), decide_eq_true h, Bool.true_and, ← ext1 a h]
    rfl
  · rw [if_neg (by omega), decide_eq_false h, Bool.false_and]
theorem trim45 (a : ByteArray) : stringslite_TrimPrefix.f a (⟨#[45]⟩ : ByteArray) = some (tl a) := by
  have e : (⟨#[45]⟩ : ByteArray).size = 1 := rfl
  unfold stringslite_TrimPrefix.f tl
  rw [pre45, Option.bind_some, e]
  by_cases h : hm a = true
  · have hp : 0 < a.size := by
      unfold hm at h
      simp at h
      exact h.1
    rw [if_pos h, if_pos h, if_pos (by omega), if_pos (by omega)]
    rfl
  · rw [if_neg h, if_neg h]
theorem zero48 (t : ByteArray) (h0 : ¬ t.size = 0) : (t.toList == ([48] : List UInt8)) = (decide (t.size = 1) && (bt t 0 == 48)) := by
  rcases t with ⟨⟨l⟩⟩
  rw [ByteArray.toList_eq]
  match l, h0 with
  | [], h0 => exact absurd rfl h0
  | [x], _ =>
    have e3 : bt ⟨⟨[x]⟩⟩ 0 = (x.toNat : Int) := rfl
    rw [e3]
    by_cases hx : x = 48
    · subst hx; rfl
    · have h1 : ¬ x.toNat = 48 := fun hn => hx (UInt8.toNat_inj.1 (by rw [hn]; rfl))
      have h2 : ([x] == [(48 : UInt8)]) = false := by simpa using hx
      have h3 : ((x.toNat : Int) == 48) = false := by
        rw [beq_eq_false_iff_ne]
        omega
      show ([x] == [(48 : UInt8)]) = _
      rw [h2, h3, Bool.and_false]
  | x :: y :: xs, _ =>
    have h2 : ((x :: y :: xs) == [(48 : UInt8)]) = false := by simp
    show ((x :: y :: xs) == [(48 : UInt8)]) = _
    rw [h2]
    have h3 : ¬ (⟨⟨x :: y :: xs⟩⟩ : ByteArray).size = 1 := fun h => by
      have : (x :: y :: xs).length = 1 := h
      simp at this
    rw [decide_eq_false h3, Bool.false_and]
theorem impl_read_j0 (m : Bool) (t : ByteArray) (h0 : ¬ t.size = 0) (h1 : ¬ (bt t 0 = 48 ∧ 1 < t.size)) (hd : Digs t) : Ev (fun k => impl_BigRead.j0 k m t false) (bgRes (if m = true then -num t t.size else num t t.size)) := by
  by_cases hs : 400 < t.size
  · rw [res_over m (num_nonneg hd _ (Nat.le_refl _)) (num_long hd (fun h => h1 ⟨h, by omega⟩) hs)]
    exact Ev.step (f := fun _ => some (2, false, [])) (fun k => by rw [impl_BigRead.j0, if_neg (by decide), if_pos (by omega)]) (Ev.now _)
  · have h := impl_read_out m t (by omega) hd t.size 0 (by omega) [] Us.nil rfl (Nat.le_refl _) (fun h => absurd h (by decide))
    exact Ev.step (fun k => by rw [impl_BigRead.j0, if_neg (by decide), if_neg (by omega)]; rfl) h
theorem impl_BigRead_is (a : ByteArray) (hsz : a.size ≤ 1048576) : Ev (fun k => impl_BigRead.f k a) (readR (hm a) (tl a)) := by
  have hts := Nat.le_trans (tl_size a) hsz
  have fault : ∀ m t, Ev (fun k => impl_BigRead.j0 k m t true) (1, false, []) := fun m t => Ev.step (f := fun _ => some (1, false, [])) (fun k => by rw [impl_BigRead.j0, if_pos rfl]) (Ev.now _)
  have key : ∀ k, impl_BigRead.f k a = (impl_plainDigits.f k (tl a)).bind fun t208 => (if t208 = true then (if hm a = true then (impl_BigRead.j0 k (hm a) (tl a) ((tl a).toList == ([48] : List UInt8))) else (impl_BigRead.j0 k (hm a) (tl a) false)) else (impl_BigRead.j0 k (hm a) (tl a) true)) := fun k => by
    unfold impl_BigRead.f strings_HasPrefix.f strings_TrimPrefix.f
    rw [pre45, trim45]
    rfl
  refine Ev.congr key ?_
  clear key
  generalize hm a = m
  generalize tl a = t at *
  unfold readR
  by_cases hp : t.size = 0 ∨ (bt t 0 = 48 ∧ 1 < t.size) ∨ ¬ Digs t
  · rw [if_pos (by
      rcases hp with h | h | h
      · exact .inl h
      · exact .inr (.inl ⟨h.1, .inl h.2⟩)
      · exact .inr (.inr h))]
    refine Ev.bind (plain_no t hts hp) ?_
    simp only [Bool.false_eq_true, if_false]
    exact fault m t
  · have h0 : ¬ t.size = 0 := fun h => hp (.inl h)
    have h1 : ¬ (bt t 0 = 48 ∧ 1 < t.size) := fun h => hp (.inr (.inl h))
    have hd : Digs t := Classical.byContradiction fun h => hp (.inr (.inr h))
    refine Ev.bind (plain_yes t hts h0 h1 hd) ?_
    simp only [if_true]
    have hj := impl_read_j0 m t h0 h1 hd
    cases m with
    | false =>
      rw [if_neg (by
        rintro (h | ⟨h, h2 | h2⟩ | h)
        · exact h0 h
        · exact h1 ⟨h, h2⟩
        · cases h2
        · exact h hd)]
      simp only [Bool.false_eq_true, if_false]
      exact hj
    | true =>
      simp only [if_true]
      rw [zero48 t h0]
      by_cases hb : bt t 0 = 48
      · have hs1 : t.size = 1 := by
          by_cases h : 1 < t.size
          · exact absurd ⟨hb, h⟩ h1
          · omega
        rw [if_pos (.inr (.inl ⟨hb, .inr rfl⟩)), decide_eq_true hs1, hb]
        exact fault true t
      · have e : (bt t 0 == 48) = false := by rw [beq_eq_false_iff_ne]; exact hb
        rw [if_neg (by
          rintro (h | ⟨h, _⟩ | h)
          · exact h0 h
          · exact hb h
          · exact h hd), e, Bool.and_false]
        exact hj

end Go.Proofs.Ytajmeeppigdjnaa.PFnExactBigRead
