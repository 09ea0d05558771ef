/- What the reference's 'BigText' comes to, told as a number; no condition. -/
import Derived.Test.YtajmeeppigdjnaaEText
import Derived.Test.YtajmeeppigdjnaaDecN
namespace Go.Proofs.Ytajmeeppigdjnaa.PFnExactBigText
open Go.RowKit Go.Proofs.Ytajmeeppigdjnaa Go.Proofs.Ytajmeeppigdjnaa.Own Go.Proofs.YtajmeeppigdjnaaW.PrintWords Go.Proofs.YtajmeeppigdjnaaW.PrintLast Go.Proofs.YtajmeeppigdjnaaW.PrintMore
set_option linter.unusedVariables false
set_option linter.unusedSimpArgs false

theorem spec_l1Trim_is {l : List Int} (hl : l.length ≤ 35184372088831) (hu : Us l) : Ev (fun k => spec_l1Trim.f k l) (lim (val l)) :=
  Ev.congr (fun k => by unfold spec_l1Trim.f; rw [if_pos ⟨hl, hu⟩]) (Ev.now _)
theorem or_high {a b : Int} (a0 : 0 ≤ a) (a1 : a < 4294967296) (b0 : 0 ≤ b) (b1 : b < 4294967296) : Go.bits .or .u64 (b * 4294967296) a = b * 4294967296 + a := by
  have h := or_join a0 a1 b0 b1
  have hc : Go.bits .or .u64 a (b * 4294967296) = Go.bits .or .u64 (b * 4294967296) a := by simp only [Go.bits]; rw [BitVec.or_comm]
  rw [← hc, h]
  omega
/-- One limb of a division by d. -/
theorem div_step {a o : List Int} {i : Nat} {r d : Int} (hd : 0 < d) (hi : i < o.length) (hz : lmb o i = 0) (hv : val a - vt a (i + 1) = val o * d + r * PW (i + 1)) :
    val a - vt a i = val (o.set i ((r * 4294967296 + lmb a i) / d)) * d + (r * 4294967296 + lmb a i) % d * PW i := by
  rw [val_set hi, hz, Int.sub_zero]
  simp only [vt] at hv
  rw [PW_succ] at hv
  generalize lmb a i = x at *
  generalize PW i = P at *
  have e : r * 4294967296 + x = d * ((r * 4294967296 + x) / d) + (r * 4294967296 + x) % d := (Int.mul_ediv_add_emod _ _).symm
  generalize (r * 4294967296 + x) / d = q at *
  generalize (r * 4294967296 + x) % d = s at *
  have e2 : (r * 4294967296 + x) * P = (d * q + s) * P := by rw [← e]
  rw [Int.add_mul, Int.add_mul, Int.mul_assoc r] at e2
  have e3 : (val o + q * P) * d = val o * d + d * q * P := by
    rw [Int.add_mul]
    congr 1
    rw [Int.mul_comm (q * P) d, Int.mul_assoc]
  rw [e3]
  omega

/-- The reference's inner loop: the quotient by ten and what is left. -/
theorem spec_dig_in {a : List Int} (hu : Us a) (hla : a.length ≤ 1048576) (out : ByteArray) {R : ByteArray}
    (next : ∀ (o : List Int) (r : Int), o.length = a.length → Us o → 0 ≤ r → r < 10 → val a = val o * 10 + r → Ev (fun k => spec_l1Digits.l1 k a out r o (-1)) R) :
    ∀ (i : Nat), i ≤ a.length → ∀ (o : List Int) (r : Int), o.length = a.length → Us o → (∀ j, j < i → lmb o j = 0) → 0 ≤ r → r < 10 → val a - vt a i = val o * 10 + r * PW i → Ev (fun k => spec_l1Digits.l1 k a out r o ((i : Int) - 1)) R
  | 0, hi, o, r, ho, huo, hz, hr0, hr1, hv => by
    have h := next o r ho huo hr0 hr1 (by simp only [vt, PW_zero] at hv; omega)
    exact h
  | i + 1, hi, o, r, ho, huo, hz, hr0, hr1, hv => by
    have hx := lmb_range hu i
    have hs := div_step (a := a) (o := o) (i := i) (r := r) (d := 10) (by omega) (by omega) (hz i (by omega)) hv
    have ih := spec_dig_in hu hla out next i (by omega) (o.set i ((r * 4294967296 + lmb a i) / 10)) ((r * 4294967296 + lmb a i) % 10) (by rw [List.length_set]; exact ho) (huo.set i (by omega) (by omega)) (fun j hj => by rw [lmb_set_other (by omega)]; exact hz j (by omega)) (by omega) (by omega) hs
    refine Ev.step (fun k => ?_) ih
    have e1 : ((i + 1 : Nat) : Int) - 1 = (i : Int) := by omega
    rw [e1, spec_l1Digits.l1, if_pos (by omega), if_pos (by omega), if_pos (by omega), if_pos (by omega), rd_nat, u64_in (x := r * 4294967296) (by omega) (by omega), u64_in (x := lmb a i) hx.1 (by omega), or_high hx.1 hx.2 hr0 (by omega), Int.tdiv_eq_ediv_of_nonneg (by omega), Int.tmod_eq_emod_of_nonneg (by omega), u64_in (x := (r * 4294967296 + lmb a i) / 10) (by omega) (by omega), Int.toNat_natCast, w64_in (by omega) (by omega), show (r * 4294967296 + lmb a i) / 10 % 4294967296 = (r * 4294967296 + lmb a i) / 10 by omega]

def strD (l : List UInt8) : ByteArray := ⟨l.toArray⟩
theorem strD_append (l l' : List UInt8) : strD (l ++ l') = strD l ++ strD l' := by
  apply ByteArray.ext
  simp [strD]
theorem digit_str {r : Int} (h0 : 0 ≤ r) (h1 : r < 10) : strOfNums [(IntKind.u64.wrap (48 + r)) % 256] = strD [UInt8.ofNat (48 + r.toNat)] := by
  obtain ⟨m, rfl⟩ : ∃ m : Nat, r = (m : Int) := ⟨r.toNat, by omega⟩
  rw [u64_in (by omega) (by omega), Int.toNat_natCast, show (48 + (m : Int)) % 256 = ((48 + m : Nat) : Int) by omega]
  rfl

theorem spec_dig_out : ∀ (n : Nat) (out : ByteArray), (n : Int) < PW 40 → (n ≠ 0 → out.size + (decD n).length ≤ 1048576) → Ev (fun k => spec_l1Digits.l0 k (lim (n : Int)) out) (if n = 0 then out else strD (decD n) ++ out) := by
  intro n
  induction n using Nat.strongRecOn with
  | ind n IH =>
    intro out hn hsz
    by_cases h0 : n = 0
    · subst h0
      rw [if_pos rfl, show ((0 : Nat) : Int) = 0 from rfl, lim_zero]
      exact Ev.step (f := fun _ => some out) (fun k => by rw [spec_l1Digits.l0, if_neg (by decide)]) (Ev.now _)
    · have hsz' := hsz h0
      have hne : (lim (n : Int)).length ≠ 0 := fun h => h0 (by have := (lim_eq_nil (Int.natCast_nonneg n)).1 (List.eq_nil_of_length_eq_zero h); omega)
      have hle := lim_len_le (Int.natCast_nonneg n) hn
      have hval := val_lim (Int.natCast_nonneg n)
      have huL := us_lim (n : Int)
      have hdl : (decD n).length = (if n < 10 then 0 else (decD (n / 10)).length) + 1 := by
        by_cases h : n < 10
        · rw [if_pos h, decD_lt h]; rfl
        · rw [if_neg h, decD_ge h, List.length_append]; rfl
      generalize hL : lim (n : Int) = L at *
      have hin := spec_dig_in (R := strD (decD n) ++ out) huL (by omega) out (fun o r ho huo hr0 hr1 hv => by
        have hq : val o = ((n / 10 : Nat) : Int) := by rw [hval] at hv; omega
        have hr : r.toNat = n % 10 := by rw [hval] at hv; have := val_nonneg huo; omega
        have hsd : (strD [UInt8.ofNat (48 + r.toNat)]).size = 1 := rfl
        have ih := IH (n / 10) (by omega) (strD [UInt8.ofNat (48 + r.toNat)] ++ out) (by omega) (fun hnz => by
          rw [ByteArray.size_append, hsd]
          rw [if_neg (show ¬ n < 10 by omega)] at hdl
          have := hsz h0
          omega)
        refine Ev.step (fun k => by rw [spec_l1Digits.l1, if_neg (by omega), Option.bind_some, digit_str hr0 hr1, if_pos (by rw [hsd]; omega)]) ?_
        have ht := spec_l1Trim_is (l := o) (by omega) huo
        rw [hq] at ht
        refine Ev.bind ht ?_
        have e : (if n / 10 = 0 then strD [UInt8.ofNat (48 + r.toNat)] ++ out else strD (decD (n / 10)) ++ (strD [UInt8.ofNat (48 + r.toNat)] ++ out)) = strD (decD n) ++ out := by
          rw [hr]
          by_cases h : n < 10
          · rw [if_pos (by omega), decD_lt h, show n % 10 = n by omega]
          · rw [if_neg (by omega), decD_ge h, strD_append, ByteArray.append_assoc]
        rw [e] at ih
        exact ih) L.length (Nat.le_refl _) (List.replicate L.length 0) 0 (by simp) (Us.replicate _) (fun j _ => by simp [lmb, List.getD_eq_getElem?_getD, List.getElem?_replicate]; split <;> rfl) (by omega) (by omega) (by rw [val_replicate, vt_val (Nat.le_refl _)]; simp)
      rw [if_neg h0]
      refine Ev.step (fun k => ?_) hin
      rw [spec_l1Digits.l0, if_pos (by omega), if_pos (by omega), if_pos (by omega), w64_in (by omega) (by omega)]
      rfl

theorem spec_BigFault_is (m : Bool) (l : List Int) (hl : l.length ≤ 140737488351232) : spec_BigFault.f m l = some (bgFault m l) := by
  unfold spec_BigFault.f bgFault
  by_cases h0 : l.length = 0
  · rw [if_neg (by omega), if_neg (by omega), if_pos (by omega), if_pos h0]
  · rw [w64_in (by omega) (by omega), rd_lmb, show ((l.length : Int) - 1).toNat = l.length - 1 by omega, if_neg h0]
    by_cases h1 : 40 < l.length
    · rw [if_pos (by omega)]
      simp [h1]
    · rw [if_neg (by omega), if_pos (by omega), if_pos (by omega), if_pos (by omega)]
      by_cases h2 : lmb l (l.length - 1) = 0
      · rw [if_pos h2]; simp [h2]
      · rw [if_neg h2, if_neg (by omega)]
        simp [h2]
        omega

def bgDec (l : List Int) : ByteArray := strD (decD (val l).toNat)
def bgText (m : Bool) (l : List Int) : ByteArray := if bgFault m l = true then ⟨#[]⟩ else if m = true then (⟨#[45]⟩ : ByteArray) ++ bgDec l else bgDec l
theorem spec_digits_is {l : List Int} (hu : Us l) (ht : Top l) (hl : l.length ≤ 40) : Ev (fun k => spec_l1Digits.f k l) (bgDec l) := by
  have h0 := val_nonneg hu
  have hlt : val l < PW 40 := by have h1 := val_lt hu; have h2 := PW_mono hl; omega
  have e : (((val l).toNat : Nat) : Int) = val l := Int.toNat_of_nonneg h0
  by_cases hz : l.length = 0
  · have := List.eq_nil_of_length_eq_zero hz
    subst this
    refine Ev.congr (f := fun _ => some (bgDec [])) (fun k => ?_) (Ev.now _)
    unfold spec_l1Digits.f bgDec
    rw [if_pos (by rfl), val_nil, show (0 : Int).toNat = 0 from rfl, decD_lt (by decide)]
    rfl
  · have h := spec_dig_out (val l).toNat ⟨#[]⟩ (by omega) (fun _ => by have := decD_len40 (n := (val l).toNat) (by omega); show 0 + _ ≤ _; omega)
    rw [e, lim_val hu ht, if_neg (by
      intro hn
      have : lim (val l) = [] := (lim_eq_nil h0).2 (by omega)
      rw [lim_val hu ht] at this
      exact hz (by rw [this]; rfl))] at h
    have ea : strD (decD (val l).toNat) ++ (⟨#[]⟩ : ByteArray) = bgDec l := by
      unfold bgDec
      apply ByteArray.ext
      simp
    rw [ea] at h
    refine Ev.congr (fun k => ?_) h
    unfold spec_l1Digits.f
    rw [if_neg (by omega)]
theorem bgDec_size {l : List Int} (hu : Us l) (hl : l.length ≤ 40) : (bgDec l).size ≤ 400 := by
  have h0 := val_nonneg hu
  have hlt : val l < PW 40 := by have h1 := val_lt hu; have h2 := PW_mono hl; omega
  exact decD_len40 (n := (val l).toNat) (by omega)
theorem spec_BigText_is (m : Bool) (l : List Int) (hu : Us l) (hl : l.length ≤ 140737488351232) : Ev (fun k => spec_BigText.f k m l) (bgText m l) := by
  unfold bgText
  by_cases hf : bgFault m l = true
  · rw [if_pos hf]
    refine Ev.congr (f := fun _ => some ⟨#[]⟩) (fun k => ?_) (Ev.now _)
    unfold spec_BigText.f
    rw [spec_BigFault_is m l hl, Option.bind_some, if_pos hf]
  · rw [if_neg hf]
    obtain ⟨h40, ht, _⟩ := bgFault_no (by simpa using hf)
    have hd := spec_digits_is hu ht h40
    have hs := bgDec_size hu h40
    cases m with
    | true =>
      have key : ∀ k, spec_BigText.f k true l = (spec_l1Digits.f k l).bind fun t149 => (if 1 + t149.size ≤ 9223372036854775807 then (some ((⟨#[45]⟩ : ByteArray) ++ t149)) else (none)) := fun k => by
        unfold spec_BigText.f
        rw [spec_BigFault_is true l hl, Option.bind_some, if_neg hf, if_pos rfl]
      refine Ev.congr key (Ev.bind hd ?_)
      rw [if_pos rfl]
      simp only [if_pos (show 1 + (bgDec l).size ≤ 9223372036854775807 by omega)]
      exact Ev.now _
    | false =>
      have key : ∀ k, spec_BigText.f k false l = (spec_l1Digits.f k l).bind fun t149 => (some t149) := fun k => by
        unfold spec_BigText.f
        rw [spec_BigFault_is false l hl, Option.bind_some, if_neg hf, if_neg (by decide)]
      refine Ev.congr key (Ev.bind hd ?_)
      rw [if_neg (by decide)]
      exact Ev.now _

end Go.Proofs.Ytajmeeppigdjnaa.PFnExactBigText
