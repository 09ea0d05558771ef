/- What the program's 'shortDiv' comes to, told as a number; no condition. -/
import Derived.Test.YtajmeeppigdjnaaPuBigText
namespace Go.Proofs.Ytajmeeppigdjnaa.PFnExactBigText
open Go.RowKit Go.Proofs.Ytajmeeppigdjnaa Go.Proofs.Ytajmeeppigdjnaa.Own Go.Proofs.YtajmeeppigdjnaaW.PrintWords Go.Proofs.YtajmeeppigdjnaaW.PrintLast Go.Proofs.YtajmeeppigdjnaaW.PrintMore
set_option linter.unusedVariables false
set_option linter.unusedSimpArgs false

/-- One limb of a division in place. -/
theorem div_place {a o : List Int} {i : Nat} {r d : Int} (hi : i < o.length) (hz : lmb o i = lmb a i) (hv : val a - vt a (i + 1) = (val o - vt o (i + 1)) * d + r * PW (i + 1)) :
    val a - vt a i = (val (o.set i ((r * 4294967296 + lmb a i) / d)) - vt (o.set i ((r * 4294967296 + lmb a i) / d)) i) * d + (r * 4294967296 + lmb a i) % d * PW i := by
  rw [val_set hi, vt_set hi, if_neg (by omega), hz]
  simp only [vt] at hv
  rw [PW_succ, hz] at hv
  generalize lmb a i = x at *
  generalize PW i = P at *
  have e : r * 4294967296 + x = d * ((r * 4294967296 + x) / d) + (r * 4294967296 + x) % d := (Int.mul_ediv_add_emod _ _).symm
  generalize (r * 4294967296 + x) / d = q at *
  generalize (r * 4294967296 + x) % d = s at *
  have e2 : (r * 4294967296 + x) * P = (d * q + s) * P := by rw [← e]
  rw [Int.add_mul, Int.add_mul, Int.mul_assoc r] at e2
  have e3 : (val o + (q - x) * P - vt o i) * d = (val o - (vt o i + x * P)) * d + d * q * P := by
    rw [Int.sub_mul q x P, show val o + (q * P - x * P) - vt o i = (val o - (vt o i + x * P)) + q * P by omega, Int.add_mul]
    congr 1
    rw [Int.mul_comm (q * P) d, Int.mul_assoc]
  rw [e3]
  omega

theorem impl_shortDiv_l {a : List Int} {d : Int} (hu : Us a) (hla : a.length ≤ 1048576) (hd0 : 0 < d) (hd1 : d < 4294967296) : ∀ (i : Nat), i ≤ a.length → ∀ (o : List Int) (r : Int), o.length = a.length → Us o → (∀ j, j < i → lmb o j = lmb a j) → 0 ≤ r → r < d → val a - vt a i = (val o - vt o i) * d + r * PW i →
    ∃ o' : List Int, o'.length = a.length ∧ Us o' ∧ val o' = val a / d ∧ Ev (fun k => impl_shortDiv.l0 k o d r ((i : Int) - 1)) (val a % d, o')
  | 0, hi, o, r, ho, huo, hz, hr0, hr1, hv => by
    simp only [vt, PW_zero, Int.sub_zero, Int.mul_one] at hv
    have h1 : val a / d = val o := by
      rw [hv, Int.add_comm, Int.add_mul_ediv_right _ _ (by omega), Int.ediv_eq_zero_of_lt hr0 hr1, Int.zero_add]
    have h2 : val a % d = r := by
      rw [hv, Int.add_comm, Int.add_mul_emod_self_right, Int.emod_eq_of_lt hr0 hr1]
    refine ⟨o, ho, huo, h1.symm, ?_⟩
    rw [h2]
    refine Ev.step (f := fun _ => some (r, o)) (fun k => ?_) (Ev.now _)
    rw [impl_shortDiv.l0, if_neg (by omega), Int.emod_eq_of_lt hr0 (by omega)]
  | i + 1, hi, o, r, ho, huo, hz, hr0, hr1, hv => by
    have hx := lmb_range hu i
    have hs := div_place (a := a) (o := o) (i := i) (r := r) (d := d) (by omega) (hz i (by omega)) hv
    have hq0 : 0 ≤ (r * 4294967296 + lmb a i) / d := Int.ediv_nonneg (by omega) (by omega)
    have hq1 : (r * 4294967296 + lmb a i) / d < 4294967296 := Int.ediv_lt_of_lt_mul hd0 (by omega)
    have hm0 : 0 ≤ (r * 4294967296 + lmb a i) % d := Int.emod_nonneg _ (by omega)
    have hm1 : (r * 4294967296 + lmb a i) % d < d := Int.emod_lt_of_pos _ hd0
    obtain ⟨o', h1, h2, h3, ih⟩ := impl_shortDiv_l hu hla hd0 hd1 i (by omega) (o.set i ((r * 4294967296 + lmb a i) / d)) ((r * 4294967296 + lmb a i) % d) (by rw [List.length_set]; exact ho) (huo.set i hq0 hq1) (fun j hj => by rw [lmb_set_other (by omega)]; exact hz j (by omega)) hm0 hm1 hs
    refine ⟨o', h1, h2, h3, Ev.step (fun k => ?_) ih⟩
    have e1 : ((i + 1 : Nat) : Int) - 1 = (i : Int) := by omega
    have ed : IntKind.u64.wrap d = d := u64_in (by omega) (by omega)
    rw [e1, impl_shortDiv.l0, if_pos (by omega), if_pos (by omega), if_pos (by omega), ed, if_neg (by omega), rd_nat, hz i (by omega), u64_in (x := r * 4294967296) (by omega) (by omega), u64_in (x := lmb a i) hx.1 (by omega), or_high hx.1 hx.2 hr0 (by omega), Int.tdiv_eq_ediv_of_nonneg (by omega), Int.tmod_eq_emod_of_nonneg (by omega), u64_in hq0 (by omega), Int.toNat_natCast, w64_in (by omega) (by omega), Int.emod_eq_of_lt hq0 hq1]

end Go.Proofs.Ytajmeeppigdjnaa.PFnExactBigText
