/- Great numbers: faults, values, answers, told as numbers. No program is named here. -/
import Derived.Test.YtajmeeppigdjnaaBigN
import Derived.Test.YtajmeeppigdjnaaWMore
namespace Go.Proofs.Ytajmeeppigdjnaa
open Go.RowKit Go.Proofs.YtajmeeppigdjnaaW.PrintWords

theorem w64_in {x : Int} (h : -9223372036854775808 ≤ x) (h2 : x ≤ 9223372036854775807) : wrap64 x = x := by
  unfold wrap64
  omega
theorem u64_in {x : Int} (h : 0 ≤ x) (h2 : x < 18446744073709551616) : IntKind.u64.wrap x = x := by
  simp [IntKind.wrap, IntKind.signed, IntKind.bits]
  omega
theorem rd_lmb (l : List Int) (i : Int) : rd l i = lmb l i.toNat := rfl
theorem rd_nat (l : List Int) (i : Nat) : rd l (i : Int) = lmb l i := rfl
def bgFault (m : Bool) (l : List Int) : Bool := if l.length = 0 then m else decide (40 < l.length) || (lmb l (l.length - 1) == 0)
theorem bgFault_no {m : Bool} {l : List Int} (h : bgFault m l = false) : l.length ≤ 40 ∧ Top l ∧ (l.length = 0 → m = false) := by
  unfold bgFault at h
  by_cases h0 : l.length = 0
  · rw [if_pos h0] at h
    exact ⟨by omega, fun hp => by omega, fun _ => h⟩
  · rw [if_neg h0] at h
    simp at h
    exact ⟨h.1, fun _ => h.2, fun h => absurd h h0⟩
/-- A whole number. -/
def big (m : Bool) (l : List Int) : Int := if m then -val l else val l
/-- The whole number's sign and limbs. -/
def sgn (z : Int) : Bool := decide (z < 0)
def lims (z : Int) : List Int := lim (if z < 0 then -z else z)
def bgCmp (m : Bool) (l : List Int) (m' : Bool) (l' : List Int) : Int :=
  if (bgFault m l || bgFault m' l') = true then -2 else if (m != m') = true then (if m = true then -1 else 1) else if m = true then cmpI (val l') (val l) else cmpI (val l) (val l')
theorem cmpI_flip (x y : Int) : cmpI y x = -cmpI x y := by
  unfold cmpI
  by_cases h1 : x < y
  · rw [if_pos h1, if_neg (by omega), if_pos h1]; rfl
  · by_cases h2 : y < x
    · rw [if_pos h2, if_neg h1, if_pos h2]
    · rw [if_neg h2, if_neg h1, if_neg h1, if_neg h2]; rfl
theorem cmpI_range (x y : Int) : -1 ≤ cmpI x y ∧ cmpI x y ≤ 1 := by
  unfold cmpI
  split
  · omega
  · split <;> omega
theorem cmp_len_lt {l l' : List Int} (hu : Us l) (hu' : Us l') (ht' : Top l') (h : l.length < l'.length) : cmpI (val l) (val l') = -1 := by
  have h1 := val_lt hu
  have h2 := top_le hu' ht' (by omega)
  have h3 := PW_mono (show l.length ≤ l'.length - 1 by omega)
  unfold cmpI
  rw [if_pos (by omega)]

end Go.Proofs.Ytajmeeppigdjnaa
