/- The law 'FnExactBigSmall' with what both functions answer; no condition. -/
import Derived.Test.YtajmeeppigdjnaaTB
import Derived.Test.YtajmeeppigdjnaaPuBigSmall
import Derived.Test.YtajmeeppigdjnaaLawBigSmall
namespace Go.Proofs.Ytajmeeppigdjnaa
open Go.RowKit Go.Proofs.YtajmeeppigdjnaaW.PrintWords Go.Proofs.Ytajmeeppigdjnaa.PFnExactBigSmall
set_option linter.unusedVariables false
def smallD (r : Bool × Int) : D := .struct [.bool r.1, .int .i64 r.2]
theorem fr_small (B : Nat) (w : World) (r : Bool × Int) : Fr B w (smallD r) [.bool r.1, .int .i64 r.2] := by
  unfold smallD
  rw [fr_struct]
  exact frF_bool (frF_int (frF_nil _ _))
theorem walkBigSmall (m : Bool) (l : List Int) (hl : l.length ≤ 140737488351232) (hu : Us l) (w : World) (c : List Value) (h : Rd w (bigD m l) c) :
    Calls Try.prog 4 #[.agg c.toArray] w fun e w' => e = .returned (.bool true) ∧ Below w.heap.size w w' :=
  lawFnExactBigSmall (bigD m l) (smallD (bgSmall m l)) rfl (szBg m l hl) (toBg m l) (eqBg m l hl) rfl (eqSmallResult_of _ _)
    (fun _ w c h => by
      obtain ⟨A, n, rfl, hc, hr⟩ := bigArg hl h
      obtain ⟨k, hk⟩ := (spec_BigSmall_is m l hu hl).rounds
      refine (spec_BigSmall.calls k m A n l _ _ w hr hc hk).mono ?_
      rintro e w' ⟨rfl, hb⟩
      exact ⟨_, rfl, fr_small _ _ _, hb⟩)
    (fun _ w c h => by
      obtain ⟨A, n, rfl, hc, hr⟩ := bigArg hl h
      obtain ⟨k, hk⟩ := (impl_BigSmall_is m l hu hl).rounds
      refine (impl_BigSmall.calls k m A n l _ _ w hr hc hk).mono ?_
      rintro e w' ⟨rfl, hb⟩
      exact ⟨_, rfl, fr_small _ _ _, hb⟩) w c h

end Go.Proofs.Ytajmeeppigdjnaa
