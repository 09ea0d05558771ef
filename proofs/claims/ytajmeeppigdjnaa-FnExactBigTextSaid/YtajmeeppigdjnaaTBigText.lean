/- The law 'FnExactBigText' with what both functions answer; no condition. -/
import Derived.Test.YtajmeeppigdjnaaTB
import Derived.Test.YtajmeeppigdjnaaOText
import Derived.Test.YtajmeeppigdjnaaLawBigText
namespace Go.Proofs.Ytajmeeppigdjnaa
open Go.RowKit Go.Proofs.YtajmeeppigdjnaaW.PrintWords Go.Proofs.Ytajmeeppigdjnaa.PFnExactBigText
set_option linter.unusedVariables false
theorem walkBigText (m : Bool) (l : List Int) (hl : l.length ≤ 140737488351232) (hu : Us l) (w : World) (c : List Value) (h : Rd w (bigD m l) c) :
    Calls Try.prog 6 #[.agg c.toArray] w fun e w' => e = .returned (.bool true) ∧ Below w.heap.size w w' :=
  lawFnExactBigText (bigD m l) (bgText m l) rfl (szBg m l hl) (toBg m l) (eqBg m l hl)
    (fun _ w c h => by
      obtain ⟨A, n, rfl, hc, hr⟩ := bigArg hl h
      obtain ⟨k, hk⟩ := (spec_BigText_is m l hu hl).rounds
      exact spec_BigText.calls k m A n l _ w hr hc hk)
    (fun _ w c h => by
      obtain ⟨A, n, rfl, hc, hr⟩ := bigArg hl h
      exact implBigText m l hu hl A n hc w hr) w c h

end Go.Proofs.Ytajmeeppigdjnaa
