/- The law 'FnExactBigMul' with what both functions answer; no condition. -/
import Derived.Test.YtajmeeppigdjnaaTBM
import Derived.Test.YtajmeeppigdjnaaOMul
import Derived.Test.YtajmeeppigdjnaaLawBigMul
namespace Go.Proofs.Ytajmeeppigdjnaa
open Go.RowKit Go.Proofs.YtajmeeppigdjnaaW.PrintWords Go.Proofs.Ytajmeeppigdjnaa.PFnExactBigMul
set_option linter.unusedVariables false
theorem walkBigMul (m m' : Bool) (l l' : List Int) (hl : l.length ≤ 140737488351232) (hl' : l'.length ≤ 140737488351232) (hu : Us l) (hu' : Us l') (w : World) (c c' : List Value) (h : Rd w (bigD m l) c) (h' : Rd w (bigD m' l') c') :
    Calls Try.prog 7 #[.agg c.toArray, .agg c'.toArray] w fun e w' => e = .returned (.bool true) ∧ Below w.heap.size w w' :=
  lawFnExactBigMul (bigD m l) (bigD m' l') (resD (bgMul m l m' l')) rfl (szBg m l hl) (toBg m l) (eqBg m l hl) (mkBg m l) rfl (szBg m' l' hl') (toBg m' l') (eqBg m' l' hl') (mkBg m' l') rfl (eqRes _ (bgMul_len _ _ _ _)) (fun _ => mkRes _ (bgMul_len _ _ _ _))
    (fun _ w c c' h h' => by
      obtain ⟨A, n, rfl, hc, hr⟩ := bigArg hl h
      obtain ⟨A', n', rfl, hc', hr'⟩ := bigArg hl' h'
      obtain ⟨k, hk⟩ := (spec_BigMul_is m m' l l' hu hu' hl hl').rounds
      refine (spec_BigMul.calls k m A n l m' A' n' l' _ _ _ w hr hc hr' hc' hk).mono ?_
      rintro e w' ⟨v, rfl, hv, hb⟩
      exact ⟨_, rfl, fr_res (fr_of_kdR hv), hb⟩)
    (fun _ w c c' h h' => by
      obtain ⟨A, n, rfl, hc, hr⟩ := bigArg hl h
      obtain ⟨A', n', rfl, hc', hr'⟩ := bigArg hl' h'
      refine (implBigMul m m' l l' hu hu' hl hl' A A' n n' hc hc' w hr hr').mono ?_
      rintro e w' ⟨v, rfl, hv, hb⟩
      exact ⟨_, rfl, fr_res (fr_of_kdR hv), hb⟩) w c c' h h'

end Go.Proofs.Ytajmeeppigdjnaa
