/- The law 'FnExactBigCompare' with what both functions answer; no condition. -/
import Derived.Test.YtajmeeppigdjnaaTB
import Derived.Test.YtajmeeppigdjnaaPuBigCompare
import Derived.Test.YtajmeeppigdjnaaLawBigCompare
namespace Go.Proofs.Ytajmeeppigdjnaa
open Go.RowKit Go.Proofs.YtajmeeppigdjnaaW.PrintWords Go.Proofs.Ytajmeeppigdjnaa.PFnExactBigCompare
set_option linter.unusedVariables false
theorem walkBigCompare (m m' : Bool) (l l' : List Int) (hl : l.length ≤ 140737488351232) (hl' : l'.length ≤ 140737488351232) (hu : Us l) (hu' : Us l') (w : World) (c c' : List Value) (h : Rd w (bigD m l) c) (h' : Rd w (bigD m' l') c') :
    Calls Try.prog 5 #[.agg c.toArray, .agg c'.toArray] w fun e w' => e = .returned (.bool true) ∧ Below w.heap.size w w' :=
  lawFnExactBigCompare (bigD m l) (bigD m' l') (bgCmp m l m' l') rfl (szBg m l hl) (toBg m l) (eqBg m l hl) rfl (szBg m' l' hl') (toBg m' l') (eqBg m' l' hl')
    (fun _ w c c' h h' => by
      obtain ⟨A, n, rfl, hc, hr⟩ := bigArg hl h
      obtain ⟨A', n', rfl, hc', hr'⟩ := bigArg hl' h'
      obtain ⟨k, hk⟩ := (spec_BigCompare_is m m' l l' hu hu' hl hl').rounds
      exact spec_BigCompare.calls k m A n l m' A' n' l' _ w hr hc hr' hc' hk)
    (fun _ w c c' h h' => by
      obtain ⟨A, n, rfl, hc, hr⟩ := bigArg hl h
      obtain ⟨A', n', rfl, hc', hr'⟩ := bigArg hl' h'
      obtain ⟨k, hk⟩ := (impl_BigCompare_is m m' l l' hu hu' hl hl').rounds
      exact impl_BigCompare.calls k m A n l m' A' n' l' _ w hr hc hr' hc' hk) w c c' h h'

end Go.Proofs.Ytajmeeppigdjnaa
