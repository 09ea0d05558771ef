/- The law 'FnExactBigRead' with what both functions answer; no condition. -/
import Derived.Test.YtajmeeppigdjnaaTBM
import Derived.Test.YtajmeeppigdjnaaPuBigRead
import Derived.Test.YtajmeeppigdjnaaLawBigRead
namespace Go.Proofs.Ytajmeeppigdjnaa
open Go.RowKit Go.Proofs.YtajmeeppigdjnaaW.PrintWords Go.Proofs.Ytajmeeppigdjnaa.PFnExactBigRead
set_option linter.unusedVariables false
theorem walkBigRead (s : ByteArray) (hs : s.size ≤ 140737488351232) (w : World) :
    Calls Try.prog 8 #[.string s] w fun e w' => e = .returned (.bool true) ∧ Below w.heap.size w w' :=
  lawFnExactBigRead s (resD (readR (hm s) (tl s))) rfl (eqRes _ (readR_len _ _)) (fun _ => mkRes _ (readR_len _ _))
    (fun hz w => by
      obtain ⟨k, hk⟩ := (spec_BigRead_is s hz).rounds
      refine (spec_BigRead.calls k s _ _ _ w hk).mono ?_
      rintro e w' ⟨v, rfl, hv, hb⟩
      exact ⟨_, rfl, fr_res (fr_of_kdR hv), hb⟩)
    (fun hz w => by
      obtain ⟨k, hk⟩ := (impl_BigRead_is s hz).rounds
      refine (impl_BigRead.calls k s _ _ _ w hk).mono ?_
      rintro e w' ⟨v, rfl, hv, hb⟩
      exact ⟨_, rfl, fr_res (fr_of_kdR hv), hb⟩) w hs

end Go.Proofs.Ytajmeeppigdjnaa
