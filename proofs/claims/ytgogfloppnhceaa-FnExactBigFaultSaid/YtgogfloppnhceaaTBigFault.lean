/- The law 'FnExactBigFault' with what both functions answer; no condition. -/
import Derived.Test.YtgogfloppnhceaaTBig
import Derived.Test.YtgogfloppnhceaaLawBigFault
namespace Go.Proofs.Ytgogfloppnhceaa
open Go.RowKit
theorem walkBigFault (m : Bool) (l : List Int) (hn : l.length ≤ 140737488351232) (w : World) (c : List Value) (h : Rd w (bigD m l) c) :
    Calls Try.prog 6 #[.agg c.toArray] w fun e w' => e = .returned (.bool true) ∧ Below w.heap.size w w' :=
  lawFnExactBigFault (bigD m l) (bigFault m l) rfl (szBg m l hn) (toBg m l) (eqBg m l hn) (fun _ w c h => specBigFault m l hn w c h) (fun _ w c h => implBigFault m l hn w c h) w c h

end Go.Proofs.Ytgogfloppnhceaa
