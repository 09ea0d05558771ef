/- The law 'FnExactTypeFault' with what both functions answer; no condition. -/
import Derived.Test.YtgogfloppnhceaaTyFaultI
import Derived.Test.YtgogfloppnhceaaLawTypeFault
namespace Go.Proofs.Ytgogfloppnhceaa
open Go.RowKit
theorem walkTypeFault (x : Ty) (hx : x.ok) (w : World) (c : List Value) (h : Rd w x.enc c) :
    Calls Try.prog 13 #[.agg c.toArray] w fun e w' => e = .returned (.bool true) ∧ Below w.heap.size w w' :=
  lawFnExactTypeFault x.enc (x.fault 1 20000).1 x.n (Ty.sz x hx) (Ty.to x) (Ty.eq x hx)
    (fun _ w c h => specTypeFault x hx w c h) (fun _ w c h => implTypeFault x hx w c h) w c h

end Go.Proofs.Ytgogfloppnhceaa
