/- The law 'FnExactSameType' with what both functions answer; no condition. -/
import Derived.Test.YtgogfloppnhceaaTySame
import Derived.Test.YtgogfloppnhceaaLawSameType
namespace Go.Proofs.Ytgogfloppnhceaa
open Go.RowKit
theorem walkSameType (x y : Ty) (hx : x.ok) (hy : y.ok) (w : World) (c c' : List Value) (h : Rd w x.enc c) (h' : Rd w y.enc c') :
    Calls Try.prog 11 #[.agg c.toArray, .agg c'.toArray] w fun e w' => e = .returned (.bool true) ∧ Below w.heap.size w w' :=
  lawFnExactSameType x.enc y.enc (x.same y) x.n (Ty.sz x hx) (Ty.to x) (Ty.eq x hx) y.n (Ty.sz y hy) (Ty.to y) (Ty.eq y hy)
    (fun _ w c c' h h' => SpecSameT_all x hx y w c c' hy h h') (fun _ w c c' h h' => ImplSameT_all x hx y w c c' hy h h') w c c' h h'

end Go.Proofs.Ytgogfloppnhceaa
