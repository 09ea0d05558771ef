/- The law 'FnExactSameCore' with what both functions answer; no condition. -/
import Derived.Test.YtjemcaokiifomaaCrSame
import Derived.Test.YtjemcaokiifomaaLawSameCore
namespace Go.Proofs.Ytjemcaokiifomaa
open Go.RowKit
theorem walkSameCore (x y : Cr) (hx : x.ok) (hy : y.ok) (w : World) (c c' : List Value) (h : Rd w x.enc c) (h' : Rd w y.enc c') :
    Calls Try.prog 6 #[.agg c.toArray, .agg c'.toArray] w fun e w' => e = .returned (.bool true) ∧ Below w.heap.size w w' :=
  lawFnExactSameCore x.enc y.enc (x.same y) x.n (Cr.sz x hx) (Cr.to x) (Cr.eq x hx) y.n (Cr.sz y hy) (Cr.to y) (Cr.eq y hy)
    (fun _ w c c' h h' => SameS_all x hx y w c c' hy h h') (fun _ w c c' h h' => SameI_all x hx y w c c' hy h h') w c c' h h'

end Go.Proofs.Ytjemcaokiifomaa
