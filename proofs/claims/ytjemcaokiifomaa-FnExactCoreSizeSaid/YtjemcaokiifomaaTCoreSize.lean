/- The law 'FnExactCoreSize' with what both functions answer; no condition. -/
import Derived.Test.YtjemcaokiifomaaCrSzI
import Derived.Test.YtjemcaokiifomaaLawCoreSize
namespace Go.Proofs.Ytjemcaokiifomaa
open Go.RowKit
theorem walkCoreSize (x : Cr) (hx : x.ok) (w : World) (c : List Value) (h : Rd w x.enc c) :
    Calls Try.prog 5 #[.agg c.toArray] w fun e w' => e = .returned (.bool true) ∧ Below w.heap.size w w' :=
  lawFnExactCoreSize x.enc x.count x.n (Cr.sz x hx) (Cr.to x) (Cr.eq x hx)
    (fun hb w c h => SpecCount_all x hx (by have := x.count_bulk; omega) w c h) (fun hb w c h => implCoreSize x hx (by have := x.count_bulk; omega) w c h) w c h

end Go.Proofs.Ytjemcaokiifomaa
