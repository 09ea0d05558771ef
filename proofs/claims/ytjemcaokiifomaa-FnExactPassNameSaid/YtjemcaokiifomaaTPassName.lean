/- The law 'FnExactPassName' with what both functions answer; no condition. -/
import Derived.Test.YtjemcaokiifomaaPass
import Derived.Test.YtjemcaokiifomaaLawPassName
namespace Go.Proofs.Ytjemcaokiifomaa
open Go.RowKit
theorem walkPassName (p : Int) (w : World) :
    Calls Try.prog 9 #[.int .i64 p] w fun e w' => e = .returned (.bool true) ∧ Below w.heap.size w w' :=
  lawFnExactPassName p (passNm p) (fun w => specPass p w) (fun w => implPass p w) w

end Go.Proofs.Ytjemcaokiifomaa
