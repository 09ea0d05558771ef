/- The law 'FnExactNodeCount' with what both functions answer; no condition. -/
import Derived.Test.YtgogfloppnhceaaTrNodes
import Derived.Test.YtgogfloppnhceaaTrCount
import Derived.Test.YtgogfloppnhceaaLawNodeCount
namespace Go.Proofs.Ytgogfloppnhceaa
open Go.RowKit
theorem walkNodeCount (x : Tr) (hx : x.ok) (w : World) (c : List Value) (h : Rd w x.enc c) :
    Calls Try.prog 12 #[.agg c.toArray] w fun e w' => e = .returned (.bool true) ∧ Below w.heap.size w w' :=
  lawFnExactNodeCount x.enc x.count x.n (Tr.sz x hx) (Tr.to x) (Tr.eq x hx)
    (fun hb w c h => SpecCount_all x hx (Nat.le_trans x.count_bulk (Nat.succ_le_succ hb)) w c h) (fun hb w c h => implNodeCount x hx (Nat.le_trans x.count_bulk (Nat.succ_le_succ hb)) w c h) w c h

end Go.Proofs.Ytgogfloppnhceaa
