/- The law 'FnExactPassName' walked: over whatever both functions answer alike; no condition. -/
import Derived.Test.YtjemcaokiifomaaHs
import Derived.Test.YtjemcaokiifomaaProg
import Derived.Deep.RegionHeld3
namespace Go.Proofs.Ytjemcaokiifomaa
open Go.RowKit
set_option linter.unusedVariables false
set_option linter.unusedSimpArgs false

set_option maxRecDepth 100000 in
set_option maxHeartbeats 1000000 in
theorem lawFnExactPassName (n_aP : Int) (r : ByteArray) (SP : ∀ (w : World), Calls Try.prog 30 #[.int .i64 n_aP] w fun e w' => e = .returned (.string r) ∧ Below w.heap.size w w')
    (IM : ∀ (w : World), Calls Try.prog 31 #[.int .i64 n_aP] w fun e w' => e = .returned (.string r) ∧ Below w.heap.size w w') (w : World)  :
    Calls Try.prog 9 #[.int .i64 n_aP] w fun e w' => e = .returned (.bool true) ∧ Below w.heap.size w w' := by
  have SPEC := Lib.hid SP
  have IMPL := Lib.hid IM
  clear SP IM
  have HB := Lib.hid (show Below w.heap.size w w from (Below.refl w.heap.size w))
  go_enter Try.func9, Try.ntmps9
  have SPEC := Lib.hid (SPEC.out)
  have IMPL := Lib.hid (IMPL.out)
  go_wp2_with fail
  refine (SPEC.out _).mono ?_
  rintro e w1 ⟨rfl, hb⟩
  have HB := Lib.hid (HB.out.trans (hb.mono HB.out.size))
  clear hb
  go_wp2_with fail
  refine (IMPL.out _).mono ?_
  rintro e w2 ⟨rfl, hb⟩
  have HB := Lib.hid (HB.out.trans (hb.mono HB.out.size))
  clear hb
  go_wp2
  go_ret
  exact ⟨rfl, HB.out⟩

end Go.Proofs.Ytjemcaokiifomaa
