/- The law 'FnExactStands': what both functions answer, joined with the law's walk; no condition. -/
import Derived.Test.YtgogfloppnhceaaStd
import Derived.Test.YtgogfloppnhceaaLawStands
namespace Go.Proofs.Ytgogfloppnhceaa
open Go.RowKit
set_option linter.unusedVariables false

theorem reach_num : reachBytes = 140737488351232 := by decide
theorem opensOutcome : ∀ N, Opens Try.prog 26 (fun y => ∃ e o x s, y = outD e o x s ∧ o.size ≤ 140737488351232 ∧ x.size ≤ 140737488351232) N
  | 0 => opens_zero
  | N + 1 => by
    refine (opens_struct Try.underlying26 (by kernel_rfl) (opensF_cons (c := 1) rfl (by kernel_rfl) (opens_int Try.underlying2 (by kernel_rfl) N) (opensF_cons (c := 1) rfl (by kernel_rfl) (opens_str Try.underlying9 (by kernel_rfl) N) (opensF_cons (c := 1) rfl (by kernel_rfl) (opens_str Try.underlying9 (by kernel_rfl) N) (opensF_cons (c := 1) rfl (by kernel_rfl) (opens_int Try.underlying2 (by kernel_rfl) N) opensF_nil))))).imp ?_
    rintro y ⟨ys, rfl, _, _, rfl, ⟨n, rfl, hn⟩, _, _, rfl, ⟨s, rfl, hs⟩, _, _, rfl, ⟨x, rfl, hx⟩, _, _, rfl, ⟨m, rfl, hm⟩, rfl⟩
    have hr := reach_num
    exact ⟨n, s, x, m, rfl, by omega, by omega⟩

theorem walkStands (ae : Int) (ao ax : ByteArray) (ad be : Int) (bo bx : ByteArray) (bd : Int) (ha : ao.size ≤ 140737488351232) (ha' : ax.size ≤ 140737488351232) (hb : bo.size ≤ 140737488351232) (hb' : bx.size ≤ 140737488351232)
    (w : World) (c c' : List Value) (h : Rd w (outD ae ao ax ad) c) (h' : Rd w (outD be bo bx bd) c') :
    Calls Try.prog 5 #[.agg c.toArray, .agg c'.toArray] w fun e w' => e = .returned (.bool true) ∧ Below w.heap.size w w' :=
  lawFnExactStands (outD ae ao ax ad) (outD be bo bx bd) (St ae ao be bo) rfl (szOutcome_of _ _ _ _ ha ha') (fun _ => toOutcome_of _ _ _ _) rfl (szOutcome_of _ _ _ _ hb hb') (fun _ => toOutcome_of _ _ _ _)
    (fun _ w c c' h h' => specStands ae ao ax ad be bo bx bd ha hb w c c' h h') (fun _ w c c' h h' => implStands ae ao ax ad be bo bx bd ha hb w c c' h h') w _ _ h h'

end Go.Proofs.Ytgogfloppnhceaa
