/- What is left of 'FnExactPrimCount' behind the print: the two functions are one, for every text. No condition. -/
import Derived.Test.YtgogfloppnhceaaPFnExactPrimCountx1
namespace Go.Proofs.Ytgogfloppnhceaa.Pure
open Go.RowKit Go.Proofs.Ytgogfloppnhceaa.PFnExactPrimCount Go.Proofs.YtgogfloppnhceaaW.PrintWords Go.Proofs.YtgogfloppnhceaaW.PrintLast

theorem spec_j0_some (k : Nat) (s : ByteArray) (b : Bool) : ∃ r, spec_PrimCount.j0 (k + 1) s b = some r := by
  simp only [spec_PrimCount.j0]
  repeat' split
  all_goals exact ⟨_, rfl⟩
theorem j0_same (k : Nat) (s : ByteArray) (b : Bool) : impl_PrimCount.j0 (k + 1) s b = spec_PrimCount.j0 (k + 1) s b := rfl
theorem spec_some (s : ByteArray) : ∃ r, spec_PrimCount.f 1 s = some r := by
  simp only [spec_PrimCount.f]
  repeat' split
  all_goals exact spec_j0_some 0 _ _
theorem f_same (s : ByteArray) : impl_PrimCount.f 1 s = spec_PrimCount.f 1 s := rfl

theorem FnExactPrimCount : laws_FnExactPrimCount.Pure := by
  intro s _
  refine ⟨1, ?_⟩
  obtain ⟨r, hr⟩ := spec_some s
  unfold laws_FnExactPrimCount.f
  rw [f_same, hr]
  simp

end Go.Proofs.Ytgogfloppnhceaa.Pure
