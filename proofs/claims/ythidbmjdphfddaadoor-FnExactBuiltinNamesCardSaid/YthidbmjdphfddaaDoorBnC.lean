/- Both 'BuiltinNames', and the law 'FnExactBuiltinNames'; one condition: the library's table of blanks holds what its text lays. -/
import Derived.Test.YthidbmjdphfddaaDoorBnT
import Derived.Test.YthidbmjdphfddaaDoorLawBuiltinNames
namespace Go.Proofs.YthidbmjdphfddaaDoor
open Go Go.RowKit
def namesD : D := .slice 1 (namesL.map fun l => D.str ⟨l.toArray⟩)
theorem specNames (w : World) : Calls Tryd.prog 5 #[] w fun e w' => ∃ v, e = .returned v ∧ Fr w.heap.size w' namesD [v] ∧ Below w.heap.size w w' := by
  have HF := Lib.hid (fr_namesRow w)
  have HB := Lib.hid ((Below.refl w.heap.size w).alloc (Nat.le_refl _) (.cells (textsV namesL) 9))
  go_enter Tryd.func5, Tryd.ntmps5
  go_wp2
  go_ret
  exact ⟨_, rfl, HF.out, HB.out⟩
theorem implNames (w : World) (ht : Tab w) : Calls Tryd.prog 6 #[] w fun e w' => ∃ v, e = .returned v ∧ Fr w.heap.size w' namesD [v] ∧ Below w.heap.size w w' := by
  have HF := Lib.hid (fr_namesRow w)
  have HB := Lib.hid ((Below.refl w.heap.size w).alloc (Nat.le_refl _) (.cells (textsV namesL) 9))
  have CN := Lib.hid (callNames w ht)
  go_enter Tryd.func6, Tryd.ntmps6
  go_wp2_with fail
  refine CN.out.mono ?_
  rintro e w1 ⟨rfl, rfl⟩
  go_wp2
  go_ret
  exact ⟨_, rfl, HF.out, HB.out⟩
theorem names_mem : ∀ y ∈ (namesL.map fun l => D.str ⟨l.toArray⟩), ∃ s : ByteArray, y = (.str s : D) := fun y hy => by
  obtain ⟨z, _, rfl⟩ := List.mem_map.1 hy
  exact ⟨_, rfl⟩
theorem walkBuiltinNames (w : World) (ht : Tab w) : Calls Tryd.prog 3 #[] w fun e w' => e = .returned (.bool true) ∧ Below w.heap.size w w' :=
  lawFnExactBuiltinNames namesD (eqStringS_of _ (by decide) names_mem) ⟨by decide, markStringS_of _ (by decide) names_mem, heldStringS_of _ (by decide) names_mem⟩
    (fun w => specNames w) w (fun w1 h => implNames w1 (ht.below h))
end Go.Proofs.YthidbmjdphfddaaDoor
