/- Types: marks written into them and looked for; how many; no condition. -/
import Derived.Test.YtifmnijdaboenaaFmTyS
import Derived.Test.YtifmnijdaboenaaTy
namespace Go.Proofs.Ytifmnijdaboenaa
open Go.RowKit
set_option linter.unusedVariables false
set_option linter.unusedSimpArgs false

def Ty.kids : Ty → List Ty
  | .mk _ _ _ ks => ks
theorem Ty.mkS : ∀ x : Ty, x.ok → MkO Try.prog 93 (.slice 4 (Ty.encs x.kids)) :=
  Ty.induct fun k d n ks ih h => by
    simp only [Ty.ok] at h
    refine markTypeS_of (Ty.encs ks) (by rw [Ty.encs_length]; exact h.2.2.2.1) fun y hy => ?_
    rw [Ty.encs_map] at hy
    obtain ⟨x, hx, rfl⟩ := List.mem_map.1 hy
    have := ih x hx (Ty.oks_mem h.2.2.2.2 x hx)
    cases x with
    | mk k' d' n' ks' => exact ⟨k', d', n', Ty.encs ks', rfl, this⟩
theorem Ty.hdS : ∀ x : Ty, x.ok → HdO Try.prog 94 (.slice 4 (Ty.encs x.kids)) :=
  Ty.induct fun k d n ks ih h => by
    simp only [Ty.ok] at h
    refine heldTypeS_of (Ty.encs ks) (by rw [Ty.encs_length]; exact h.2.2.2.1) fun y hy => ?_
    rw [Ty.encs_map] at hy
    obtain ⟨x, hx, rfl⟩ := List.mem_map.1 hy
    have := ih x hx (Ty.oks_mem h.2.2.2.2 x hx)
    cases x with
    | mk k' d' n' ks' => exact ⟨k', d', n', Ty.encs ks', rfl, this⟩
theorem Ty.cnts_le : ∀ (xs : List Ty), (∀ x ∈ xs, x.enc.cnt ≤ 3 + 3 * x.enc.bulk) → D.cnts (Ty.encs xs) ≤ 3 * xs.length + 3 * D.bulks (Ty.encs xs)
  | [], _ => by simp [Ty.encs, D.cnts]
  | x :: xs, ih => by
    simp only [Ty.encs, D.cnts, D.bulks, List.length_cons]
    have h1 := ih x (by simp)
    have h2 := Ty.cnts_le xs (fun y hy => ih y (by simp [hy]))
    omega
theorem Ty.cnt_le : ∀ x : Ty, x.enc.cnt ≤ 3 + 3 * x.enc.bulk :=
  Ty.induct fun k d n ks ih => by
    have := Ty.cnts_le ks ih
    simp only [Ty.enc, D.cnt, D.cnts, D.bulk, D.bulks, Ty.encs_length]
    omega
theorem Ty.tcnt_le (x : Ty) : x.enc.tcnt ≤ 3 * x.enc.bulk := by
  cases x with
  | mk k d n ks =>
    have := Ty.cnts_le ks (fun y _ => Ty.cnt_le y)
    simp only [Ty.enc, D.tcnt, D.tcnts, D.bulk, D.bulks, Ty.encs_length]
    omega

end Go.Proofs.Ytifmnijdaboenaa
