/- The library's table of blanks at this program; the names of the built-in functions by strings.Fields; one condition: that table holds what its text lays. -/
import Derived.Test.YthidbmjdphfddaaDoorHs
import Derived.Test.YthidbmjdphfddaaDoorShlB
import Derived.Shelf.Strings.Fields
import Derived.Lib.SmallJoins
namespace Go.Proofs.YthidbmjdphfddaaDoor
open Go Go.RowKit
set_option linter.unusedVariables false
set_option linter.unusedSimpArgs false

/-- The library's table of blanks. -/
def Tab (w : World) : Prop := Lib.TabIs Tryd.prog w "strings.asciiSpace" .u8 Lib.asciiSpaceTab
theorem tab_global : Tryd.prog.globalNamed "strings.asciiSpace" = some 0 := by kernel_rfl
theorem Tab.below {w w' : World} (h : Tab w) (hb : Below w.heap.size w w') : Tab w' := Joins.var_stays tab_global h hb (Nat.le_refl _)
theorem infoStr : (Tryd.prog.info? 9).map (fun i => (i.zero, i.size, i.bytes)) = some (some (.string ByteArray.empty), 1, 16) := by kernel_rfl
def textsV (L : List (List UInt8)) : Array Value := (L.map fun l => Value.string ⟨l.toArray⟩).toArray
def namesT : ByteArray := ⟨#[112, 114, 105, 109, 65, 100, 100, 32, 112, 114, 105, 109, 83, 117, 98, 32, 112, 114, 105, 109, 77, 117, 108, 32, 112, 114, 105, 109, 68, 105, 118, 32, 112, 114, 105, 109, 77, 111, 100, 32, 112, 114, 105, 109, 69, 113, 32, 112, 114, 105, 109, 76, 101, 115, 115, 32, 112, 114, 105, 109, 79, 114, 100, 32, 112, 114, 105, 109, 67, 104, 114, 32, 112, 114, 105, 109, 83, 104, 111, 119, 32, 112, 114, 105, 109, 65, 112, 112, 101, 110, 100, 32, 112, 114, 105, 109, 83, 101, 113, 32, 112, 114, 105, 109, 69, 114, 114, 111, 114, 32, 110, 101, 103, 97, 116, 101]⟩
def namesL : List (List UInt8) := [[112, 114, 105, 109, 65, 100, 100], [112, 114, 105, 109, 83, 117, 98], [112, 114, 105, 109, 77, 117, 108], [112, 114, 105, 109, 68, 105, 118], [112, 114, 105, 109, 77, 111, 100], [112, 114, 105, 109, 69, 113], [112, 114, 105, 109, 76, 101, 115, 115], [112, 114, 105, 109, 79, 114, 100], [112, 114, 105, 109, 67, 104, 114], [112, 114, 105, 109, 83, 104, 111, 119], [112, 114, 105, 109, 65, 112, 112, 101, 110, 100], [112, 114, 105, 109, 83, 101, 113], [112, 114, 105, 109, 69, 114, 114, 111, 114], [110, 101, 103, 97, 116, 101]]
theorem names_fields : Lib.fields namesT.data.toList = namesL := by decide +kernel
theorem ascii_names : ∀ (j : Nat) b, namesT.data.toList[j]? = some b → b.toNat < 128 := by
  have : ∀ b ∈ namesT.data.toList, b.toNat < 128 := by decide +kernel
  exact fun j b h => this b (List.mem_of_getElem? h)
theorem callNames (w : World) (ht : Tab w) : Calls Tryd.prog 15 #[.string namesT] w fun e w' => e = .returned (.slice (some ⟨w.heap.size, 0, none⟩) 14 14) ∧ w' = w.alloc (.cells (textsV namesL) 9) := by
  have := Any.strings_Fields shlBLays_n157 infoStr tab_global namesT w (by decide +kernel) ascii_names ht
  rw [names_fields] at this
  exact this

/-- A row of texts made at once is new. -/
theorem fr_namesRow (w : World) : Fr w.heap.size (w.alloc (.cells (textsV namesL) 9)) (.slice 1 (namesL.map fun l => D.str ⟨l.toArray⟩)) [.slice (some ⟨w.heap.size, 0, none⟩) 14 14] := by
  have hF : ∀ (L : List (List UInt8)) (w : World), D.Fields w (L.map fun l => D.str ⟨l.toArray⟩) (L.map fun l => Value.string ⟨l.toArray⟩) [] := by
    intro L
    induction L with
    | nil => intro w; simp [D.Fields]
    | cons l L ih =>
      intro w
      simp only [List.map_cons, D.Fields]
      exact ⟨[.string ⟨l.toArray⟩], _, [], [], rfl, rfl, ⟨rfl, rfl⟩, ih w⟩
  refine Grow.fr (e := 9) ⟨namesL.map fun l => Value.string ⟨l.toArray⟩, [], ⟨by simp, .inr ⟨w.heap.size, 14, _, rfl, Nat.le_refl _, blk_new w _, by decide, by decide, by decide, ?_⟩⟩, hF _ _, fun y hy => ?_, ?_⟩
  · rfl
  · obtain ⟨s, _, rfl⟩ := List.mem_map.1 hy
    rfl
  · refine ⟨by simp [Value.ownBlock], fun k hk => ?_⟩
    obtain rfl : k = w.heap.size := by simpa [Value.ownBlock] using hk
    exact ⟨Nat.le_refl _, _, _, blk_new w _⟩

end Go.Proofs.YthidbmjdphfddaaDoor
