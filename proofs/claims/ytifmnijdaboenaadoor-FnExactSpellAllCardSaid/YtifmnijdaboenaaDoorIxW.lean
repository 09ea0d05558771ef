/- The program's map of words and marks; one condition: the library's table of blanks holds what its text lays. -/
import Derived.Test.YtifmnijdaboenaaDoorLxE
import Derived.Test.YtifmnijdaboenaaDoorShl
import Derived.Shelf.Strings.Fields
import Derived.Lib.SmallJoins
namespace Go.Proofs.YtifmnijdaboenaaDoor
open Go Go.RowKit
set_option linter.unusedVariables false
set_option linter.unusedSimpArgs false

/-- The library's table of blanks. -/
def Tab (w : World) : Prop := Lib.TabIs Tryd.prog w "strings.asciiSpace" .u8 Lib.asciiSpaceTab
theorem tab_global : Tryd.prog.globalNamed "strings.asciiSpace" = some 0 := by kernel_rfl
theorem Tab.below {w w' : World} (h : Tab w) (hb : Below w.heap.size w w') : Tab w' := Joins.var_stays tab_global h hb (Nat.le_refl _)
theorem infoStr : (Tryd.prog.info? 9).map (fun i => (i.zero, i.size, i.bytes)) = some (some (.string ByteArray.empty), 1, 16) := by kernel_rfl
noncomputable def keyS : KeyK Tryd.prog 9 ByteArray := strKey Tryd.underlying9
/-- The map tells words and marks. -/
def WK (es : List (ByteArray × Value)) : Prop := ∀ x : ByteArray, (mget es x).getD (.int .i64 0) = .int .i64 (if isWord x then 8 else if isMark x then 9 else 0)
theorem mapS : Tryd.prog.underlying 48 = some (.map 9 2) := by kernel_rfl
theorem put_get (es : List (ByteArray × Value)) (x y : ByteArray) (v : Value) : (mget (mput es x v) y).getD (.int .i64 0) = if x = y then v else (mget es y).getD (.int .i64 0) := by
  by_cases h : x = y
  · subst h
    rw [mget_put_same, if_pos rfl]
    rfl
  · rw [mget_put_other _ _ h, if_neg h]
def WKn (a b : Nat) (es : List (ByteArray × Value)) : Prop := ∀ x : ByteArray, (mget es x).getD (.int .i64 0) = .int .i64 (if (marksL.take b).contains x.toList then 9 else if (wordsL.take a).contains x.toList then 8 else 0)
theorem wk_done {es : List (ByteArray × Value)} (h : WKn 18 11 es) : WK es := fun x => by
  rw [h x]
  have h1 : wordsL.take 18 = wordsL := rfl
  have h2 : marksL.take 11 = marksL := rfl
  rw [h1, h2]
  unfold isWord isMark
  have key : ∀ l ∈ wordsL, marksL.contains l = false := by decide
  cases hw : wordsL.contains x.toList
  · simp
  · rw [key _ (List.contains_iff_mem.1 hw)]
    simp
theorem take_has (L : List (List UInt8)) (j : Nat) (h : j < L.length) (l : List UInt8) : (L.take (j + 1)).contains l = (if L[j] = l then true else (L.take j).contains l) := by
  rw [List.take_succ_eq_append_getElem h, Bool.eq_iff_iff, List.contains_iff_mem]
  by_cases hl : L[j] = l
  · rw [if_pos hl]
    simp [hl]
  · rw [if_neg hl, List.contains_iff_mem]
    constructor
    · intro h2
      rcases List.mem_append.1 h2 with h3 | h3
      · exact h3
      · exact absurd (List.mem_singleton.1 h3).symm hl
    · exact fun h2 => List.mem_append_left _ h2
theorem mk_inj (l : List UInt8) (x : ByteArray) : ((⟨l.toArray⟩ : ByteArray) = x) ↔ l = x.toList := by
  constructor
  · rintro rfl
    rw [mk_toList]
  · intro h
    have : x = (⟨x.toList.toArray⟩ : ByteArray) := by
      apply ByteArray.ext
      rw [ByteArray.toList_eq]
    rw [this, ← h]
theorem wk_word {a : Nat} {es : List (ByteArray × Value)} (h : WKn a 0 es) (ha : a < wordsL.length) : WKn (a + 1) 0 (mput es ⟨(wordsL[a]).toArray⟩ (.int .i64 8)) := fun x => by
  rw [put_get, h x, take_has wordsL a ha]
  by_cases he : wordsL[a] = x.toList
  · rw [if_pos ((mk_inj _ _).2 he), if_pos he]
    simp
  · rw [if_neg (fun h => he ((mk_inj _ _).1 h)), if_neg he]
theorem wk_mark {b : Nat} {es : List (ByteArray × Value)} (h : WKn 18 b es) (hb : b < marksL.length) : WKn 18 (b + 1) (mput es ⟨(marksL[b]).toArray⟩ (.int .i64 9)) := fun x => by
  rw [put_get, h x, take_has marksL b hb]
  by_cases he : marksL[b] = x.toList
  · rw [if_pos ((mk_inj _ _).2 he), if_pos he]
    simp
  · rw [if_neg (fun h => he ((mk_inj _ _).1 h)), if_neg he]
theorem mput_le (es : List (ByteArray × Value)) (x : ByteArray) (v : Value) : (mput es x v).length ≤ es.length + 1 := by
  rw [mput_len]
  split <;> omega

def wordsT : ByteArray := ⟨#[99, 97, 115, 101, 32, 99, 108, 97, 115, 115, 32, 100, 97, 116, 97, 32, 100, 101, 114, 105, 118, 105, 110, 103, 32, 101, 108, 115, 101, 32, 105, 102, 32, 105, 109, 112, 111, 114, 116, 32, 105, 110, 32, 105, 110, 102, 105, 120, 32, 105, 110, 102, 105, 120, 108, 32, 105, 110, 102, 105, 120, 114, 32, 105, 110, 115, 116, 97, 110, 99, 101, 32, 108, 101, 116, 32, 109, 111, 100, 117, 108, 101, 32, 111, 102, 32, 116, 104, 101, 110, 32, 119, 104, 101, 114, 101, 32, 95]⟩
def marksT : ByteArray := ⟨#[61, 32, 124, 32, 45, 62, 32, 60, 45, 32, 92, 32, 58, 58, 32, 61, 62, 32, 46, 46, 32, 64, 32, 126, 32, 33]⟩
theorem words_fields : Lib.fields wordsT.data.toList = wordsL := by decide +kernel
theorem marks_fields : Lib.fields marksT.data.toList = marksL := by decide +kernel
theorem ascii_words : ∀ (j : Nat) b, wordsT.data.toList[j]? = some b → b.toNat < 128 := by
  have : ∀ b ∈ wordsT.data.toList, b.toNat < 128 := by decide +kernel
  exact fun j b h => this b (List.mem_of_getElem? h)
theorem ascii_marks : ∀ (j : Nat) b, marksT.data.toList[j]? = some b → b.toNat < 128 := by
  have : ∀ b ∈ marksT.data.toList, b.toNat < 128 := by decide +kernel
  exact fun j b h => this b (List.mem_of_getElem? h)
theorem callWords (w : World) (ht : Tab w) : Calls Tryd.prog 48 #[.string wordsT] w fun e w' => e = .returned (.slice (some ⟨w.heap.size, 0, none⟩) 18 18) ∧ w' = w.alloc (.cells (textsV wordsL) 9) := by
  have := Any.strings_Fields shlLays_n157 infoStr tab_global wordsT w (by decide +kernel) ascii_words ht
  rw [words_fields] at this
  exact this
theorem callMarks (w : World) (ht : Tab w) : Calls Tryd.prog 48 #[.string marksT] w fun e w' => e = .returned (.slice (some ⟨w.heap.size, 0, none⟩) 11 11) ∧ w' = w.alloc (.cells (textsV marksL) 9) := by
  have := Any.strings_Fields shlLays_n157 infoStr tab_global marksT w (by decide +kernel) ascii_marks ht
  rw [marks_fields] at this
  exact this

end Go.Proofs.YtifmnijdaboenaaDoor
