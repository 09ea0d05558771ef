/- The reference's lexer: words and marks; no condition. -/
import Derived.Test.YtifmnijdaboenaaDoorLxD
namespace Go.Proofs.YtifmnijdaboenaaDoor
open Go.RowKit
set_option linter.unusedVariables false
set_option linter.unusedSimpArgs false

def textsV (L : List (List UInt8)) : Array Value := (L.map fun l => Value.string ⟨l.toArray⟩).toArray
theorem texts_at (L : List (List UInt8)) {j : Nat} (h : j < L.length) : (textsV L)[j]? = some (.string ⟨(L[j]).toArray⟩) := by simp [textsV, List.getElem?_eq_getElem h]
theorem mk_toList (l : List UInt8) : (⟨l.toArray⟩ : ByteArray).toList = l := by rw [ByteArray.toList_eq]

set_option maxRecDepth 100000 in
set_option maxHeartbeats 4000000 in
theorem specWord (t : ByteArray) (w : World) : Calls Tryd.prog 41 #[.string t] w fun e w' => e = .returned (.bool (isWord t)) ∧ Below w.heap.size w w' := by
  have hv : textsV wordsL = #[.string ⟨#[99, 97, 115, 101]⟩, .string ⟨#[99, 108, 97, 115, 115]⟩, .string ⟨#[100, 97, 116, 97]⟩, .string ⟨#[100, 101, 114, 105, 118, 105, 110, 103]⟩, .string ⟨#[101, 108, 115, 101]⟩, .string ⟨#[105, 102]⟩, .string ⟨#[105, 109, 112, 111, 114, 116]⟩, .string ⟨#[105, 110]⟩, .string ⟨#[105, 110, 102, 105, 120]⟩, .string ⟨#[105, 110, 102, 105, 120, 108]⟩, .string ⟨#[105, 110, 102, 105, 120, 114]⟩, .string ⟨#[105, 110, 115, 116, 97, 110, 99, 101]⟩, .string ⟨#[108, 101, 116]⟩, .string ⟨#[109, 111, 100, 117, 108, 101]⟩, .string ⟨#[111, 102]⟩, .string ⟨#[116, 104, 101, 110]⟩, .string ⟨#[119, 104, 101, 114, 101]⟩, .string ⟨#[95]⟩] := rfl
  have HC : Hid (∀ (j : Nat) (h : j < wordsL.length), (w.alloc (.cells #[.string ⟨#[99, 97, 115, 101]⟩, .string ⟨#[99, 108, 97, 115, 115]⟩, .string ⟨#[100, 97, 116, 97]⟩, .string ⟨#[100, 101, 114, 105, 118, 105, 110, 103]⟩, .string ⟨#[101, 108, 115, 101]⟩, .string ⟨#[105, 102]⟩, .string ⟨#[105, 109, 112, 111, 114, 116]⟩, .string ⟨#[105, 110]⟩, .string ⟨#[105, 110, 102, 105, 120]⟩, .string ⟨#[105, 110, 102, 105, 120, 108]⟩, .string ⟨#[105, 110, 102, 105, 120, 114]⟩, .string ⟨#[105, 110, 115, 116, 97, 110, 99, 101]⟩, .string ⟨#[108, 101, 116]⟩, .string ⟨#[109, 111, 100, 117, 108, 101]⟩, .string ⟨#[111, 102]⟩, .string ⟨#[116, 104, 101, 110]⟩, .string ⟨#[119, 104, 101, 114, 101]⟩, .string ⟨#[95]⟩] 9)).cell? ⟨w.heap.size, j, none⟩ = some (.string ⟨(wordsL[j]).toArray⟩)) := fun j h => by
    rw [← hv]
    exact (blk_cell (blk_new w _) j).trans (texts_at _ h)
  have HB := Lib.hid (below_alloc1 w (.cells #[.string ⟨#[99, 97, 115, 101]⟩, .string ⟨#[99, 108, 97, 115, 115]⟩, .string ⟨#[100, 97, 116, 97]⟩, .string ⟨#[100, 101, 114, 105, 118, 105, 110, 103]⟩, .string ⟨#[101, 108, 115, 101]⟩, .string ⟨#[105, 102]⟩, .string ⟨#[105, 109, 112, 111, 114, 116]⟩, .string ⟨#[105, 110]⟩, .string ⟨#[105, 110, 102, 105, 120]⟩, .string ⟨#[105, 110, 102, 105, 120, 108]⟩, .string ⟨#[105, 110, 102, 105, 120, 114]⟩, .string ⟨#[105, 110, 115, 116, 97, 110, 99, 101]⟩, .string ⟨#[108, 101, 116]⟩, .string ⟨#[109, 111, 100, 117, 108, 101]⟩, .string ⟨#[111, 102]⟩, .string ⟨#[116, 104, 101, 110]⟩, .string ⟨#[119, 104, 101, 114, 101]⟩, .string ⟨#[95]⟩] 9))
  have hl : wordsL.length = 18 := rfl
  clear hv
  go_enter Tryd.func41, Tryd.ntmps41
  go_wp2
  generalize w.alloc (.cells #[.string ⟨#[99, 97, 115, 101]⟩, .string ⟨#[99, 108, 97, 115, 115]⟩, .string ⟨#[100, 97, 116, 97]⟩, .string ⟨#[100, 101, 114, 105, 118, 105, 110, 103]⟩, .string ⟨#[101, 108, 115, 101]⟩, .string ⟨#[105, 102]⟩, .string ⟨#[105, 109, 112, 111, 114, 116]⟩, .string ⟨#[105, 110]⟩, .string ⟨#[105, 110, 102, 105, 120]⟩, .string ⟨#[105, 110, 102, 105, 120, 108]⟩, .string ⟨#[105, 110, 102, 105, 120, 114]⟩, .string ⟨#[105, 110, 115, 116, 97, 110, 99, 101]⟩, .string ⟨#[108, 101, 116]⟩, .string ⟨#[109, 111, 100, 117, 108, 101]⟩, .string ⟨#[111, 102]⟩, .string ⟨#[116, 104, 101, 110]⟩, .string ⟨#[119, 104, 101, 114, 101]⟩, .string ⟨#[95]⟩] 9) = W at *
  go_loop [4, 7] (fun u i => ∃ j : Nat, i = .int .i64 j ∧ j ≤ 18 ∧ ∀ k (h : k < wordsL.length), k < j → wordsL[k] ≠ t.toList) (fun _ i => 18 - (intOf i).toNat)
  case atStart => exact ⟨0, rfl, Nat.zero_le _, fun k _ hk => by omega⟩
  case round =>
    obtain ⟨j, rfl, hj, hn⟩ := hrel
    by_cases hlt : j < 18
    · have z := HC.out j (by omega)
      have i0 : (0 : Int) ≤ (j : Int) := by omega
      have i1 : (j : Int) < 18 := by omega
      have hx := mk_toList (wordsL[j]'(by omega))
      obtain ⟨x, hxe⟩ : ∃ x, x = (⟨(wordsL[j]'(by omega)).toArray⟩ : ByteArray) := ⟨_, rfl⟩
      rw [← hxe] at z hx
      have HX := Lib.hid hx
      clear hx hxe
      cases he : (x.toList == t.toList)
      · go_wp2
        go_roundw
        case rel => exact ⟨j + 1, by go_num, by omega, fun k hk hkj => by
          rcases Nat.lt_succ_iff_lt_or_eq.1 hkj with h | rfl
          · exact hn k hk h
          · rw [← HX.out]
            simpa using he⟩
        case measure => simp [intOf]; omega
      · go_wp2
        go_ret
        refine ⟨ret_bool ?_, HB.out⟩
        have : wordsL[j]'(by omega) = t.toList := by rw [← HX.out]; simpa using he
        unfold isWord
        rw [← this]
        exact (List.contains_iff_mem.2 (List.getElem_mem _)).symm
    · go_wp2
      go_ret
      refine ⟨ret_bool ?_, HB.out⟩
      unfold isWord
      have : ¬ wordsL.contains t.toList = true := fun h => by
        obtain ⟨k, hk, he⟩ := List.getElem_of_mem (List.contains_iff_mem.1 h)
        exact hn k hk (by omega) he
      simpa using this
set_option maxRecDepth 100000 in
set_option maxHeartbeats 4000000 in
theorem specMark (t : ByteArray) (w : World) : Calls Tryd.prog 46 #[.string t] w fun e w' => e = .returned (.bool (isMark t)) ∧ Below w.heap.size w w' := by
  have hv : textsV marksL = #[.string ⟨#[61]⟩, .string ⟨#[124]⟩, .string ⟨#[45, 62]⟩, .string ⟨#[60, 45]⟩, .string ⟨#[92]⟩, .string ⟨#[58, 58]⟩, .string ⟨#[61, 62]⟩, .string ⟨#[46, 46]⟩, .string ⟨#[64]⟩, .string ⟨#[126]⟩, .string ⟨#[33]⟩] := rfl
  have HC : Hid (∀ (j : Nat) (h : j < marksL.length), (w.alloc (.cells #[.string ⟨#[61]⟩, .string ⟨#[124]⟩, .string ⟨#[45, 62]⟩, .string ⟨#[60, 45]⟩, .string ⟨#[92]⟩, .string ⟨#[58, 58]⟩, .string ⟨#[61, 62]⟩, .string ⟨#[46, 46]⟩, .string ⟨#[64]⟩, .string ⟨#[126]⟩, .string ⟨#[33]⟩] 9)).cell? ⟨w.heap.size, j, none⟩ = some (.string ⟨(marksL[j]).toArray⟩)) := fun j h => by
    rw [← hv]
    exact (blk_cell (blk_new w _) j).trans (texts_at _ h)
  have HB := Lib.hid (below_alloc1 w (.cells #[.string ⟨#[61]⟩, .string ⟨#[124]⟩, .string ⟨#[45, 62]⟩, .string ⟨#[60, 45]⟩, .string ⟨#[92]⟩, .string ⟨#[58, 58]⟩, .string ⟨#[61, 62]⟩, .string ⟨#[46, 46]⟩, .string ⟨#[64]⟩, .string ⟨#[126]⟩, .string ⟨#[33]⟩] 9))
  have hl : marksL.length = 11 := rfl
  clear hv
  go_enter Tryd.func46, Tryd.ntmps46
  go_wp2
  generalize w.alloc (.cells #[.string ⟨#[61]⟩, .string ⟨#[124]⟩, .string ⟨#[45, 62]⟩, .string ⟨#[60, 45]⟩, .string ⟨#[92]⟩, .string ⟨#[58, 58]⟩, .string ⟨#[61, 62]⟩, .string ⟨#[46, 46]⟩, .string ⟨#[64]⟩, .string ⟨#[126]⟩, .string ⟨#[33]⟩] 9) = W at *
  go_loop [4, 7] (fun u i => ∃ j : Nat, i = .int .i64 j ∧ j ≤ 11 ∧ ∀ k (h : k < marksL.length), k < j → marksL[k] ≠ t.toList) (fun _ i => 11 - (intOf i).toNat)
  case atStart => exact ⟨0, rfl, Nat.zero_le _, fun k _ hk => by omega⟩
  case round =>
    obtain ⟨j, rfl, hj, hn⟩ := hrel
    by_cases hlt : j < 11
    · have z := HC.out j (by omega)
      have i0 : (0 : Int) ≤ (j : Int) := by omega
      have i1 : (j : Int) < 11 := by omega
      have hx := mk_toList (marksL[j]'(by omega))
      obtain ⟨x, hxe⟩ : ∃ x, x = (⟨(marksL[j]'(by omega)).toArray⟩ : ByteArray) := ⟨_, rfl⟩
      rw [← hxe] at z hx
      have HX := Lib.hid hx
      clear hx hxe
      cases he : (x.toList == t.toList)
      · go_wp2
        go_roundw
        case rel => exact ⟨j + 1, by go_num, by omega, fun k hk hkj => by
          rcases Nat.lt_succ_iff_lt_or_eq.1 hkj with h | rfl
          · exact hn k hk h
          · rw [← HX.out]
            simpa using he⟩
        case measure => simp [intOf]; omega
      · go_wp2
        go_ret
        refine ⟨ret_bool ?_, HB.out⟩
        have : marksL[j]'(by omega) = t.toList := by rw [← HX.out]; simpa using he
        unfold isMark
        rw [← this]
        exact (List.contains_iff_mem.2 (List.getElem_mem _)).symm
    · go_wp2
      go_ret
      refine ⟨ret_bool ?_, HB.out⟩
      unfold isMark
      have : ¬ marksL.contains t.toList = true := fun h => by
        obtain ⟨k, hk, he⟩ := List.getElem_of_mem (List.contains_iff_mem.1 h)
        exact hn k hk (by omega) he
      simpa using this

end Go.Proofs.YtifmnijdaboenaaDoor
