/- The program's 'wordKinds' walked; one condition: the library's table of blanks holds what its text lays. -/
import Derived.Test.YtifmnijdaboenaaDoorIxW
namespace Go.Proofs.YtifmnijdaboenaaDoor
open Go Go.RowKit
set_option linter.unusedVariables false
set_option linter.unusedSimpArgs false

/-- The map so far. -/
structure Wd (w : World) (a b : Nat) (wr : World) : Prop where
  below : Below w.heap.size w wr
  map : ∃ es, HasMap keyS w.heap.size es wr ∧ WKn a b es ∧ es.length ≤ a + b
theorem wd_mv {w wr w1 : World} {a b : Nat} (h : Wd w a b wr) (hb : Below wr.heap.size wr w1) : Wd w a b w1 := by
  obtain ⟨es, h1, h2⟩ := h.map
  exact ⟨h.below.trans (hb.mono h.below.size), es, h1.below hb, h2⟩
theorem text_ok {L : List (List UInt8)} (hL : ∀ l ∈ L, l.length ≤ 100) {j : Nat} (h : j < L.length) : (⟨(L[j]).toArray⟩ : ByteArray).size ≤ maxLen := by
  have := hL _ (List.getElem_mem h)
  have e : (⟨(L[j]).toArray⟩ : ByteArray).size = (L[j]).length := by simp [ByteArray.size]
  rw [e]
  simp only [maxLen]
  omega
theorem words_short : ∀ l ∈ wordsL, l.length ≤ 100 := by decide
theorem marks_short : ∀ l ∈ marksL, l.length ≤ 100 := by decide

set_option maxRecDepth 100000 in
set_option maxHeartbeats 8000000 in
theorem implWordKinds (w : World) (ht : Tab w) :
    Calls Tryd.prog 25 #[] w fun e w' => ∃ es, e = .returned (.map (some w.heap.size)) ∧ HasMap keyS w.heap.size es w' ∧ WK es ∧ Below w.heap.size w w' := by
  have W0 : Hid (Wd w 0 0 (w.alloc (.map #[] 0))) := ⟨(Below.refl _ _).alloc (Nat.le_refl _) _, [], hasMap_new w keyS, fun x => by simp [mget], Nat.le_refl _⟩
  have T0 := Lib.hid (ht.below W0.out.below)
  have HT := Lib.hid ht
  have lw : wordsL.length = 18 := rfl
  have lm : marksL.length = 11 := rfl
  clear ht
  have hmm := @run_makeMap Tryd.prog
  have SZ := Lib.hid (show (w.alloc (.map #[] 0)).heap.size = w.heap.size + 1 by simp)
  go_enter Tryd.func25, Tryd.ntmps25
  have C1 := Lib.hid (callWords _ T0.out)
  go_wp2_with fail
  clear hmm
  generalize w.alloc (.map #[] 0) = w0 at *
  refine C1.out.mono ?_
  rintro e w1 ⟨rfl, hw1⟩
  have B1 := Lib.hid (show Below w0.heap.size w0 w1 by rw [hw1]; exact below_alloc1 _ _)
  have S1 := Lib.hid (wd_mv W0.out B1.out)
  have BK1 := Lib.hid (show w1.heap[w0.heap.size]? = some (.cells (textsV wordsL) 9 (0, 0)) by rw [hw1]; exact blk_new _ _)
  clear hw1 W0 T0 C1 B1
  go_wp2_with fail
  go_loopw [3, 9] (fun u i wr => ∃ j : Nat, i = .int .i64 j ∧ j ≤ 18 ∧ Hid (Wd w j 0 wr ∧ wr.heap[w0.heap.size]? = some (.cells (textsV wordsL) 9 (0, 0)))) (fun _ i _ => 18 - (intOf i).toNat)
  case atStart => exact ⟨0, rfl, Nat.zero_le _, Lib.hid ⟨S1.out, BK1.out⟩⟩
  case round =>
    obtain ⟨j, rfl, hj, hr⟩ := hrel
    obtain ⟨hwd, hbk⟩ := hr.out
    have SW := Lib.hid hwd
    have BK := Lib.hid hbk
    clear hr
    by_cases hlt : j < 18
    · obtain ⟨es, hm, hk, hle⟩ := hwd.map
      have hlL : j < wordsL.length := hlt
      have z := (blk_cell hbk j).trans (texts_at wordsL hlL)
      have i0 : (0 : Int) ≤ (j : Int) := by omega
      have i1 : (j : Int) < 18 := by omega
      have HM := Lib.hid hm
      have HK := Lib.hid hk
      have HL := Lib.hid hle
      have TO := Lib.hid (text_ok words_short hlL)
      have HKN := Lib.hid (wk_word hk hlL)
      obtain ⟨x, hx⟩ : ∃ x, (⟨(wordsL[j]'hlL).toArray⟩ : ByteArray) = x := ⟨_, rfl⟩
      rw [hx] at z TO HKN
      clear hwd hbk hm hk hle hx
      go_wp2_with (at_mapUpdate; refine wpl_map_put rfl _ _ _ rfl mapS rfl HM.out (by have := HL.out; simp only [maxLen]; omega) x rfl TO.out (.int .i64 8) rfl ?_; intro w5 hm5 hg5; have S5 := Lib.hid (show Wd w (j + 1) 0 w5 from ⟨SW.out.below.grown hg5 SW.out.below.size (fun g hg => by injection hg with hg; omega), _, hm5, HKN.out, by have := mput_le es x (.int .i64 8); have := HL.out; omega⟩); have BK5 := Lib.hid ((hg5.block w0.heap.size (blk_lt BK.out) (fun e => by injection e with e; have := SZ.out; omega)).trans BK.out); clear hm5 hg5)
      go_roundw
      case rel => exact ⟨j + 1, by go_num, hlt, Lib.hid ⟨S5.out, BK5.out⟩⟩
      case measure => simp [intOf]; omega
    · obtain rfl : j = 18 := by omega
      clear hwd hbk
      have T2 := Lib.hid (HT.out.below SW.out.below)
      have C2 := Lib.hid (callMarks _ T2.out)
      have S0 := Lib.hid SW.out.below.size
      go_wp2_with fail
      refine C2.out.mono ?_
      rintro e w2 ⟨rfl, hw2⟩
      have B2 := Lib.hid (show Below wr.heap.size wr w2 by rw [hw2]; exact below_alloc1 _ _)
      have S2 := Lib.hid (wd_mv SW.out B2.out)
      have HG := Lib.hid (show w.heap.size < wr.heap.size by have := blk_lt BK.out; have := SZ.out; omega)
      have BK2 := Lib.hid (show w2.heap[wr.heap.size]? = some (.cells (textsV marksL) 9 (0, 0)) by rw [hw2]; exact blk_new _ _)
      clear hw2 C2 T2 B2 BK S1 BK1
      obtain ⟨K, hK⟩ : ∃ K, wr.heap.size = K := ⟨_, rfl⟩
      rw [hK] at BK2 HG ⊢
      clear hK SW
      go_wp2_with fail
      go_loopw [5, 18] (fun u i wr => ∃ j : Nat, i = .int .i64 j ∧ j ≤ 11 ∧ Hid (Wd w 18 j wr ∧ wr.heap[K]? = some (.cells (textsV marksL) 9 (0, 0)))) (fun _ i _ => 11 - (intOf i).toNat)
      case atStart => exact ⟨0, rfl, Nat.zero_le _, Lib.hid ⟨S2.out, BK2.out⟩⟩
      case round =>
        obtain ⟨j, rfl, hj, hr⟩ := hrel
        obtain ⟨hwd, hbk⟩ := hr.out
        have SW := Lib.hid hwd
        have BK := Lib.hid hbk
        clear hr
        by_cases hlt : j < 11
        · obtain ⟨es, hm, hk, hle⟩ := hwd.map
          have hlL : j < marksL.length := hlt
          have z := (blk_cell hbk j).trans (texts_at marksL hlL)
          have i0 : (0 : Int) ≤ (j : Int) := by omega
          have i1 : (j : Int) < 11 := by omega
          have HM := Lib.hid hm
          have HK := Lib.hid hk
          have HL := Lib.hid hle
          have TO := Lib.hid (text_ok marks_short hlL)
          have HKN := Lib.hid (wk_mark hk hlL)
          obtain ⟨x, hx⟩ : ∃ x, (⟨(marksL[j]'hlL).toArray⟩ : ByteArray) = x := ⟨_, rfl⟩
          rw [hx] at z TO HKN
          clear hwd hbk hm hk hle hx
          go_wp2_with (at_mapUpdate; refine wpl_map_put rfl _ _ _ rfl mapS rfl HM.out (by have := HL.out; simp only [maxLen]; omega) x rfl TO.out (.int .i64 9) rfl ?_; intro w5 hm5 hg5; have S5 := Lib.hid (show Wd w 18 (j + 1) w5 from ⟨SW.out.below.grown hg5 SW.out.below.size (fun g hg => by injection hg with hg; omega), _, hm5, HKN.out, by have := mput_le es x (.int .i64 9); have := HL.out; omega⟩); have BK5 := Lib.hid ((hg5.block K (blk_lt BK.out) (fun e => by injection e with e; have := HG.out; omega)).trans BK.out); clear hm5 hg5)
          go_roundw
          case rel => exact ⟨j + 1, by go_num, hlt, Lib.hid ⟨S5.out, BK5.out⟩⟩
          case measure => simp [intOf]; omega
        · obtain rfl : j = 11 := by omega
          clear hwd hbk
          have SX := Lib.hid SW.out
          go_wp2_with fail
          go_ret
          obtain ⟨es, hm, hk, _⟩ := SX.out.map
          exact ⟨es, rfl, hm, wk_done hk, SX.out.below⟩

end Go.Proofs.YtifmnijdaboenaaDoor
