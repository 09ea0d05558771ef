/- The program's 'Fresh' on lists of names as data; no condition. -/
import Derived.Test.YtgogfloppnhceaaFreshS
import Derived.Test.YtgogfloppnhceaaSet
namespace Go.Proofs.Ytgogfloppnhceaa
open Go.RowKit
set_option linter.unusedVariables false
set_option linter.unusedSimpArgs false

theorem nameSetT : Try.prog.underlying 93 = some (.map 9 4) := by kernel_rfl
/-- Block b holds the set of l's names. -/
def Names (b n : Nat) (l : List ByteArray) (w : World) : Prop := ∃ M, HasSet Try.prog 9 4 b n M w ∧ ∀ y, M y = isIn l y
theorem isIn_snoc (l : List ByteArray) (s y : ByteArray) : isIn (l ++ [s]) y = ((y.toList == s.toList) || isIn l y) := by
  simp only [isIn, List.any_append, List.any_cons, List.any_nil, Bool.or_false]
  rw [Bool.or_comm]
  congr 1
  exact BEq.comm

set_option maxRecDepth 100000 in
theorem implAdd (l : List ByteArray) (hn : l.length ≤ 1048576) (hl : ∀ x ∈ l, x.size ≤ maxLen) (W0 w : World) (b : Nat) (v : Value) (h : Rd W0 (.slice 1 (strs l)) [v]) (hb : Below W0.heap.size W0 w) (hW : W0.heap.size ≤ b) (hset : Names b 0 [] w) :
    Calls Try.prog 58 #[.map (some b), v] w fun e w' => e = .returned (.tuple #[]) ∧ Names b l.length l w' ∧ Below W0.heap.size W0 w' := by
  obtain ⟨A, c, rfl, _, _, hr⟩ := rd_slice1 h
  rw [strs_length]
  have H := Lib.hid hr
  have HB := Lib.hid hb
  have HS := Lib.hid hset
  have HL := Lib.hid hl
  clear h hr hb hset hl
  go_enter Try.func58, Try.ntmps58
  go_wp2_with fail
  go_loopw [8] (fun i wr => ∃ j : Nat, j ≤ l.length ∧ i = .int .i64 j ∧ Hid (Names b j (l.take j) wr ∧ Below W0.heap.size W0 wr)) (fun i _ => l.length - (intOf i).toNat)
  case atStart => exact ⟨0, Nat.zero_le _, rfl, Lib.hid ⟨HS.out, HB.out⟩⟩
  case round =>
    obtain ⟨j, hj, rfl, hrel⟩ := hrel
    obtain ⟨⟨M, hM, hMe⟩, hbr⟩ := hrel.out
    by_cases hlt : j < l.length
    · obtain ⟨bb, off, cs, rfl, hcl, hrd, hc⟩ := (RdRow.below H.out (by omega) hbr).get (i := j) (x := D.str l[j]) (by simp [strs, List.getElem?_eq_getElem hlt])
      obtain rfl := rd_str.1 hrd
      have c0 : wr.cell? ⟨bb, off + j, none⟩ = some (.string l[j]) := by simpa using hc 0 _ rfl
      have TK := Lib.hid (List.take_succ_eq_append_getElem hlt)
      have SZ := Lib.hid (HL.out _ (List.getElem_mem hlt))
      have MM := Lib.hid hM
      have ME := Lib.hid hMe
      have BR := Lib.hid hbr
      clear hc hcl hrd hrel hbr hM hMe H HS
      generalize l[j] = x at *
      go_wp2_with (at_mapUpdate; refine wpl_set_put rfl _ _ _ rfl Try.underlying9 Try.underlying4 nameSetT rfl MM.out (by have : maxLen = maxLen := rfl; simp only [maxLen]; omega) x rfl SZ.out rfl ?_; intro w1 hs1 hg1)
      have S1 := Lib.hid hs1
      have B1 := Lib.hid (BR.out.grown hg1 BR.out.size (fun k e => by cases e; exact hW))
      clear hs1 hg1
      go_wp2
      go_roundw
      case rel => exact ⟨j + 1, by omega, by go_num, Lib.hid ⟨⟨_, S1.out, fun y => by rw [TK.out, isIn_snoc, ME.out]⟩, B1.out⟩⟩
      case measure => simp [intOf]; omega
    · obtain rfl : j = l.length := by omega
      have HM : Hid (Names b l.length l wr) := by
        refine ⟨M, hM, fun y => ?_⟩
        rw [hMe, List.take_length]
      have BR := Lib.hid hbr
      clear hrel hbr hM hMe H HS
      go_wp2_with fail
      go_end0
      exact ⟨rfl, HM.out, BR.out⟩

set_option maxRecDepth 100000 in
theorem implFresh1 (l : List ByteArray) (hn : l.length ≤ 1048576) (s : ByteArray) (hs : s.size ≤ 1048576) (w : World) (b n0 : Nat) (hset : Names b n0 l w) :
    Calls Try.prog 59 #[.string s, .map (some b)] w fun e w' => e = .returned (.string (freshN l l.length (s ++ ⟨#[39]⟩))) ∧ w' = w := by
  obtain ⟨M, hM, hMe⟩ := hset
  obtain ⟨R, hR⟩ : ∃ R, R = freshN l l.length (s ++ ⟨#[39]⟩) := ⟨_, rfl⟩
  rw [← hR]
  have HR := Lib.hid hR
  have MM := Lib.hid hM
  have ME := Lib.hid hMe
  clear hR hM hMe
  go_enter Try.func59, Try.ntmps59
  go_wp2_with fail
  go_loopw [0] (fun i wr => wr = w ∧ ∃ t : ByteArray, i = .string t ∧ Hid (∃ n, bigger l t ≤ n ∧ R = freshN l n t ∧ t.size + bigger l t ≤ 2097153)) (fun i _ => bigger l (strOf i))
  case atStart => exact ⟨rfl, _, rfl, Lib.hid ⟨l.length, bigger_le _ _, HR.out, by have := bigger_le l (s ++ ⟨#[39]⟩); rw [size_quote]; omega⟩⟩
  case round =>
    obtain ⟨rfl, t, rfl, hrel⟩ := hrel
    obtain ⟨n, hb, hr, hz⟩ := hrel.out
    have HB := Lib.hid hb
    have HRR := Lib.hid hr
    have hz' : t.size ≤ 2097153 := by omega
    have HZ := Lib.hid hz
    have HM : Hid (t.size ≤ maxLen) := by simp only [maxLen, Hid]; omega
    clear hrel hb hr hz HR
    cases hin : isIn l t
    · have hm : M t = false := by rw [ME.out, hin]
      have HIN := Lib.hid hin
      have HMT := Lib.hid hm
      clear hin hm
      go_wp2_with (at_lookup; refine wpl_set_get rfl _ _ rfl Try.underlying9 Try.underlying4 (Try.zeroValue4 _) nameSetT rfl MM.out t rfl HM.out HMT.out ?_)
      go_ret
      exact ⟨by rw [HRR.out, fresh_end HIN.out]; rfl, rfl⟩
    · have hm : M t = true := by rw [ME.out, hin]
      have HIN := Lib.hid hin
      have HMT := Lib.hid hm
      clear hin hm
      go_wp2_with (at_lookup; refine wpl_set_get rfl _ _ rfl Try.underlying9 Try.underlying4 (Try.zeroValue4 _) nameSetT rfl MM.out t rfl HM.out HMT.out ?_)
      go_roundw
      case rel =>
        obtain ⟨m, h1, h2⟩ := fresh_step HIN.out HB.out
        have h3 := bigger_lt HIN.out (size_quote t)
        have h4 := HZ.out
        exact ⟨by first | rfl | trivial, t ++ ⟨#[39]⟩, by first | rfl | trivial, Lib.hid ⟨m, h2, HRR.out.trans h1, by rw [size_quote]; omega⟩⟩
      case measure => exact bigger_lt HIN.out (size_quote t)

set_option maxRecDepth 100000 in
theorem implFresh (l : List ByteArray) (s : ByteArray) (hn : l.length ≤ 1048576) (hl : ∀ x ∈ l, x.size ≤ maxLen) (hs : s.size ≤ 1048576) (w : World) (v : Value) (h : Rd w (.slice 1 (strs l)) [v]) :
    Calls Try.prog 28 #[.string s, v] w fun e w' => e = .returned (.string (freshN l l.length (s ++ ⟨#[39]⟩))) ∧ Below w.heap.size w w' := by
  have CAL := Lib.hid (implAdd l hn hl w (w.alloc (.map #[] 0)) w.heap.size v h ((Below.refl _ _).alloc (Nat.le_refl _) _) (Nat.le_refl _) ⟨_, hasSet_new w _ _ _, fun _ => rfl⟩)
  have hmm := @run_makeMap Try.prog
  clear h
  go_enter Try.func28, Try.ntmps28
  go_wp2_with fail
  refine CAL.out.mono ?_
  rintro e w1 ⟨rfl, hset, hb⟩
  have CAL2 := Lib.hid (implFresh1 l hn s hs w1 _ _ hset)
  have HB := Lib.hid hb
  clear hset hb CAL
  go_wp2_with fail
  refine CAL2.out.mono ?_
  rintro e w2 ⟨rfl, rfl⟩
  go_wp2
  go_ret
  exact ⟨rfl, HB.out⟩

end Go.Proofs.Ytgogfloppnhceaa
