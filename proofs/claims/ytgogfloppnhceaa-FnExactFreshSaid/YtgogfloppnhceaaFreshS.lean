/- The reference's 'Fresh' on lists of names as data; no condition. -/
import Derived.Test.YtgogfloppnhceaaFamStr
namespace Go.Proofs.Ytgogfloppnhceaa
open Go.RowKit
set_option linter.unusedVariables false
set_option linter.unusedSimpArgs false

def strs (l : List ByteArray) : List D := l.map D.str
theorem strs_length (l : List ByteArray) : (strs l).length = l.length := by simp [strs]
def isIn (l : List ByteArray) (s : ByteArray) : Bool := l.any fun x => x.toList == s.toList
theorem isIn_drop {l : List ByteArray} {s : ByteArray} {j : Nat} (hj : j < l.length) : isIn (l.drop j) s = ((l[j].toList == s.toList) || isIn (l.drop (j + 1)) s) := by
  rw [List.drop_eq_getElem_cons hj]; rfl
def bigger (l : List ByteArray) (s : ByteArray) : Nat := (l.filter fun x => decide (s.size ≤ x.size)).length
theorem bigger_le (l : List ByteArray) (s : ByteArray) : bigger l s ≤ l.length := List.length_filter_le _ _
theorem size_toList (s : ByteArray) : s.size = s.toList.length := by rw [ByteArray.toList_eq]; rfl
theorem bigger_lt {l : List ByteArray} {s t : ByteArray} (h : isIn l s = true) (ht : t.size = s.size + 1) : bigger l t < bigger l s := by
  induction l with
  | nil => simp [isIn] at h
  | cons x l ih =>
    have mono : bigger l t ≤ bigger l s := by
      clear ih h
      induction l with
      | nil => simp [bigger]
      | cons y l ih =>
        simp only [bigger, List.filter_cons] at ih ⊢
        by_cases h1 : t.size ≤ y.size
        · rw [if_pos (by simpa using h1), if_pos (by simp; omega)]
          simp only [List.length_cons]
          omega
        · rw [if_neg (by simpa using h1)]
          split
          · simp only [List.length_cons]; omega
          · exact ih
    simp only [bigger, List.filter_cons] at ih mono ⊢
    simp only [isIn, List.any_cons, Bool.or_eq_true] at h
    rcases h with h | h
    · have e : x.size = s.size := by rw [size_toList, size_toList, beq_iff_eq.1 h]
      rw [if_neg (by simp; omega), if_pos (by simp; omega)]
      simp only [List.length_cons]
      omega
    · have i := ih h
      by_cases h1 : t.size ≤ x.size
      · rw [if_pos (by simpa using h1), if_pos (by simp; omega)]
        simp only [List.length_cons]
        omega
      · rw [if_neg (by simpa using h1)]
        split
        · simp only [List.length_cons]; omega
        · exact i
def freshN (l : List ByteArray) : Nat → ByteArray → ByteArray
  | 0, s => s
  | n + 1, s => if isIn l s = true then freshN l n (s ++ ⟨#[39]⟩) else s
theorem size_quote (s : ByteArray) : (s ++ ⟨#[39]⟩ : ByteArray).size = s.size + 1 := by rw [ByteArray.size_append]; rfl
theorem fresh_step {l : List ByteArray} {n : Nat} {s : ByteArray} (h : isIn l s = true) (hn : bigger l s ≤ n) : ∃ m, freshN l n s = freshN l m (s ++ ⟨#[39]⟩) ∧ bigger l (s ++ ⟨#[39]⟩) ≤ m := by
  have := bigger_lt h (size_quote s)
  cases n with
  | zero => omega
  | succ n => exact ⟨n, by rw [freshN, if_pos h], by omega⟩
theorem fresh_end {l : List ByteArray} {n : Nat} {s : ByteArray} (h : isIn l s = false) : freshN l n s = s := by
  cases n with
  | zero => rfl
  | succ n => rw [freshN, if_neg (by rw [h]; decide)]
def strOf : Value → ByteArray
  | .string s => s
  | _ => ⟨#[]⟩

set_option maxRecDepth 100000 in
theorem specIn (l : List ByteArray) (s : ByteArray) (hn : l.length ≤ 140737488351232) (w : World) (v : Value) (h : Rd w (.slice 1 (strs l)) [v]) :
    Calls Try.prog 57 #[v, .string s] w fun e w' => e = .returned (.bool (isIn l s)) ∧ w' = w := by
  obtain ⟨A, c, rfl, _, _, hr⟩ := rd_slice1 h
  rw [strs_length]
  have H := Lib.hid hr
  clear h hr
  go_enter Try.func57, Try.ntmps57
  go_wp2_with fail
  go_loopw [5] (fun i wr => ∃ j : Nat, j ≤ l.length ∧ i = .int .i64 j ∧ wr = w ∧ Hid (isIn l s = isIn (l.drop j) s)) (fun i _ => l.length - (intOf i).toNat)
  case atStart => exact ⟨0, Nat.zero_le _, rfl, rfl, rfl⟩
  case round =>
    obtain ⟨j, hj, rfl, rfl, hf⟩ := hrel
    by_cases hlt : j < l.length
    · obtain ⟨b, off, cs, rfl, hcl, hrd, hc⟩ := H.out.get (i := j) (x := D.str l[j]) (by simp [strs, List.getElem?_eq_getElem hlt])
      obtain rfl := rd_str.1 hrd
      have c0 : wr.cell? ⟨b, off + j, none⟩ = some (.string l[j]) := by simpa using hc 0 _ rfl
      have SM := Lib.hid (hf.out.trans (isIn_drop hlt))
      clear hc hcl hrd hf H
      generalize l[j] = x at *
      cases he : (x.toList == s.toList)
      · go_wp2
        go_roundw
        case rel => exact ⟨j + 1, by omega, by go_num, by first | rfl | trivial, by have := SM.out; rw [he] at this; exact this⟩
        case measure => simp [intOf]; omega
      · go_wp2
        go_ret
        exact ⟨ret_bool (by have := SM.out; rw [he] at this; exact this.symm), rfl⟩
    · obtain rfl : j = l.length := by omega
      have HF := Lib.hid hf
      clear hf H
      go_wp2
      go_ret
      have h1 := HF.out.out
      rw [List.drop_length] at h1
      exact ⟨ret_bool (by rw [h1]; rfl), rfl⟩

set_option maxRecDepth 100000 in
theorem specFresh (l : List ByteArray) (s : ByteArray) (hn : l.length ≤ 1048576) (hs : s.size ≤ 1048576) (w : World) (v : Value) (h : Rd w (.slice 1 (strs l)) [v]) :
    Calls Try.prog 26 #[.string s, v] w fun e w' => e = .returned (.string (freshN l l.length (s ++ ⟨#[39]⟩))) ∧ Below w.heap.size w w' := by
  have H := Lib.hid h
  obtain ⟨R, hR⟩ : ∃ R, R = freshN l l.length (s ++ ⟨#[39]⟩) := ⟨_, rfl⟩
  rw [← hR]
  have HR := Lib.hid hR
  clear h hR
  go_enter Try.func26, Try.ntmps26
  go_wp2_with fail
  go_loopw [5] (fun i wr => wr = w ∧ ∃ t : ByteArray, i = .string t ∧ Hid (∃ n, bigger l t ≤ n ∧ R = freshN l n t ∧ t.size + bigger l t ≤ 2097153)) (fun i _ => bigger l (strOf i))
  case atStart => exact ⟨rfl, _, rfl, Lib.hid ⟨l.length, bigger_le _ _, HR.out, by have := bigger_le l (s ++ ⟨#[39]⟩); rw [size_quote]; omega⟩⟩
  case round =>
    obtain ⟨rfl, t, rfl, hrel⟩ := hrel
    obtain ⟨n, hb, hr, hz⟩ := hrel.out
    have CAL := Lib.hid (specIn l t (by omega) wr v H.out)
    have HB := Lib.hid hb
    have HRR := Lib.hid hr
    have hz' : t.size ≤ 2097153 := by omega
    have HZ := Lib.hid hz
    clear hrel hb hr hz H HR
    cases hin : isIn l t
    · rw [hin] at CAL
      have HIN := Lib.hid hin
      clear hin
      go_wp2_with fail
      refine CAL.out.mono ?_
      rintro e w1 ⟨rfl, rfl⟩
      go_wp2
      go_ret
      exact ⟨by rw [HRR.out, fresh_end HIN.out]; rfl, Below.refl _ _⟩
    · rw [hin] at CAL
      have HIN := Lib.hid hin
      clear hin
      go_wp2_with fail
      refine CAL.out.mono ?_
      rintro e w1 ⟨rfl, rfl⟩
      go_wp2
      go_roundw
      case rel =>
        obtain ⟨m, h1, h2⟩ := fresh_step HIN.out HB.out
        have h3 := bigger_lt HIN.out (size_quote t)
        have h4 := HZ.out
        exact ⟨by first | rfl | trivial, t ++ ⟨#[39]⟩, by first | rfl | trivial, Lib.hid ⟨m, h2, HRR.out.trans h1, by rw [size_quote]; omega⟩⟩
      case measure => exact bigger_lt HIN.out (size_quote t)

end Go.Proofs.Ytgogfloppnhceaa
