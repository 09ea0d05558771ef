/- The program's spelling of a text between marks; no condition. -/
import Derived.Test.YtifmnijdaboenaaDoorSpB
import Derived.Test.YtifmnijdaboenaaDoorShl
import Derived.Test.YtifmnijdaboenaaDoorIxL
namespace Go.Proofs.YtifmnijdaboenaaDoor
open Go Go.RowKit
set_option linter.unusedVariables false
set_option linter.unusedSimpArgs false

theorem spb_WriteByte (B b : Nat) (bs : List Value) (c : Int) (w : World) (h : Lib.IsBuilder 80 5 B b bs w) (hlen : bs.length + 1 ≤ 140737488355328) (hBw : B ≤ w.heap.size) :
    Calls Tryd.prog 82 #[.pointer (some ⟨b, 0, none⟩), .int .u8 c] w fun e w' => e = .returned .nilIface ∧ (Lib.BuilderAt 80 5 B b (.pointer (some ⟨b, 0, none⟩)) (bs ++ [.int .u8 c]) w' ∧ Below B w w') := Any.Builder_WriteByte shlLays_n167 shlExtra B b bs c w h hlen hBw
theorem spb_WriteString (B b : Nat) (bs : List Value) (s : ByteArray) (w : World) (h : Lib.IsBuilder 80 5 B b bs w) (hlen : bs.length + s.size ≤ 140737488355328) (hBw : B ≤ w.heap.size) :
    Calls Tryd.prog 68 #[.pointer (some ⟨b, 0, none⟩), .string s] w fun e w' => e = .returned (.tuple #[.int .i64 s.size, .nilIface]) ∧ (Lib.BuilderAt 80 5 B b (.pointer (some ⟨b, 0, none⟩)) (bs ++ Lib.strCells s) w' ∧ Below B w w') := Any.Builder_WriteString shlLays_n166 shlExtra B b bs s w h hlen hBw
theorem spb_String (B b : Nat) (l : List UInt8) (w : World) (h : Lib.IsBuilder 80 5 B b (Lib.byteCells l) w) (hBw : B ≤ w.heap.size) :
    Calls Tryd.prog 69 #[.pointer (some ⟨b, 0, none⟩)] w fun e w' => e = .returned (.string ⟨l.toArray⟩) ∧ Below B w w' := Any.Builder_String_any shlLays_n169 shlExtra B b l w h hBw

set_option maxRecDepth 100000 in
set_option maxHeartbeats 2000000 in
theorem implSpellChar (m : UInt8) {t : ByteArray} {j : Nat} (h : j < t.size) (w : World) :
    Calls Tryd.prog 83 #[.int .u8 (cb t j), .int .u8 m.toNat] w fun e w' => e = .returned (.string ⟨(esc1 m (t[j]'h)).toArray⟩) ∧ Below w.heap.size w w' := by
  obtain ⟨mi, hmi⟩ : ∃ mi : Int, mi = (m.toNat : Int) := ⟨_, rfl⟩
  have hcb := cb_at h
  rw [← hmi]
  go_enter Tryd.func83, Tryd.ntmps83
  by_cases h10 : cb t j = 10
  · rw [esc1_ten m h h10]
    clear hcb
    go_wp2
    go_ret
    exact ⟨rfl, Below.refl _ _⟩
  · have b10 : (cb t j == 10) = false := by simpa using h10
    by_cases h92 : cb t j = 92 ∨ cb t j = mi
    · rw [esc1_two m h h10 (by rw [← hmi]; exact h92)]
      have BN := Lib.hid (by_new w [92, t[j]'h] (by simp [maxLen]))
      have CE : Lib.byteCells [92, t[j]'h] = [.int .u8 92, .int .u8 (cb t j)] := by rw [← hcb]; rfl
      rw [CE] at BN
      have hcv := BN.out.conv
      have hcv' : (convert 54 9 (.slice (some ⟨w.heap.size, 0, none⟩) 2 2)).run Tryd.prog (w.alloc (.cells #[.int .u8 92, .int .u8 (cb t j)] 5)) = .ok (.string ⟨([92, t[j]'h] : List UInt8).toArray⟩) (w.alloc (.cells #[.int .u8 92, .int .u8 (cb t j)] 5)) := hcv
      clear hcb hcv CE
      generalize (⟨([92, t[j]'h] : List UInt8).toArray⟩ : ByteArray) = z at *
      rcases (show cb t j = 92 ∨ (¬ cb t j = 92 ∧ cb t j = mi) by omega) with h92 | ⟨h92, hm⟩
      · rw [h92] at hcv'
        go_wp2
        go_ret
        exact ⟨rfl, below_alloc1 _ _⟩
      · have b92 : (cb t j == 92) = false := by simpa using h92
        have hcm := hcv'
        rw [hm] at hcm
        clear hmi
        go_wp2
        go_ret
        exact ⟨rfl, below_alloc1 _ _⟩
    · have h1 : ¬ cb t j = 92 := fun h => h92 (.inl h)
      have h2 : ¬ cb t j = mi := fun h => h92 (.inr h)
      have b1 : (cb t j == 92) = false := by simpa using h1
      have b2 : (cb t j == mi) = false := by simpa using h2
      rw [esc1_one m h h10 h1 (by rw [← hmi]; exact h2)]
      have BN := Lib.hid (by_new w [t[j]'h] (by simp [maxLen]))
      have CE : Lib.byteCells [t[j]'h] = [.int .u8 (cb t j)] := by rw [← hcb]; rfl
      rw [CE] at BN
      have hcv : (convert 54 9 (.slice (some ⟨w.heap.size, 0, none⟩) 1 1)).run Tryd.prog (w.alloc (.cells #[.int .u8 (cb t j)] 5)) = .ok (.string ⟨([t[j]'h] : List UInt8).toArray⟩) (w.alloc (.cells #[.int .u8 (cb t j)] 5)) := BN.out.conv
      clear hcb CE
      generalize (⟨([t[j]'h] : List UInt8).toArray⟩ : ByteArray) = z at *
      go_wp2
      go_ret
      exact ⟨rfl, below_alloc1 _ _⟩

theorem bl_at {T e : TypeId} {B b : Nat} {p : Value} {bs : List Value} {w w' : World} (h : Lib.BuilderAt T e B b p bs w) (hb : Below w.heap.size w w') : Lib.BuilderAt T e B b p bs w' := by
  obtain ⟨hB, v, h1, h2, h3⟩ := h
  exact ⟨hB, v, blk_below h1 hb, h2.kept (grownBy_below hb none) (by cases v.ownBlock <;> simp), h3⟩
/-- A builder of this call's own that holds these bytes. -/
structure Bl (w0 w : World) (l : List UInt8) : Prop where
  below : Below w0.heap.size w0 w
  is : Lib.IsBuilder 80 5 w0.heap.size w0.heap.size (Lib.byteCells l) w
set_option maxRecDepth 100000 in
set_option maxHeartbeats 4000000 in
theorem implSpellQuoted (t : ByteArray) (ht : t.size ≤ 1048576) (m : UInt8) (w : World) :
    Calls Tryd.prog 66 #[.string t, .int .u8 m.toNat] w fun e w' => e = .returned (.string ⟨(escL m t.data.toList).toArray⟩) ∧ Below w.heap.size w w' := by
  have B0 : Hid (Bl w (w.alloc (.cells #[.pointer none, .slice none 0 0] 80)) []) := ⟨below_alloc1 _ _, Lib.fresh_isBuilder _ _ w⟩
  have WB : Hid (∀ (wr : World) (l : List UInt8), Bl w wr l → l.length ≤ 10000000 → Calls Tryd.prog 82 #[.pointer (some ⟨w.heap.size, 0, none⟩), .int .u8 m.toNat] wr fun e w' => e = .returned .nilIface ∧ Bl w w' (l ++ [m])) := by
    show ∀ wr l, _
    intro wr l h hl
    refine (spb_WriteByte w.heap.size w.heap.size _ _ wr h.is (by rw [Lib.byteCells_length]; omega) h.below.size).mono ?_
    rintro e w1 ⟨rfl, h1, h2⟩
    exact ⟨rfl, h.below.trans h2, by rw [Lib.byteCells_append]; exact Or.inr h1⟩
  have WS : Hid (∀ (wr : World) (l y : List UInt8), Bl w wr l → l.length + y.length ≤ 10000000 → Calls Tryd.prog 68 #[.pointer (some ⟨w.heap.size, 0, none⟩), .string ⟨y.toArray⟩] wr fun e w' => e = .returned (.tuple #[.int .i64 y.length, .nilIface]) ∧ Bl w w' (l ++ y)) := by
    show ∀ wr l y, _
    intro wr l y h hl
    refine (spb_WriteString w.heap.size w.heap.size _ ⟨y.toArray⟩ wr h.is (by rw [Lib.byteCells_length, size_mk]; omega) h.below.size).mono ?_
    rintro e w1 ⟨rfl, h1, h2⟩
    exact ⟨by rw [size_mk], h.below.trans h2, by rw [Lib.byteCells_append]; exact Or.inr h1⟩
  have SC := Lib.hid (fun (j : Nat) (h : j < t.size) => implSpellChar m h)
  obtain ⟨mi, hmi⟩ : ∃ mi : Int, mi = (m.toNat : Int) := ⟨_, rfl⟩
  rw [← hmi] at WB SC ⊢
  clear hmi
  go_enter Tryd.func66, Tryd.ntmps66
  go_wp2_with fail
  refine (WB.out _ _ B0.out (by simp)).mono ?_
  rintro e w1 ⟨rfl, hb⟩
  have B1 : Hid (Bl w w1 (escP m t 0)) := Lib.hid hb
  clear hb B0
  go_wp2_with fail
  go_loopw [6] (fun i wr => ∃ j : Nat, i = .int .i64 j ∧ j ≤ t.size ∧ Hid (Bl w wr (escP m t j))) (fun i _ => t.size - (intOf i).toNat)
  case atStart => exact ⟨0, rfl, Nat.zero_le _, B1⟩
  case round =>
    obtain ⟨j, rfl, hj, hb⟩ := hrel
    clear B1
    have HL := Lib.hid (escP_len m t j)
    by_cases hlt : j < t.size
    · have hc := cb_at hlt
      have hwj : IntKind.i64.wrap ((j : Int) + 1) = (j : Int) + 1 := i64_in (by omega) (by omega)
      have HS := Lib.hid (escP_succ m t j hlt)
      have HE := Lib.hid (esc1_len m (t[j]'hlt))
      have SCJ := Lib.hid (SC.out j hlt)
      generalize esc1 m (t[j]'hlt) = y at *
      go_wp2_with (first | (go_at_call 83; refine (SCJ.out _).mono ?_; rintro e w2 ⟨rfl, hb2⟩; have HB2 : Hid (Bl w w2 (escP m t j)) := ⟨hb.out.below.trans (hb2.mono hb.out.below.size), hb.out.is.imp (fun h => bl_at h hb2) (fun h => bl_at h hb2)⟩; clear hb2) | (go_at_call 68; refine (WS.out _ _ _ HB2.out (by have := HL.out; have := HE.out; omega)).mono ?_; rintro e w3 ⟨rfl, hb3⟩; rw [← HS.out] at hb3; have HB3 := Lib.hid hb3; clear hb3))
      go_roundw
      case rel => exact ⟨j + 1, by go_num, by omega, HB3⟩
      case measure => simp [intOf]; omega
    · have HE := Lib.hid (escP_all m t j hlt)
      go_wp2_with fail
      refine (WB.out _ _ hb.out (by have := HL.out; omega)).mono ?_
      rintro e w2 ⟨rfl, hb2⟩
      rw [HE.out] at hb2
      have HB2 := Lib.hid hb2
      clear hb2
      go_wp2_with fail
      refine (spb_String _ _ _ _ HB2.out.is HB2.out.below.size).mono ?_
      rintro e w3 ⟨rfl, hb3⟩
      have HB3 := Lib.hid (HB2.out.below.trans hb3)
      clear hb3
      go_wp2
      go_ret
      exact ⟨rfl, HB3.out⟩

end Go.Proofs.YtifmnijdaboenaaDoor
