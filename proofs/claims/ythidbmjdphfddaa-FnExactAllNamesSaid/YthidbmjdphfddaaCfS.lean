/- The reference's small functions over lists of names, and its shape of a core term; no condition. -/
import Derived.Test.YthidbmjdphfddaaCfN
import Derived.Lib.QuietBelow
import Derived.BigQuiet
namespace Go.Proofs.Ythidbmjdphfddaa
open Go.RowKit
set_option linter.unusedVariables false
set_option linter.unusedSimpArgs false

set_option maxRecDepth 100000 in
theorem specIn (l : List ByteArray) (s : ByteArray) (hn : l.length ≤ 140737488351232) (w : World) (v : Value) (h : Rd w (.slice 1 (strs l)) [v]) :
    Calls Try.prog 151 #[v, .string s] w fun e w' => e = .returned (.bool (isIn l s)) ∧ w' = w := by
  obtain ⟨A, c, rfl, _, _, hr⟩ := rd_slice1 h
  rw [strs_length]
  have H := Lib.hid hr
  clear h hr
  go_enter Try.func151, Try.ntmps151
  go_wp2_with fail
  go_loopw [5] (fun i wr => ∃ j : Nat, j ≤ l.length ∧ i = .int .i64 j ∧ wr = w ∧ Hid (isIn l s = isIn (l.drop j) s)) (fun i _ => l.length - (intOf i).toNat)
  case atStart => exact ⟨0, Nat.zero_le _, rfl, rfl, rfl⟩
  case round =>
    obtain ⟨j, hj, rfl, rfl, hf⟩ := hrel
    by_cases hlt : j < l.length
    · obtain ⟨b, off, cs, rfl, hcl, hrd, hc⟩ := H.out.get (i := j) (x := D.str l[j]) (by simp [strs, List.getElem?_eq_getElem hlt])
      obtain rfl := rd_str.1 hrd
      have c0 : wr.cell? ⟨b, off + j, none⟩ = some (.string l[j]) := by simpa using hc 0 _ rfl
      have SM := Lib.hid (hf.out.trans (isIn_drop hlt))
      clear hc hcl hrd hf H
      generalize l[j] = x at *
      cases he : (x.toList == s.toList)
      · go_wp2
        go_roundw
        case rel => exact ⟨j + 1, by omega, by go_num, by first | rfl | trivial, by have := SM.out; rw [he] at this; exact this⟩
        case measure => simp [intOf]; omega
      · go_wp2
        go_ret
        exact ⟨ret_bool (by have := SM.out; rw [he] at this; exact this.symm), rfl⟩
    · obtain rfl : j = l.length := by omega
      have HF := Lib.hid hf
      clear hf H
      go_wp2
      go_ret
      have h1 := HF.out.out
      rw [List.drop_length] at h1
      exact ⟨ret_bool (by rw [h1]; rfl), rfl⟩


theorem drew_below {B : Nat} {w w1 : World} (h : Below B w w1) (n : Nat) : Below B w (w1.drewN n) := drewN_below h n
set_option maxRecDepth 100000 in
theorem specTwice (l : List ByteArray) (hn : l.length ≤ 140737488351232) (w : World) (v : Value) (h : Rd w (.slice 1 (strs l)) [v]) :
    Calls Try.prog 179 #[v] w fun e w' => e = .returned (.bool (dupF [] l)) ∧ Below w.heap.size w w' := by
  obtain ⟨A, c, rfl, _, _, hr⟩ := open_strs h
  have H := Lib.hid hr
  clear h hr
  obtain ⟨R, hR⟩ : ∃ R, R = dupF [] l := ⟨_, rfl⟩
  rw [← hR]
  have HR := Lib.hid hR
  clear hR
  go_enter Try.func179, Try.ntmps179
  go_wp2_with fail
  go_loopw [3] (fun i wr => ∃ j : Nat, j ≤ l.length ∧ i = .int .i64 j ∧ Hid (R = dupF (l.take j) (l.drop j) ∧ Below w.heap.size w wr)) (fun i _ => l.length - (intOf i).toNat)
  case atStart => exact ⟨0, Nat.zero_le _, rfl, Lib.hid ⟨by simpa using HR.out, Below.refl _ _⟩⟩
  case round =>
    obtain ⟨j, hj, rfl, hrel⟩ := hrel
    have RL := Lib.hid hrel.out
    clear hrel
    by_cases hlt : j < l.length
    · obtain ⟨b, off, rfl, e0⟩ := strs_get (H.out.below (by omega) RL.out.2) hlt
      have ST := Lib.hid (dupF_step hlt)
      obtain ⟨x, hx⟩ : ∃ x, x = l[j] := ⟨_, rfl⟩
      rw [← hx] at e0
      have HX := Lib.hid hx
      have E0 := Lib.hid e0
      clear e0 hx
      have i0 : (0 : Int) ≤ (j : Int) := Int.natCast_nonneg _
      have i1 : (j : Int) < (l.length : Int) := by omega
      obtain ⟨wo, hwo⟩ : ∃ wo, wo = wr := ⟨_, rfl⟩
      rw [← hwo] at RL E0 ⊢
      clear hwo
      go_wp2_with fail
      go_loopw [4] (fun i wr => ∃ k : Nat, k ≤ j ∧ i = .int .i64 k ∧ Hid (isIn (l.take j) x = isIn ((l.take j).drop k) x ∧ Below wo.heap.size wo wr)) (fun i _ => j - (intOf i).toNat)
      case atStart => exact ⟨0, Nat.zero_le _, rfl, Lib.hid ⟨by simp, Below.refl _ _⟩⟩
      case round =>
        obtain ⟨k, hk, rfl, hrel⟩ := hrel
        have RI := Lib.hid hrel.out
        clear hrel
        by_cases hlk : k < j
        · have hlk' : k < l.length := by omega
          obtain ⟨b', off', he, e1⟩ := strs_get (H.out.below (by omega) (RL.out.2.trans (RI.out.2.mono RL.out.2.size))) hlk'
          injection he with he
          simp only [Addr.mk.injEq] at he
          obtain ⟨rfl, rfl, _⟩ := he
          have e0 := cell_below RI.out.2 E0.out
          have SI := Lib.hid (isIn_drop (l := l.take j) (s := x) (j := k) (by simp; omega))
          have GE := Lib.hid (List.getElem_take (xs := l) (i := k) (j := j) (h := by simp; omega))
          obtain ⟨y, hy⟩ : ∃ y, y = l[k] := ⟨_, rfl⟩
          rw [← hy] at e1
          have HY := Lib.hid hy
          clear hy
          have k0 : (0 : Int) ≤ (k : Int) := Int.natCast_nonneg _
          have k1 : (k : Int) < (l.length : Int) := by omega
          have k2 : (k : Int) < (j : Int) := by omega
          cases he : (x.toList == y.toList)
          · have HE := Lib.hid he
            go_wp2_with fail
            go_quiet (fail)
            go_wp2
            go_roundw
            case rel =>
              refine ⟨k + 1, by omega, by go_num, Lib.hid ⟨?_, drewN_below RI.out.2 _⟩⟩
              rw [RI.out.1, SI.out, GE.out, ← HY.out]
              have := HE.out
              rw [BEq.comm] at this
              rw [this]; rfl
            case measure => simp [intOf]; omega
          · have HE := Lib.hid he
            go_wp2_with fail
            go_quiet (fail)
            go_wp2
            go_ret
            refine ⟨ret_bool ?_, drewN_below (RL.out.2.trans (RI.out.2.mono RL.out.2.size)) _⟩
            rw [RL.out.1, ST.out, ← HX.out, RI.out.1, SI.out, GE.out, ← HY.out]
            have := HE.out
            rw [BEq.comm] at this
            rw [this]; rfl
        · obtain rfl : k = j := by omega
          have hn2 : isIn (l.take k) x = false := by
            rw [RI.out.1, List.drop_of_length_le (by simp; omega)]; rfl
          have NI := Lib.hid hn2
          clear hn2
          go_wp2
          go_roundw
          case rel => exact ⟨k + 1, by omega, by go_num, Lib.hid ⟨by rw [RL.out.1, ST.out, ← HX.out, NI.out]; rfl, RL.out.2.trans (RI.out.2.mono RL.out.2.size)⟩⟩
          case measure => simp [intOf]; omega
    · obtain rfl : j = l.length := by omega
      go_wp2_with fail
      go_ret
      refine ⟨ret_bool ?_, RL.out.2⟩
      rw [RL.out.1, List.drop_length, dupF]

set_option maxRecDepth 100000 in
theorem specNamesOk (l : List ByteArray) (hn : l.length ≤ 140737488351232) (w : World) (v : Value) (h : Rd w (.slice 1 (strs l)) [v]) :
    Calls Try.prog 178 #[v] w fun e w' => e = .returned (.bool (okNames l)) ∧ Below w.heap.size w w' := by
  have CT := Lib.hid (specTwice l hn w v h)
  obtain ⟨A, c, rfl, _, _, hr⟩ := open_strs h
  have H := Lib.hid hr
  clear h hr
  obtain ⟨R, hR⟩ : ∃ R, R = okNames l := ⟨_, rfl⟩
  rw [← hR]
  have HR := Lib.hid hR
  clear hR
  go_enter Try.func178, Try.ntmps178
  go_wp2_with fail
  go_loopw [3] (fun i wr => ∃ j : Nat, j ≤ l.length ∧ i = .int .i64 j ∧ wr = w ∧ Hid (fullN l = fullN (l.drop j))) (fun i _ => l.length - (intOf i).toNat)
  case atStart => exact ⟨0, Nat.zero_le _, rfl, rfl, Lib.hid (by simp)⟩
  case round =>
    obtain ⟨j, hj, rfl, rfl, hrel⟩ := hrel
    have RL := Lib.hid hrel.out
    clear hrel
    by_cases hlt : j < l.length
    · obtain ⟨b, off, rfl, e0⟩ := strs_get H.out hlt
      have ST := Lib.hid (fullN_step hlt)
      obtain ⟨x, hx⟩ : ∃ x, x = l[j] := ⟨_, rfl⟩
      rw [← hx] at e0
      have HX := Lib.hid hx
      clear hx
      cases he : x.toList.isEmpty
      rotate_left
      · have HE := Lib.hid he
        go_wp2_with fail
        go_ret
        refine ⟨ret_bool ?_, Below.refl _ _⟩
        rw [HR.out, okNames, RL.out, ST.out, ← HX.out, HE.out]
        rfl
      · have HE := Lib.hid he
        go_wp2_with fail
        go_roundw
        case rel => exact ⟨j + 1, by omega, by go_num, by first | rfl | trivial, Lib.hid (by rw [RL.out, ST.out, ← HX.out, HE.out]; rfl)⟩
        case measure => simp [intOf]; omega
    · obtain rfl : j = l.length := by omega
      have hf : fullN l = true := by rw [RL.out, List.drop_length]; rfl
      have HF := Lib.hid hf
      clear hf
      go_wp2_with fail
      refine CT.out.mono ?_
      rintro e w1 ⟨rfl, hb⟩
      have HB := Lib.hid hb
      clear hb
      go_wp2
      go_ret
      exact ⟨ret_bool (by rw [HR.out, okNames, HF.out]; simp), HB.out⟩

/-- A text among others. -/
theorem any_eq {x : List UInt8} {s : ByteArray} : (s.toList == x) = (x == s.toList) := BEq.comm
set_option maxRecDepth 100000 in
theorem specPrim (s : ByteArray) (w : World) : Calls Try.prog 180 #[.string s] w fun e w' => e = .returned (.int .i64 (primN s)) ∧ w' = w := by
  obtain ⟨R, hR⟩ : ∃ R, R = primN s := ⟨_, rfl⟩
  rw [← hR]
  have HR := Lib.hid hR
  clear hR
  go_enter Try.func180, Try.ntmps180
  go_wp2_with fail
  all_goals go_ret
  all_goals have hr := HR.out
  all_goals (simp_all [primN, primTwo, primOne]; done)

end Go.Proofs.Ythidbmjdphfddaa
