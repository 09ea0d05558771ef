/- The program's 'CoreFault': the closure that counts; no condition. -/
import Derived.Test.YthidbmjdphfddaaCfI7
namespace Go.Proofs.Ythidbmjdphfddaa
open Go Go.RowKit Go.Sort
set_option linter.unusedVariables false
set_option linter.unusedSimpArgs false

/-- What the world holds while the program counts: the count in block C, the depth in the next. -/
structure Tc (W0 : World) (c m : Int) (w : World) : Prop where
  below : Below W0.heap.size W0 w
  cnt : w.heap[W0.heap.size]? = some (.cells #[.int .i64 c] 3 (0, 0))
  dp : w.heap[W0.heap.size + 1]? = some (.cells #[.int .i64 m] 3 (0, 0))
theorem Tc.setC {W0 w : World} {c m : Int} (h : Tc W0 c m w) (c' : Int) : Tc W0 c' m (w.setCell ⟨W0.heap.size, 0, none⟩ (.int .i64 c')) :=
  ⟨h.below.setCell (p := ⟨W0.heap.size, 0, none⟩) (Nat.le_refl _) _, blk_set h.cnt 0 _, blk_far h.dp (p := ⟨W0.heap.size, 0, none⟩) (by simp) _⟩
theorem Tc.setM {W0 w : World} {c m : Int} (h : Tc W0 c m w) (m' : Int) : Tc W0 c m' (w.setCell ⟨W0.heap.size + 1, 0, none⟩ (.int .i64 m')) :=
  ⟨h.below.setCell (p := ⟨W0.heap.size + 1, 0, none⟩) (Nat.le_succ _) _, blk_far h.cnt (p := ⟨W0.heap.size + 1, 0, none⟩) (by simp) _, blk_set h.dp 0 _⟩
theorem Tc.drew {W0 w : World} {c m : Int} (h : Tc W0 c m w) : Tc W0 c m w.drew := ⟨h.below.drew, h.cnt, h.dp⟩
theorem Tc.c0 {W0 w : World} {c m : Int} (h : Tc W0 c m w) : w.cell? ⟨W0.heap.size, 0, none⟩ = some (.int .i64 c) := (blk_cell h.cnt 0).trans rfl
theorem Tc.c1 {W0 w : World} {c m : Int} (h : Tc W0 c m w) : w.cell? ⟨W0.heap.size + 1, 0, none⟩ = some (.int .i64 m) := (blk_cell h.dp 0).trans rfl
theorem Tc.f0 {W0 w : World} {c m : Int} (h : Tc W0 c m w) : w.frozen? ⟨W0.heap.size, 0, none⟩ = false := blk_frozen h.cnt 0
theorem Tc.f1 {W0 w : World} {c m : Int} (h : Tc W0 c m w) : w.frozen? ⟨W0.heap.size + 1, 0, none⟩ = false := blk_frozen h.dp 0
theorem tc_cast {W0 w : World} {c c' m : Int} (h : c = c') (ht : Tc W0 c m w) : Tc W0 c' m w := h ▸ ht
def binders (k : Int) (nn : Nat) : Nat := if k = 6 ∨ k = 7 then nn else 0
def CntA (W0 : World) (P : Prop) (T : Int) (e : Ending) (w' : World) : Prop := ∃ (r : Bool) (c' m' : Int), e = .returned (.bool r) ∧ Tc W0 c' m' w' ∧ (r = true ↔ P) ∧ (r = true → c' = T ∧ 0 ≤ c' ∧ c' ≤ 20000 ∧ 0 ≤ m' ∧ m' ≤ 1000) ∧ (r = false → 20000 < c' ∨ 1000 < m')

section
variable {W0 w : World} {b off : Nat} {n : ByteArray} {m : Bool} {nl nn nk : Nat} {qs : List Ca} {AL AN AK AA : Option Addr} {cL cN cK cA : Nat}
set_option maxRecDepth 100000 in
set_option maxHeartbeats 1000000 in
theorem closeCnt (k c dm d : Int) (A : At W0 b off k n m nl nn nk qs.length AL AN AK AA cL cN cK cA) (RA : RdRow W0 9 AA (Ca.encs qs)) (T0 : Tc W0 c dm w) (hc0 : 0 ≤ c) (hc1 : c ≤ 20000) (hm0 : 0 ≤ dm) (hm1 : dm ≤ 1000) (hd0 : 0 ≤ d) (hd1 : d ≤ 1001) (hw : nn + altN qs ≤ 2097152) (hq : qs.length ≤ 1048576) :
    Calls Try.prog 122 #[.pointer (some ⟨b, off, none⟩), .int .i64 d, .pointer (some ⟨W0.heap.size, 0, none⟩), .pointer (some ⟨W0.heap.size + 1, 0, none⟩)] w (CntA W0 (c + 1 + binders k nn + altN qs ≤ 20000 ∧ d ≤ 1000) (c + 1 + binders k nn + altN qs)) := by
  have AD := Lib.hid A
  have RR := Lib.hid RA
  have T1 := Lib.hid (T0.setC (c + 1))
  have g0 := T0.c0
  have g1 := T0.f0
  have h0 := A.c0 _ T1.out.below
  have h4 := A.c4 _ T1.out.below
  have h6 := A.c6 _ T1.out.below
  have g2 := T1.out.c0
  have g3 := T1.out.f0
  have HW := Lib.hid hw
  obtain ⟨P, hP⟩ : ∃ P : Prop, P = (c + 1 + (binders k nn : Int) + (altN qs : Int) ≤ 20000 ∧ d ≤ 1000) := ⟨_, rfl⟩
  obtain ⟨T, hT⟩ : ∃ T : Int, T = c + 1 + (binders k nn : Int) + (altN qs : Int) := ⟨_, rfl⟩
  rw [← hP, ← hT]
  have HP := Lib.hid hP
  have HT := Lib.hid hT
  have q1 : IntKind.i64.wrap (c + 1 + (nn : Int)) = c + 1 + (nn : Int) := IntWalk.i64_in _ (by omega)
  clear A RA T0 hw hP hT
  have n0 : (0 : Int) ≤ (nn : Int) := Int.natCast_nonneg _
  by_cases hk : k = 6
  · have k6 : (k == 6) = true := by rw [beq_iff_eq]; omega
    have hbn : binders k nn = nn := by rw [binders, if_pos (by omega)]
    have HBN := Lib.hid hbn
    clear hbn
    have T2 := Lib.hid (T1.out.setC (c + 1 + (nn : Int))).drew
    have m6 := AD.out.c6 _ T2.out.below
    have m0 := AD.out.c0 _ T2.out.below
    go_enter Try.func122, Try.ntmps122
    go_wp2_with fail
    generalize w.setCell ⟨W0.heap.size, 0, none⟩ (.int .i64 (c + 1)) = wg at *
    go_still_tail 7, (by kernel_rfl)
    go_wp2_with fail
    have ST := Lib.hid (tc_cast (show c + 1 + (nn : Int) = c + 1 + (binders k nn : Int) by rw [HBN.out]) T2.out)
    clear g0 g1 g2 g3 h0 h4 h6 q1 k6
    obtain ⟨cB, hcB⟩ : ∃ cB : Int, cB = c + 1 + (binders k nn : Int) := ⟨_, rfl⟩
    rw [← hcB] at HP HT ST
    have b0 : 0 ≤ cB := by omega
    have b1 : cB ≤ 20001 + (nn : Int) := by
      have hbl : binders k nn ≤ nn := by
        unfold binders
        split <;> omega
      omega
    have HK := Lib.hid hk
    clear hcB hk
    go_loopw [34] (fun i wr => ∃ j : Nat, j ≤ qs.length ∧ i = .int .i64 j ∧ Hid (Tc W0 (cB + (altN (qs.take j) : Int)) dm wr)) (fun i _ => qs.length - (intOf i).toNat)
    case atStart => exact ⟨0, Nat.zero_le _, rfl, Lib.hid (by simpa [altN] using ST.out)⟩
    case round =>
      obtain ⟨j, hj, rfl, hrel⟩ := hrel
      have RL := Lib.hid hrel.out
      clear hrel ST
      have c0 := RL.out.c0
      have y0 := RL.out.f0
      have h6 := AD.out.c6 _ RL.out.below
      have t3 := altN_take_le qs j
      have hw := HW.out
      by_cases hlt : j < qs.length
      · obtain ⟨bb, oo, es, rfl, hcl, hrd, hc⟩ := RR.out.get (i := j) (x := qs[j].enc) (by simp [Ca.encs_map, List.getElem?_eq_getElem hlt])
        obtain ⟨nv, bs, rfl, hbl, hnv, _⟩ := Ca.openB hrd
        obtain ⟨An, cn, rfl, _, _, _⟩ := open_strs hnv
        have e1 : wr.cell? ⟨bb, oo + j * 9 + 1, none⟩ = some (.slice An qs[j].names.length cn) := cell_below RL.out.below (hc 1 _ rfl)
        have AS := Lib.hid (altN_step hlt)
        have t4 := altN_take_le qs (j + 1)
        have aso := AS.out
        clear hrd hc hcl hbl hnv
        generalize qs[j].names.length = q at *
        generalize altN (qs.take j) = p at *
        have T3 := Lib.hid (RL.out.setC (cB + (p : Int) + (q : Int))).drew
        have q1 : IntKind.i64.wrap (cB + (p : Int) + (q : Int)) = cB + (p : Int) + (q : Int) := IntWalk.i64_in _ (by omega)
        have i0 : (0 : Int) ≤ (j : Int) := Int.natCast_nonneg _
        have i1 : (j : Int) < (qs.length : Int) := by omega
        clear aso t3 t4 hw
        go_wp2_with fail
        go_still_tail 11, (by kernel_rfl)
        go_wp2_with fail
        go_roundw
        case rel => exact ⟨j + 1, by omega, by go_num, Lib.hid (by rw [AS.out]; have := T3.out; rw [show cB + ((p + q : Nat) : Int) = cB + (p : Int) + (q : Int) by omega]; exact this)⟩
        case measure => simp [intOf]; omega
      · obtain rfl : j = qs.length := by omega
        rw [List.take_length] at *
        have d0 := RL.out.c1
        have d1 := RL.out.f1
        obtain ⟨cE, hcE⟩ : ∃ cE : Int, cE = cB + (altN qs : Int) := ⟨_, rfl⟩
        rw [← hcE] at RL c0 HP HT
        have e0 : 0 ≤ cE := by omega
        have e1 : cE ≤ 4000000 := by omega
        clear hcE t3 hw
        by_cases hdm : d ≤ dm
        · have hmx : max dm d = dm := by omega
          have T5 := Lib.hid (RL.out.setM dm)
          have w0 := T5.out.c0
          have w1 := T5.out.c1
          by_cases hcc : cE ≤ 20000
          · have hcl : decide (cE ≤ 20000) = true := by simpa using hcc
            go_wp2_with fail
            go_ret
            refine ⟨true, cE, dm, ret_bool (by first | rfl | simp; omega), T5.out, iff_of_true rfl ?_, fun _ => ⟨HT.out.symm, by omega, by omega, by omega, by omega⟩, (fun h => by cases h)⟩
            rw [HP.out]
            exact ⟨hcc, by omega⟩
          · go_wp2_with fail
            go_ret
            refine ⟨false, cE, dm, ret_bool (by first | rfl | simp; omega), T5.out, iff_of_false (by decide) ?_, (fun h => by cases h), fun _ => .inl (by omega)⟩
            rw [HP.out]
            rintro ⟨h, _⟩
            omega
        · have hmx : max dm d = d := by omega
          have T5 := Lib.hid (RL.out.setM d)
          have w0 := T5.out.c0
          have w1 := T5.out.c1
          by_cases hcc : cE ≤ 20000
          · by_cases hdd : d ≤ 1000
            · go_wp2_with fail
              go_ret
              refine ⟨true, cE, d, ret_bool (by first | rfl | simp; omega), T5.out, iff_of_true rfl ?_, fun _ => ⟨HT.out.symm, by omega, by omega, by omega, by omega⟩, (fun h => by cases h)⟩
              rw [HP.out]
              exact ⟨hcc, by omega⟩
            · go_wp2_with fail
              go_ret
              refine ⟨false, cE, d, ret_bool (by first | rfl | simp; omega), T5.out, iff_of_false (by decide) ?_, (fun h => by cases h), fun _ => .inr (by omega)⟩
              rw [HP.out]
              rintro ⟨_, h⟩
              omega
          · go_wp2_with fail
            go_ret
            refine ⟨false, cE, d, ret_bool (by first | rfl | simp; omega), T5.out, iff_of_false (by decide) ?_, (fun h => by cases h), fun _ => .inl (by omega)⟩
            rw [HP.out]
            rintro ⟨h, _⟩
            omega
  · by_cases hk' : k = 7
    · have k6 : (k == 6) = false := by rw [beq_eq_false_iff_ne]; omega
      have k7 : (k == 7) = true := by rw [beq_iff_eq]; omega
      have hbn : binders k nn = nn := by rw [binders, if_pos (by omega)]
      have HBN := Lib.hid hbn
      clear hbn
      have T2 := Lib.hid (T1.out.setC (c + 1 + (nn : Int))).drew
      have m6 := AD.out.c6 _ T2.out.below
      have m0 := AD.out.c0 _ T2.out.below
      go_enter Try.func122, Try.ntmps122
      go_wp2_with fail
      generalize w.setCell ⟨W0.heap.size, 0, none⟩ (.int .i64 (c + 1)) = wg at *
      go_still_tail 7, (by kernel_rfl)
      go_wp2_with fail
      have ST := Lib.hid (tc_cast (show c + 1 + (nn : Int) = c + 1 + (binders k nn : Int) by rw [HBN.out]) T2.out)
      clear g0 g1 g2 g3 h0 h4 h6 q1 k6 k7
      obtain ⟨cB, hcB⟩ : ∃ cB : Int, cB = c + 1 + (binders k nn : Int) := ⟨_, rfl⟩
      rw [← hcB] at HP HT ST
      have b0 : 0 ≤ cB := by omega
      have b1 : cB ≤ 20001 + (nn : Int) := by
        have hbl : binders k nn ≤ nn := by
          unfold binders
          split <;> omega
        omega
      have HK := Lib.hid hk
      clear hcB hk hk'
      go_loopw [34] (fun i wr => ∃ j : Nat, j ≤ qs.length ∧ i = .int .i64 j ∧ Hid (Tc W0 (cB + (altN (qs.take j) : Int)) dm wr)) (fun i _ => qs.length - (intOf i).toNat)
      case atStart => exact ⟨0, Nat.zero_le _, rfl, Lib.hid (by simpa [altN] using ST.out)⟩
      case round =>
        obtain ⟨j, hj, rfl, hrel⟩ := hrel
        have RL := Lib.hid hrel.out
        clear hrel ST
        have c0 := RL.out.c0
        have y0 := RL.out.f0
        have h6 := AD.out.c6 _ RL.out.below
        have t3 := altN_take_le qs j
        have hw := HW.out
        by_cases hlt : j < qs.length
        · obtain ⟨bb, oo, es, rfl, hcl, hrd, hc⟩ := RR.out.get (i := j) (x := qs[j].enc) (by simp [Ca.encs_map, List.getElem?_eq_getElem hlt])
          obtain ⟨nv, bs, rfl, hbl, hnv, _⟩ := Ca.openB hrd
          obtain ⟨An, cn, rfl, _, _, _⟩ := open_strs hnv
          have e1 : wr.cell? ⟨bb, oo + j * 9 + 1, none⟩ = some (.slice An qs[j].names.length cn) := cell_below RL.out.below (hc 1 _ rfl)
          have AS := Lib.hid (altN_step hlt)
          have t4 := altN_take_le qs (j + 1)
          have aso := AS.out
          clear hrd hc hcl hbl hnv
          generalize qs[j].names.length = q at *
          generalize altN (qs.take j) = p at *
          have T3 := Lib.hid (RL.out.setC (cB + (p : Int) + (q : Int))).drew
          have q1 : IntKind.i64.wrap (cB + (p : Int) + (q : Int)) = cB + (p : Int) + (q : Int) := IntWalk.i64_in _ (by omega)
          have i0 : (0 : Int) ≤ (j : Int) := Int.natCast_nonneg _
          have i1 : (j : Int) < (qs.length : Int) := by omega
          clear aso t3 t4 hw
          go_wp2_with fail
          go_still_tail 11, (by kernel_rfl)
          go_wp2_with fail
          go_roundw
          case rel => exact ⟨j + 1, by omega, by go_num, Lib.hid (by rw [AS.out]; have := T3.out; rw [show cB + ((p + q : Nat) : Int) = cB + (p : Int) + (q : Int) by omega]; exact this)⟩
          case measure => simp [intOf]; omega
        · obtain rfl : j = qs.length := by omega
          rw [List.take_length] at *
          have d0 := RL.out.c1
          have d1 := RL.out.f1
          obtain ⟨cE, hcE⟩ : ∃ cE : Int, cE = cB + (altN qs : Int) := ⟨_, rfl⟩
          rw [← hcE] at RL c0 HP HT
          have e0 : 0 ≤ cE := by omega
          have e1 : cE ≤ 4000000 := by omega
          clear hcE t3 hw
          by_cases hdm : d ≤ dm
          · have hmx : max dm d = dm := by omega
            have T5 := Lib.hid (RL.out.setM dm)
            have w0 := T5.out.c0
            have w1 := T5.out.c1
            by_cases hcc : cE ≤ 20000
            · have hcl : decide (cE ≤ 20000) = true := by simpa using hcc
              go_wp2_with fail
              go_ret
              refine ⟨true, cE, dm, ret_bool (by first | rfl | simp; omega), T5.out, iff_of_true rfl ?_, fun _ => ⟨HT.out.symm, by omega, by omega, by omega, by omega⟩, (fun h => by cases h)⟩
              rw [HP.out]
              exact ⟨hcc, by omega⟩
            · go_wp2_with fail
              go_ret
              refine ⟨false, cE, dm, ret_bool (by first | rfl | simp; omega), T5.out, iff_of_false (by decide) ?_, (fun h => by cases h), fun _ => .inl (by omega)⟩
              rw [HP.out]
              rintro ⟨h, _⟩
              omega
          · have hmx : max dm d = d := by omega
            have T5 := Lib.hid (RL.out.setM d)
            have w0 := T5.out.c0
            have w1 := T5.out.c1
            by_cases hcc : cE ≤ 20000
            · by_cases hdd : d ≤ 1000
              · go_wp2_with fail
                go_ret
                refine ⟨true, cE, d, ret_bool (by first | rfl | simp; omega), T5.out, iff_of_true rfl ?_, fun _ => ⟨HT.out.symm, by omega, by omega, by omega, by omega⟩, (fun h => by cases h)⟩
                rw [HP.out]
                exact ⟨hcc, by omega⟩
              · go_wp2_with fail
                go_ret
                refine ⟨false, cE, d, ret_bool (by first | rfl | simp; omega), T5.out, iff_of_false (by decide) ?_, (fun h => by cases h), fun _ => .inr (by omega)⟩
                rw [HP.out]
                rintro ⟨_, h⟩
                omega
            · go_wp2_with fail
              go_ret
              refine ⟨false, cE, d, ret_bool (by first | rfl | simp; omega), T5.out, iff_of_false (by decide) ?_, (fun h => by cases h), fun _ => .inl (by omega)⟩
              rw [HP.out]
              rintro ⟨h, _⟩
              omega
    · have k6 : (k == 6) = false := by rw [beq_eq_false_iff_ne]; omega
      have k7 : (k == 7) = false := by rw [beq_eq_false_iff_ne]; omega
      have hbn : binders k nn = 0 := by rw [binders, if_neg (by omega)]
      have HBN := Lib.hid hbn
      clear hbn
      go_enter Try.func122, Try.ntmps122
      go_wp2_with fail
      have ST := Lib.hid (tc_cast (show c + 1 = c + 1 + (binders k nn : Int) by rw [HBN.out]; simp) T1.out)
      clear g0 g1 g2 g3 h0 h4 h6 q1 k6 k7
      obtain ⟨cB, hcB⟩ : ∃ cB : Int, cB = c + 1 + (binders k nn : Int) := ⟨_, rfl⟩
      rw [← hcB] at HP HT ST
      have b0 : 0 ≤ cB := by omega
      have b1 : cB ≤ 20001 + (nn : Int) := by
        have hbl : binders k nn ≤ nn := by
          unfold binders
          split <;> omega
        omega
      have HK := Lib.hid hk
      clear hcB hk hk'
      go_loopw [34] (fun i wr => ∃ j : Nat, j ≤ qs.length ∧ i = .int .i64 j ∧ Hid (Tc W0 (cB + (altN (qs.take j) : Int)) dm wr)) (fun i _ => qs.length - (intOf i).toNat)
      case atStart => exact ⟨0, Nat.zero_le _, rfl, Lib.hid (by simpa [altN] using ST.out)⟩
      case round =>
        obtain ⟨j, hj, rfl, hrel⟩ := hrel
        have RL := Lib.hid hrel.out
        clear hrel ST
        have c0 := RL.out.c0
        have y0 := RL.out.f0
        have h6 := AD.out.c6 _ RL.out.below
        have t3 := altN_take_le qs j
        have hw := HW.out
        by_cases hlt : j < qs.length
        · obtain ⟨bb, oo, es, rfl, hcl, hrd, hc⟩ := RR.out.get (i := j) (x := qs[j].enc) (by simp [Ca.encs_map, List.getElem?_eq_getElem hlt])
          obtain ⟨nv, bs, rfl, hbl, hnv, _⟩ := Ca.openB hrd
          obtain ⟨An, cn, rfl, _, _, _⟩ := open_strs hnv
          have e1 : wr.cell? ⟨bb, oo + j * 9 + 1, none⟩ = some (.slice An qs[j].names.length cn) := cell_below RL.out.below (hc 1 _ rfl)
          have AS := Lib.hid (altN_step hlt)
          have t4 := altN_take_le qs (j + 1)
          have aso := AS.out
          clear hrd hc hcl hbl hnv
          generalize qs[j].names.length = q at *
          generalize altN (qs.take j) = p at *
          have T3 := Lib.hid (RL.out.setC (cB + (p : Int) + (q : Int))).drew
          have q1 : IntKind.i64.wrap (cB + (p : Int) + (q : Int)) = cB + (p : Int) + (q : Int) := IntWalk.i64_in _ (by omega)
          have i0 : (0 : Int) ≤ (j : Int) := Int.natCast_nonneg _
          have i1 : (j : Int) < (qs.length : Int) := by omega
          clear aso t3 t4 hw
          go_wp2_with fail
          go_still_tail 11, (by kernel_rfl)
          go_wp2_with fail
          go_roundw
          case rel => exact ⟨j + 1, by omega, by go_num, Lib.hid (by rw [AS.out]; have := T3.out; rw [show cB + ((p + q : Nat) : Int) = cB + (p : Int) + (q : Int) by omega]; exact this)⟩
          case measure => simp [intOf]; omega
        · obtain rfl : j = qs.length := by omega
          rw [List.take_length] at *
          have d0 := RL.out.c1
          have d1 := RL.out.f1
          obtain ⟨cE, hcE⟩ : ∃ cE : Int, cE = cB + (altN qs : Int) := ⟨_, rfl⟩
          rw [← hcE] at RL c0 HP HT
          have e0 : 0 ≤ cE := by omega
          have e1 : cE ≤ 4000000 := by omega
          clear hcE t3 hw
          by_cases hdm : d ≤ dm
          · have hmx : max dm d = dm := by omega
            have T5 := Lib.hid (RL.out.setM dm)
            have w0 := T5.out.c0
            have w1 := T5.out.c1
            by_cases hcc : cE ≤ 20000
            · have hcl : decide (cE ≤ 20000) = true := by simpa using hcc
              go_wp2_with fail
              go_ret
              refine ⟨true, cE, dm, ret_bool (by first | rfl | simp; omega), T5.out, iff_of_true rfl ?_, fun _ => ⟨HT.out.symm, by omega, by omega, by omega, by omega⟩, (fun h => by cases h)⟩
              rw [HP.out]
              exact ⟨hcc, by omega⟩
            · go_wp2_with fail
              go_ret
              refine ⟨false, cE, dm, ret_bool (by first | rfl | simp; omega), T5.out, iff_of_false (by decide) ?_, (fun h => by cases h), fun _ => .inl (by omega)⟩
              rw [HP.out]
              rintro ⟨h, _⟩
              omega
          · have hmx : max dm d = d := by omega
            have T5 := Lib.hid (RL.out.setM d)
            have w0 := T5.out.c0
            have w1 := T5.out.c1
            by_cases hcc : cE ≤ 20000
            · by_cases hdd : d ≤ 1000
              · go_wp2_with fail
                go_ret
                refine ⟨true, cE, d, ret_bool (by first | rfl | simp; omega), T5.out, iff_of_true rfl ?_, fun _ => ⟨HT.out.symm, by omega, by omega, by omega, by omega⟩, (fun h => by cases h)⟩
                rw [HP.out]
                exact ⟨hcc, by omega⟩
              · go_wp2_with fail
                go_ret
                refine ⟨false, cE, d, ret_bool (by first | rfl | simp; omega), T5.out, iff_of_false (by decide) ?_, (fun h => by cases h), fun _ => .inr (by omega)⟩
                rw [HP.out]
                rintro ⟨_, h⟩
                omega
            · go_wp2_with fail
              go_ret
              refine ⟨false, cE, d, ret_bool (by first | rfl | simp; omega), T5.out, iff_of_false (by decide) ?_, (fun h => by cases h), fun _ => .inl (by omega)⟩
              rw [HP.out]
              rintro ⟨h, _⟩
              omega
end
end Go.Proofs.Ythidbmjdphfddaa
