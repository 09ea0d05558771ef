/- The program's 'BigMul' walked: limbs multiplied in its array; no condition. -/
import Derived.Test.YtajmeeppigdjnaaHq
import Derived.Test.YtajmeeppigdjnaaKd
import Derived.Test.YtajmeeppigdjnaaOAdd
import Derived.Test.YtajmeeppigdjnaaPuBT
import Derived.Test.YtajmeeppigdjnaaBigMulN
import Derived.Deep.RegionHeld3
namespace Go.Proofs.Ytajmeeppigdjnaa
open Go.RowKit Go.Proofs.Ytajmeeppigdjnaa.Own Go.Proofs.YtajmeeppigdjnaaW.PrintWords Go.Proofs.YtajmeeppigdjnaaW.PrintMore Go.Proofs.Ytajmeeppigdjnaa.PFnBigText
set_option linter.unusedVariables false
set_option linter.unusedSimpArgs false

structure Touch (B C : Nat) (w w' : World) : Prop where
  os : w'.os = w.os
  tape : w'.tape = w.tape
  output : w'.output = w.output
  size : w.heap.size ≤ w'.heap.size
  block : ∀ k, k < w.heap.size → (k < B ∨ C ≤ k) → w'.heap[k]? = w.heap[k]?
theorem blk_new_at {w : World} {o : Obj} {g : Nat} (h : g = w.heap.size) : (w.alloc o).heap[g]? = some o := by subst h; exact blk_new w o

theorem blk_setCells {g : Nat} {e : TypeId} : ∀ (vs : List Value) (o : Nat) {w : World} {cur : Array Value}, w.heap[g]? = some (.cells cur e (0, 0)) → cur.size = o + vs.length → (w.setCells g o vs).heap[g]? = some (.cells ((cur.toList.take o ++ vs).toArray) e (0, 0))
  | [], o, w, cur, h, hs => by
    show w.heap[g]? = _
    rw [h, List.append_nil, List.take_of_length_le (by simp at hs ⊢; omega)]
  | v :: vs, o, w, cur, h, hs => by
    have h1 := blk_set h o v
    have h2 := blk_setCells vs (o + 1) h1 (by simp at hs ⊢; omega)
    rw [World.setCells, h2]
    congr 3
    have ho : o < cur.toList.length := by simp at hs ⊢; omega
    rw [Array.toList_setIfInBounds, List.take_set, List.take_succ_eq_append_getElem ho, List.set_append_right _ _ (by rw [List.length_take]; omega), List.length_take, Nat.min_eq_left (by omega)]
    simp
theorem touch_setCells {g : Nat} : ∀ (vs : List Value) (o : Nat) {w a : World}, Touch g (g + 1) a w → Touch g (g + 1) a (w.setCells g o vs)
  | [], _, _, _, h => h
  | v :: vs, o, w, a, h => touch_setCells vs (o + 1) ⟨h.os, h.tape, h.output, by rw [sz_setCell]; exact h.size, fun k hk hn => (Below.heap_setCell w ⟨g, o, none⟩ v k (by show k ≠ g; omega)).trans (h.block k hk hn)⟩
theorem touch_refl (B C : Nat) (w : World) : Touch B C w w := ⟨rfl, rfl, rfl, Nat.le_refl _, fun _ _ _ => rfl⟩
theorem keep_cell {w : World} {g h : Nat} {zs cur : Array Value} {T T' : TypeId} {fz fz' : Nat × Nat} (hz : w.heap[g]? = some (.cells zs T fz')) (hb : w.heap[h]? = some (.cells cur T' fz)) (hT : T ≠ T') (vs : List Value) (j : Nat) : (w.setCells g 0 vs).cell? ⟨h, j, none⟩ = cur[j]? := by
  have hne : h ≠ g := by
    rintro rfl
    rw [hz] at hb
    injection hb with hb
    injection hb with _ hb
    exact hT hb
  exact blk_cell (((touch_setCells vs 0 (touch_refl g (g + 1) w)).block h (blk_lt hb) (by omega)).trans hb) j
theorem zero_above {o : List Int} {n j : Nat} (hu : Us o) (h : val o < PW n) (hj : n ≤ j) : lmb o j = 0 := by
  by_cases hl : j < o.length
  · have h1 := val_set hl 0
    have h2 := val_nonneg (hu.set j (x := 0) (by omega) (by omega))
    have h3 := PW_mono hj
    have h4 := PW_pos j
    have h5 := lmb_range hu j
    rw [h1, Int.sub_mul, Int.zero_mul] at h2
    by_cases hz : lmb o j = 0
    · exact hz
    · have h6 : 1 * PW j ≤ lmb o j * PW j := Int.mul_le_mul_of_nonneg_right (by omega) (by omega)
      omega
  · exact lmb_over (by omega)
theorem mul_last {o a b : List Int} {i : Nat} {c : Int} (hj : i + b.length < o.length) (hz : lmb o (i + b.length) = 0) (hv : val o + c * PW (i + b.length) = vt a i * val b + lmb a i * vt b b.length * PW i) : val (o.set (i + b.length) c) = vt a (i + 1) * val b := by
  rw [val_set hj, hz, Int.sub_zero, ← mul_row]
  exact hv

theorem run_all_wide (g : Nat) (W : World) :
    (Instr.sliceAt 80 (.pointer (some ⟨g, 0, none⟩)) none none none).run Try.prog W = .ok (.slice (some ⟨g, 0, none⟩) 82 82) W := by
  have hl : Try.prog.arrayLen 80 = 82 := by kernel_rfl
  have hu : Try.prog.underlying 80 = some (.array (Try.prog.arrayLen 80) (Try.prog.elem 80)) := by kernel_rfl
  have hs : (sizeOf (Try.prog.elem 80)).run Try.prog W = .ok 1 W := by kernel_rfl
  rw [run_sliceAt_array_all W _ ⟨g, 0, none⟩ hu, hs, hl]
  simp [Result.andThen, slicedAt, Addr.add]
set_option maxRecDepth 100000 in
set_option maxHeartbeats 8000000 in
theorem implBigMul (m m' : Bool) (l l' : List Int) (hu : Us l) (hu' : Us l') (hl : l.length ≤ 140737488351232) (hl' : l'.length ≤ 140737488351232) (A A' : Option Addr) (n n' : Nat) (hn : l.length ≤ n) (hn' : l'.length ≤ n') (w : World) (hr : Kd.C (Kd.int .u32) w A l.length l) (hr' : Kd.C (Kd.int .u32) w A' l'.length l') :
    Calls Try.prog 30 #[.agg #[.bool m, .slice A l.length n], .agg #[.bool m', .slice A' l'.length n']] w fun e w' => ∃ v, e = .returned (.agg #[.int .i64 (bgMul m l m' l').1, .bool (bgMul m l m' l').2.1, v]) ∧ Kd.R (Kd.int .u32) 62 w' w.heap.size (fun _ => True) v (bgMul m l m' l').2.2 ∧ Below w.heap.size w w' := by
  have R0 := Lib.hid hr
  have R1 := Lib.hid hr'
  have HU := Lib.hid hu
  have HU' := Lib.hid hu'
  have HN := Lib.hid hn
  have HN' := Lib.hid hn'
  clear hr hr' hu hu' hn hn'
  generalize hW : ((w.alloc (.cells #[.bool m, .slice A l.length n] 24)).alloc (.cells #[.bool m', .slice A' l'.length n'] 24)).alloc (.cells #[.int .i64 0, .bool false, .slice none 0 0] 41) = W0
  have SZ0 : Hid (W0.heap.size = w.heap.size + 3) := by subst hW; show _ = _; simp
  have B0 : Hid (W0.heap[w.heap.size]? = some (.cells #[.bool m, .slice A l.length n] 24 (0, 0))) := by subst hW; exact blk_old (blk_old (blk_new w _) _) _
  have B1 : Hid (W0.heap[w.heap.size + 1]? = some (.cells #[.bool m', .slice A' l'.length n'] 24 (0, 0))) := by subst hW; exact blk_old (blk_new_at (by simp)) _
  have B2 : Hid (W0.heap[w.heap.size + 1 + 1]? = some (.cells #[.int .i64 0, .bool false, .slice none 0 0] 41 (0, 0))) := by subst hW; exact blk_new_at (by simp)
  have HB : Hid (Below w.heap.size w W0) := by subst hW; exact (((Below.refl _ _).alloc (Nat.le_refl _) _).alloc (by simp; try omega) _).alloc (by simp; omega) _
  have HW := Lib.hid hW
  clear hW
  go_enter Try.func30, Try.ntmps30
  go_wp2_with fail
  rw [HW.out]
  clear HW
  have CT := impl_BigFault.calls m A n l (bgFault m l) W0 (Kd.C_below R0.out HB.out) HN.out (impl_BigFault_is m l hl)
  refine CT.mono ?_
  clear CT
  rintro e w1 ⟨rfl, hb⟩
  have SZ1 := Lib.hid (show W0.heap.size ≤ w1.heap.size from hb.size)
  have B0 := Lib.hid (blk_below B0.out hb)
  have B1 := Lib.hid (blk_below B1.out hb)
  have B2 := Lib.hid (blk_below B2.out hb)
  have HB := Lib.hid (HB.out.trans (hb.mono HB.out.size))
  clear hb
  have FAULT : (bgFault m l || bgFault m' l') = true → Hid (bgMul m l m' l' = (1, false, [])) := fun h => by show _ = _; unfold bgMul; rw [if_pos h]
  have z20 := (blk_cell B2.out 0).trans (rfl : (_ : Option Value) = some (.int .i64 0))
  have z21 := (blk_cell B2.out 1).trans (rfl : (_ : Option Value) = some (.bool false))
  have z22 := (blk_cell B2.out 2).trans (rfl : (_ : Option Value) = some (.slice none 0 0))
  have f20 := blk_frozen B2.out 0
  have f21 := blk_frozen B2.out 1
  have f22 := blk_frozen B2.out 2
  cases hf : bgFault m l
  rotate_left
  · have FF := Lib.hid (FAULT (by rw [hf]; rfl)).out
    clear FAULT hf
    go_wp2_with fail
    rw [FF.out]
    have hset := (blk_setCells [.int .i64 1, .bool false, .slice none 0 0] 0 B2.out (by rfl))
    have y0 := blk_cell hset 0
    have y1 := blk_cell hset 1
    have y2 := blk_cell hset 2
    simp [World.setCells] at y0 y1 y2
    refine bodyPost_ret (v := .agg #[.int .i64 1, .bool false, .slice none 0 0]) (by simp [results, Try.results30, go_sem, y0, y1, y2]) rfl ⟨_, rfl, Kd.R_nil _ _ _ _ _, ?_⟩
    exact ((HB.out.setCell (by simp; try omega) _).setCell (by simp; try omega) _).setCell (by simp; try omega) _
  · have z10 := (blk_cell B1.out 0).trans (rfl : (_ : Option Value) = some (.bool m'))
    have z11 := (blk_cell B1.out 1).trans (rfl : (_ : Option Value) = some (.slice A' l'.length n'))
    have HF := Lib.hid hf
    clear hf
    go_wp2_with fail
    have CT := impl_BigFault.calls m' A' n' l' (bgFault m' l') w1 (Kd.C_below R1.out HB.out) HN'.out (impl_BigFault_is m' l' hl')
    refine CT.mono ?_
    clear CT
    rintro e w2 ⟨rfl, hb⟩
    have SZ2 := Lib.hid (show w1.heap.size ≤ w2.heap.size from hb.size)
    have B0 := Lib.hid (blk_below B0.out hb)
    have B1 := Lib.hid (blk_below B1.out hb)
    have B2 := Lib.hid (blk_below B2.out hb)
    have HB := Lib.hid (HB.out.trans (hb.mono HB.out.size))
    clear hb z20 z21 z22 f20 f21 f22 z10 z11
    have z20 := (blk_cell B2.out 0).trans (rfl : (_ : Option Value) = some (.int .i64 0))
    have z21 := (blk_cell B2.out 1).trans (rfl : (_ : Option Value) = some (.bool false))
    have z22 := (blk_cell B2.out 2).trans (rfl : (_ : Option Value) = some (.slice none 0 0))
    have f20 := blk_frozen B2.out 0
    have f21 := blk_frozen B2.out 1
    have f22 := blk_frozen B2.out 2
    cases hf : bgFault m' l'
    rotate_left
    · have FF := Lib.hid (FAULT (by rw [hf]; simp)).out
      clear FAULT hf
      go_wp2_with fail
      rw [FF.out]
      have hset := (blk_setCells [.int .i64 1, .bool false, .slice none 0 0] 0 B2.out (by rfl))
      have y0 := blk_cell hset 0
      have y1 := blk_cell hset 1
      have y2 := blk_cell hset 2
      simp [World.setCells] at y0 y1 y2
      refine bodyPost_ret (v := .agg #[.int .i64 1, .bool false, .slice none 0 0]) (by simp [results, Try.results30, go_sem, y0, y1, y2]) rfl ⟨_, rfl, Kd.R_nil _ _ _ _ _, ?_⟩
      exact ((HB.out.setCell (by simp; try omega) _).setCell (by simp; try omega) _).setCell (by simp; try omega) _
    · have z00 := (blk_cell B0.out 0).trans (rfl : (_ : Option Value) = some (.bool m))
      have z01 := (blk_cell B0.out 1).trans (rfl : (_ : Option Value) = some (.slice A l.length n))
      have z10 := (blk_cell B1.out 0).trans (rfl : (_ : Option Value) = some (.bool m'))
      have z11 := (blk_cell B1.out 1).trans (rfl : (_ : Option Value) = some (.slice A' l'.length n'))
      have HNF : Hid ((bgFault m l || bgFault m' l') = false) := by show _ = _; rw [HF.out, hf]; rfl
      clear FAULT hf
      have LA := Lib.hid (show l.length ≤ 40 from (bgFault_no HF.out).1)
      have LB := Lib.hid (show l'.length ≤ 40 from (bgFault_no (by have := HNF.out; rw [HF.out] at this; exact this)).1)
      have START : Hid (Wide (w2.alloc (.cells Try.zeroCells80 80)) w2.heap.size (List.replicate 82 0)) := by
        show _ = _
        rw [← wide_zero]
        exact blk_new w2 _
      have SB := Lib.hid ((Below.refl w2.heap.size w2).alloc (Nat.le_refl _) (.cells Try.zeroCells80 80))
      have y01 := SB.out.cell' z01
      have y11 := SB.out.cell' z11
      go_wp2_with fail
      go_loopw [21] (fun iv wr => ∃ i : Nat, i ≤ l.length ∧ iv = .int .i64 i ∧ Hid (∃ o : List Int, o.length = 82 ∧ Us o ∧ Wide wr w2.heap.size o ∧ Below w2.heap.size w2 wr ∧ val o = vt l i * val l')) (fun iv _ => l.length - (intOf iv).toNat)
      case atStart => exact ⟨0, by omega, rfl, Lib.hid ⟨List.replicate 82 0, by simp, Us.replicate 82, START.out, SB.out, by rw [val_replicate]; simp [vt]⟩⟩
      case round =>
        obtain ⟨i, hi, rfl, hrel⟩ := hrel
        obtain ⟨o, ho, huo, hw, hb, hv⟩ := hrel.out
        clear hrel
        have Z11 := Lib.hid z11
        have z01 := hb.cell' z01
        have z11 := hb.cell' z11
        clear y01 y11
        by_cases hlt : i < l.length
        · obtain ⟨b0, off0, rfl, _, hcl⟩ := kdC_cell R0.out (by omega)
          have za := hcl i _ (List.getElem?_eq_getElem hlt)
          rw [← lmb_at hlt] at za
          have za := hb.cell' (HB.out.cell' za)
          clear hcl
          have hx := lmb_range HU.out i
          have LAST := Lib.hid (zero_above (j := i + l'.length) huo (by rw [hv]; exact mul_lt HU.out HU'.out i) (Nat.le_refl _))
          have HO := Lib.hid ho
          have HUO := Lib.hid huo
          have HW := Lib.hid hw
          have HB3 := Lib.hid hb
          have HV := Lib.hid hv
          clear ho huo hw hb hv
          obtain ⟨x, hxe⟩ : ∃ x, x = lmb l i := ⟨_, rfl⟩
          have HX := Lib.hid hxe
          rw [← hxe] at za hx
          clear hxe
          obtain ⟨wo, rfl⟩ : ∃ wo : World, wo = wr := ⟨_, rfl⟩
          go_wp2_with fail
          go_loopw [8, 29] (fun cv iv wr => ∃ (k : Nat) (c : Int), k ≤ l'.length ∧ iv = .int .i64 k ∧ cv = .int .u64 c ∧ 0 ≤ c ∧ c < 4294967296 ∧ Hid (∃ o : List Int, o.length = 82 ∧ Us o ∧ Wide wr w2.heap.size o ∧ Below w2.heap.size w2 wr ∧ lmb o (i + l'.length) = 0 ∧ val o + c * PW (i + k) = vt l i * val l' + x * vt l' k * PW i)) (fun _ iv _ => l'.length - (intOf iv).toNat)
          case atStart => exact ⟨0, 0, by omega, rfl, rfl, by omega, by omega, Lib.hid ⟨o, HO.out, HUO.out, HW.out, HB3.out, LAST.out, by rw [HV.out]; simp [vt]⟩⟩
          case round =>
            obtain ⟨k, c, hk, rfl, rfl, hc0, hc1, hrel⟩ := hrel
            obtain ⟨o, ho, huo, hw, hb, hl0, hv⟩ := hrel.out
            clear hrel za z01 z11 LAST HO HUO HW HB3 HV
            by_cases hkt : k < l'.length
            · obtain ⟨b1, off1, rfl, _, hcl⟩ := kdC_cell R1.out (by omega)
              have zb := hcl k _ (List.getElem?_eq_getElem hkt)
              rw [← lmb_at hkt] at zb
              have zb := hb.cell' (HB.out.cell' zb)
              clear hcl
              have LA' := LA.out
              have LB' := LB.out
              have hik : i + k < o.length := by omega
              have zw := hw.cell hik
              have zf := hw.frozen (i + k)
              have hy := lmb_range HU'.out k
              have hz := lmb_range huo (i + k)
              have hp := prod_range hx.1 hx.2 hy.1 hy.2
              have STEP := Lib.hid (mul_step hik hv)
              have HO := Lib.hid ho
              have HUO := Lib.hid huo
              have HW := Lib.hid hw
              have HB3 := Lib.hid hb
              have LAST := Lib.hid (show lmb (o.set (i + k) ((x * lmb l' k + lmb o (i + k) + c) % 4294967296)) (i + l'.length) = 0 by rw [lmb_set_other (by omega)]; exact hl0)
              rw [show x * lmb l' k + lmb o (i + k) + c = c + (x * lmb l' k + lmb o (i + k)) by omega] at STEP LAST
              clear ho huo hw hb hl0 hv
              generalize lmb l' k = y at *
              generalize lmb o (i + k) = oj at *
              go_wp2_with fail
              go_roundw
              case rel => exact ⟨k + 1, (c + (x * y + oj)) / 4294967296, by omega, by go_num, by first | rfl | go_num, by omega, by omega, Lib.hid ⟨o.set (i + k) ((c + (x * y + oj)) % 4294967296), by rw [List.length_set]; exact HO.out, HUO.out.set (i + k) (by omega) (by omega), HW.out.set (i + k) _, HB3.out.setCell (Nat.le_refl _) _, LAST.out, STEP.out⟩⟩
              case measure => simp [intOf]; omega
            · obtain rfl : k = l'.length := by omega
              have LA' := LA.out
              have LB' := LB.out
              have hik : i + l'.length < o.length := by omega
              have hxx := HX.out
              subst hxx
              have STEP := Lib.hid (mul_last hik hl0 hv)
              have zw := hw.cell hik
              have zf := hw.frozen (i + l'.length)
              have z11 := hb.cell' Z11.out
              have HO := Lib.hid ho
              have HUO := Lib.hid huo
              have HW := Lib.hid hw
              have HB3 := Lib.hid hb
              clear ho huo hw hb hl0 hv
              generalize lmb o (i + l'.length) = oj at *
              go_wp2_with fail
              go_roundw
              case rel => exact ⟨i + 1, by omega, by go_num, Lib.hid ⟨o.set (i + l'.length) c, by rw [List.length_set]; exact HO.out, HUO.out.set _ hc0 hc1, HW.out.set _ _, HB3.out.setCell (Nat.le_refl _) _, STEP.out⟩⟩
              case measure => simp [intOf]; omega
        · obtain rfl : i = l.length := by omega
          have hv2 : val o = val l * val l' := hv
          obtain ⟨k, hk⟩ := (impl_bigAnswer_is (m != m') huo (by omega)).rounds
          rw [hv2] at hk
          have hans : bgRes (if (m != m') = true then -(val l * val l') else val l * val l') = bgMul m l m' l' := by
            unfold bgMul
            rw [HNF.out, ← big_mul]
            rfl
          rw [hans] at hk
          obtain ⟨rr, hrr⟩ : ∃ rr, bgMul m l m' l' = rr := ⟨_, rfl⟩
          rw [hrr] at hk
          have HK := Lib.hid hk
          have HRR := Lib.hid hrr
          have hrow := hw.row (n := 82) (by omega) (by omega)
          rw [List.take_of_length_le (by omega)] at hrow
          have ROW := Lib.hid hrow
          have B0 := Lib.hid (blk_below B0.out hb)
          have B1 := Lib.hid (blk_below B1.out hb)
          have B2 := Lib.hid (blk_below B2.out hb)
          have HB := Lib.hid (HB.out.trans (hb.mono HB.out.size))
          have HO := Lib.hid ho
          have SL := run_all_wide w2.heap.size
          have CAL := fun w5 (hc : Kd.C (Kd.int .u32) w5 (some ⟨w2.heap.size, 0, none⟩) o.length o) => impl_bigAnswer.calls k (m != m') (some ⟨w2.heap.size, 0, none⟩) 82 o rr.1 rr.2.1 rr.2.2 w5 hc (by omega) HK.out
          rw [ho] at CAL
          simp only [bne] at CAL
          have CAL := Lib.hid CAL
          rw [ho] at ROW
          clear hrow hk hrr hans hv2 hv hw huo hb ho z20 z21 z22 f20 f21 f22 z00 z01 z10 z11 Z11
          have z00 := (blk_cell B0.out 0).trans (rfl : (_ : Option Value) = some (.bool m))
          have z10 := (blk_cell B1.out 0).trans (rfl : (_ : Option Value) = some (.bool m'))
          go_wp2_with fail
          have HDREW := trivial
          go_region_held3 (fun w' => w'.cell? ⟨w.heap.size, 0, none⟩ = some (.bool m) ∧ w'.cell? ⟨w.heap.size + 1, 0, none⟩ = some (.bool m'))
            (first | exact ⟨z00, z10⟩ | exact ⟨y00, y10⟩ | exact ⟨s00 [.int .i64 rr.1, .bool rr.2.1, .slice Av rr.2.2.length cv], s10 [.int .i64 rr.1, .bool rr.2.1, .slice Av rr.2.2.length cv]⟩)
            (first | (go_at_call 69; have B0 := Lib.hid (blk_drew B0.out); have B1 := Lib.hid (blk_drew B1.out); have B2 := Lib.hid (blk_drew B2.out); have HB := Lib.hid HB.out.drew; have CT := CAL.out wr.drew (Kd.C_drew ROW.out); (with_reducible refine CT.mono ?_); clear CT; rintro e w4 ⟨v, rfl, hv, hb⟩; obtain ⟨Av, cv, rfl⟩ := Kd.R_slice hv; have HV := Lib.hid (Kd.R_lower hv HB.out.size); have SZ4 := Lib.hid (show wr.heap.size ≤ w4.heap.size from hb.size); have B0 := Lib.hid (blk_below B0.out hb); have B1 := Lib.hid (blk_below B1.out hb); have B2 := Lib.hid (blk_below B2.out hb); have HB := Lib.hid (HB.out.trans (hb.mono HB.out.size)); clear hb hv; have y00 := (blk_cell B0.out 0).trans (rfl : (_ : Option Value) = some (.bool m)); have y10 := (blk_cell B1.out 0).trans (rfl : (_ : Option Value) = some (.bool m')); have s00 := fun vs => (keep_cell B2.out B0.out (by decide) vs 0).trans (rfl : (_ : Option Value) = some (.bool m)); have s10 := fun vs => (keep_cell B2.out B1.out (by decide) vs 0).trans (rfl : (_ : Option Value) = some (.bool m')); have x20 := (blk_cell B2.out 0).trans (rfl : (_ : Option Value) = some (.int .i64 0)); have f20 := blk_frozen B2.out 0; have x21 := (blk_cell B2.out 1).trans (rfl : (_ : Option Value) = some (.bool false)); have f21 := blk_frozen B2.out 1; have x22 := (blk_cell B2.out 2).trans (rfl : (_ : Option Value) = some (.slice none 0 0)); have f22 := blk_frozen B2.out 2))
          go_wp2_with fail
          have hset := (blk_setCells [.int .i64 rr.1, .bool rr.2.1, .slice Av rr.2.2.length cv] 0 B2.out (by rfl))
          have q0 := blk_cell hset 0
          have q1 := blk_cell hset 1
          have q2 := blk_cell hset 2
          simp [World.setCells] at q0 q1 q2
          have ht := touch_setCells [.int .i64 rr.1, .bool rr.2.1, .slice Av rr.2.2.length cv] 0 (touch_refl (w.heap.size + 1 + 1) (w.heap.size + 1 + 1 + 1) w4)
          have HR := Kd.R_mono (Kd.R_step (Kd.R_types HV.out B2.out (by decide)) (fun k hk hlt => ht.block k hlt (by omega))) (fun _ _ => trivial)
          refine bodyPost_ret (v := .agg #[.int .i64 rr.1, .bool rr.2.1, .slice Av rr.2.2.length cv]) (by simp [results, Try.results30, go_sem, q0, q1, q2]) rfl ⟨_, by rw [HRR.out], by rw [HRR.out]; exact HR, ?_⟩
          exact ((HB.out.setCell (by simp; try omega) _).setCell (by simp; try omega) _).setCell (by simp; try omega) _

end Go.Proofs.Ytajmeeppigdjnaa
