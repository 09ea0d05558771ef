/- The reference's 'BigSub' walked over what its 'BigAdd' answers; no condition. -/
import Derived.Test.YtajmeeppigdjnaaTBM
import Derived.Test.YtajmeeppigdjnaaPuBigAdd
import Derived.Deep.RegionHeld3
namespace Go.Proofs.Ytajmeeppigdjnaa
open Go.RowKit Go.Proofs.YtajmeeppigdjnaaW.PrintWords Go.Proofs.YtajmeeppigdjnaaW.PrintMore Go.Proofs.Ytajmeeppigdjnaa.PFnExactBigAdd
set_option linter.unusedVariables false
set_option linter.unusedSimpArgs false

set_option maxRecDepth 100000 in
theorem makeCall (m : Bool) (A : Option Addr) (n c : Nat) (w : World) : Calls Try.prog 51 #[.bool m, .slice A n c] w fun e w' => e = .returned (.agg #[.bool (m && decide (0 < n)), .slice A n c]) ∧ Below w.heap.size w w' := by
  cases m
  · go_enter Try.func51, Try.ntmps51
    go_wp2
    refine bodyPost_ret (v := .agg #[.bool false, .slice A n c]) (by simp [results, Try.results51, go_sem]) rfl ⟨rfl, ?_⟩
    exact (Below.refl _ _).alloc (Nat.le_refl _) _
  · go_enter Try.func51, Try.ntmps51
    go_wp2
    refine bodyPost_ret (v := .agg #[.bool (decide (0 < n)), .slice A n c]) (by simp [results, Try.results51, go_sem]) rfl ⟨by simp, ?_⟩
    exact (Below.refl _ _).alloc (Nat.le_refl _) _

theorem bgSub_of {m m' : Bool} {l l' : List Int} (hu' : Us l') (h : (bgFault m l || bgFault m' l') = false) : bgAdd m l (!m' && decide (0 < l'.length)) l' = bgSub m l m' l' := by
  have hf : bgFault m l = false ∧ bgFault m' l' = false := by simpa using h
  obtain ⟨h1, h2, h3⟩ := bgFault_no hf.2
  unfold bgAdd bgSub
  have e : bgFault (!m' && decide (0 < l'.length)) l' = false := by
    have := hf.2
    unfold bgFault at this ⊢
    by_cases h0 : l'.length = 0
    · rw [if_pos h0]; simp [h0]
    · rw [if_neg h0] at this ⊢; exact this
  rw [hf.1, e, hf.2]
  simp only [Bool.or_self, Bool.false_eq_true, if_false]
  congr 1
  unfold big
  by_cases h0 : l'.length = 0
  · have := List.eq_nil_of_length_eq_zero h0
    subst this
    have hm := h3 rfl
    subst hm
    simp [val_nil]
  · rw [decide_eq_true (show 0 < l'.length by omega), Bool.and_true]
    cases m' <;> simp <;> omega
theorem bgFault_true {m : Bool} {l : List Int} : bgFault m l = true ∨ bgFault m l = false := by cases bgFault m l <;> simp

set_option maxRecDepth 100000 in
set_option maxHeartbeats 8000000 in
theorem specBigSub (m m' : Bool) (l l' : List Int) (hu : Us l) (hu' : Us l') (hl : l.length ≤ 140737488351232) (hl' : l'.length ≤ 140737488351232) (A A' : Option Addr) (n n' : Nat) (hn : l.length ≤ n) (hn' : l'.length ≤ n') (w : World) (hr : Kd.C (Kd.int .u32) w A l.length l) (hr' : Kd.C (Kd.int .u32) w A' l'.length l') :
    Calls Try.prog 38 #[.agg #[.bool m, .slice A l.length n], .agg #[.bool m', .slice A' l'.length n']] w fun e w' => ∃ v, e = .returned (.agg #[.int .i64 (bgSub m l m' l').1, .bool (bgSub m l m' l').2.1, v]) ∧ Kd.R (Kd.int .u32) 62 w' w.heap.size (fun _ => True) v (bgSub m l m' l').2.2 ∧ Below w.heap.size w w' := by
  have R0 := Lib.hid hr
  have R1 := Lib.hid hr'
  have HU := Lib.hid hu
  have HU' := Lib.hid hu'
  have HN := Lib.hid hn
  have HN' := Lib.hid hn'
  clear hr hr' hu hu' hn hn'
  generalize hW : ((w.alloc (.cells #[.bool m, .slice A l.length n] 24)).alloc (.cells #[.bool m', .slice A' l'.length n'] 24)).alloc (.cells #[.int .i64 0, .bool false, .slice none 0 0] 41) = W0
  have SZ0 : Hid (W0.heap.size = w.heap.size + 3) := by subst hW; show _ = _; simp
  have B0 : Hid (W0.heap[w.heap.size]? = some (.cells #[.bool m, .slice A l.length n] 24 (0, 0))) := by subst hW; exact blk_old (blk_old (blk_new w _) _) _
  have B1 : Hid (W0.heap[w.heap.size + 1]? = some (.cells #[.bool m', .slice A' l'.length n'] 24 (0, 0))) := by subst hW; exact blk_old (blk_new_at (by simp)) _
  have B2 : Hid (W0.heap[w.heap.size + 1 + 1]? = some (.cells #[.int .i64 0, .bool false, .slice none 0 0] 41 (0, 0))) := by subst hW; exact blk_new_at (by simp)
  have HB : Hid (Below w.heap.size w W0) := by subst hW; exact (((Below.refl _ _).alloc (Nat.le_refl _) _).alloc (by simp; try omega) _).alloc (by simp; omega) _
  have HW := Lib.hid hW
  clear hW
  go_enter Try.func38, Try.ntmps38
  go_wp2_with fail
  rw [HW.out]
  clear HW
  have CT := spec_BigFault.calls m A n l (bgFault m l) W0 (Kd.C_below R0.out HB.out) HN.out (spec_BigFault_is m l hl)
  refine CT.mono ?_
  clear CT
  rintro e w1 ⟨rfl, hb⟩
  have SZ1 := Lib.hid (show W0.heap.size ≤ w1.heap.size from hb.size)
  have B0 := Lib.hid (blk_below B0.out hb)
  have B1 := Lib.hid (blk_below B1.out hb)
  have B2 := Lib.hid (blk_below B2.out hb)
  have HB := Lib.hid (HB.out.trans (hb.mono HB.out.size))
  clear hb
  have FAULT : (bgFault m l || bgFault m' l') = true → Hid (bgSub m l m' l' = (1, false, [])) := fun h => by show _ = _; unfold bgSub; rw [if_pos h]
  have z20 := (blk_cell B2.out 0).trans (rfl : (_ : Option Value) = some (.int .i64 0))
  have z21 := (blk_cell B2.out 1).trans (rfl : (_ : Option Value) = some (.bool false))
  have z22 := (blk_cell B2.out 2).trans (rfl : (_ : Option Value) = some (.slice none 0 0))
  have f20 := blk_frozen B2.out 0
  have f21 := blk_frozen B2.out 1
  have f22 := blk_frozen B2.out 2
  cases hf : bgFault m l
  rotate_left
  · have FF := Lib.hid (FAULT (by rw [hf]; rfl)).out
    clear FAULT hf
    go_wp2_with fail
    rw [FF.out]
    have hset := (blk_setCells [.int .i64 1, .bool false, .slice none 0 0] 0 B2.out (by rfl))
    have y0 := blk_cell hset 0
    have y1 := blk_cell hset 1
    have y2 := blk_cell hset 2
    simp [World.setCells] at y0 y1 y2
    refine bodyPost_ret (v := .agg #[.int .i64 1, .bool false, .slice none 0 0]) (by simp [results, Try.results38, go_sem, y0, y1, y2]) rfl ⟨_, rfl, Kd.R_nil _ _ _ _ _, ?_⟩
    exact ((HB.out.setCell (by simp; try omega) _).setCell (by simp; try omega) _).setCell (by simp; try omega) _
  · have z10 := (blk_cell B1.out 0).trans (rfl : (_ : Option Value) = some (.bool m'))
    have z11 := (blk_cell B1.out 1).trans (rfl : (_ : Option Value) = some (.slice A' l'.length n'))
    have HF := Lib.hid hf
    clear hf
    go_wp2_with fail
    have CT := spec_BigFault.calls m' A' n' l' (bgFault m' l') w1 (Kd.C_below R1.out HB.out) HN'.out (spec_BigFault_is m' l' hl')
    refine CT.mono ?_
    clear CT
    rintro e w2 ⟨rfl, hb⟩
    have SZ2 := Lib.hid (show w1.heap.size ≤ w2.heap.size from hb.size)
    have B0 := Lib.hid (blk_below B0.out hb)
    have B1 := Lib.hid (blk_below B1.out hb)
    have B2 := Lib.hid (blk_below B2.out hb)
    have HB := Lib.hid (HB.out.trans (hb.mono HB.out.size))
    clear hb z20 z21 z22 f20 f21 f22 z10 z11
    have z20 := (blk_cell B2.out 0).trans (rfl : (_ : Option Value) = some (.int .i64 0))
    have z21 := (blk_cell B2.out 1).trans (rfl : (_ : Option Value) = some (.bool false))
    have z22 := (blk_cell B2.out 2).trans (rfl : (_ : Option Value) = some (.slice none 0 0))
    have f20 := blk_frozen B2.out 0
    have f21 := blk_frozen B2.out 1
    have f22 := blk_frozen B2.out 2
    cases hf : bgFault m' l'
    rotate_left
    · have FF := Lib.hid (FAULT (by rw [hf]; simp)).out
      clear FAULT hf
      go_wp2_with fail
      rw [FF.out]
      have hset := (blk_setCells [.int .i64 1, .bool false, .slice none 0 0] 0 B2.out (by rfl))
      have y0 := blk_cell hset 0
      have y1 := blk_cell hset 1
      have y2 := blk_cell hset 2
      simp [World.setCells] at y0 y1 y2
      refine bodyPost_ret (v := .agg #[.int .i64 1, .bool false, .slice none 0 0]) (by simp [results, Try.results38, go_sem, y0, y1, y2]) rfl ⟨_, rfl, Kd.R_nil _ _ _ _ _, ?_⟩
      exact ((HB.out.setCell (by simp; try omega) _).setCell (by simp; try omega) _).setCell (by simp; try omega) _
    · have HE := Lib.hid (bgSub_of HU'.out (by rw [HF.out, hf]; rfl) : bgAdd m l (!m' && decide (0 < l'.length)) l' = bgSub m l m' l')
      obtain ⟨k, hk⟩ := (spec_BigAdd_is m (!m' && decide (0 < l'.length)) l l' HU.out HU'.out hl hl').rounds
      rw [HE.out] at hk
      obtain ⟨rr, hrr⟩ : ∃ rr, bgSub m l m' l' = rr := ⟨_, rfl⟩
      rw [hrr] at hk
      have HK := Lib.hid hk
      have HRR := Lib.hid hrr
      clear hrr
      have z00 := (blk_cell B0.out 0).trans (rfl : (_ : Option Value) = some (.bool m))
      have z01 := (blk_cell B0.out 1).trans (rfl : (_ : Option Value) = some (.slice A l.length n))
      have z10 := (blk_cell B1.out 0).trans (rfl : (_ : Option Value) = some (.bool m'))
      have z11 := (blk_cell B1.out 1).trans (rfl : (_ : Option Value) = some (.slice A' l'.length n'))
      clear FAULT hf hk HE
      go_wp2_with fail
      have HDREW := trivial
      go_region_held3 (fun w' => w'.cell? ⟨w.heap.size, 0, none⟩ = some (.bool m) ∧ w'.cell? ⟨w.heap.size, 1, none⟩ = some (.slice A l.length n) ∧ w'.cell? ⟨w.heap.size + 1, 0, none⟩ = some (.bool m') ∧ w'.cell? ⟨w.heap.size + 1, 1, none⟩ = some (.slice A' l'.length n'))
        (first | exact ⟨z00, z01, z10, z11⟩ | exact ⟨y00, y01, y10, y11⟩ | exact ⟨s00 [.int .i64 rr.1, .bool rr.2.1, .slice Av rr.2.2.length cv], s01 [.int .i64 rr.1, .bool rr.2.1, .slice Av rr.2.2.length cv], s10 [.int .i64 rr.1, .bool rr.2.1, .slice Av rr.2.2.length cv], s11 [.int .i64 rr.1, .bool rr.2.1, .slice Av rr.2.2.length cv]⟩)
        (first
          | (go_at_call 51; have B0 := Lib.hid (blk_drew B0.out); have B1 := Lib.hid (blk_drew B1.out); have B2 := Lib.hid (blk_drew B2.out); have HB := Lib.hid HB.out.drew; have CT := makeCall (!m') A' l'.length n' w2.drew; (with_reducible refine CT.mono ?_); clear CT; rintro e w3 ⟨rfl, hb⟩; have SZ3 := Lib.hid (show w2.heap.size ≤ w3.heap.size from hb.size); have B0 := Lib.hid (blk_below B0.out hb); have B1 := Lib.hid (blk_below B1.out hb); have B2 := Lib.hid (blk_below B2.out hb); have HB := Lib.hid (HB.out.trans (hb.mono HB.out.size)); clear hb; have y00 := (blk_cell B0.out 0).trans (rfl : (_ : Option Value) = some (.bool m)); have y01 := (blk_cell B0.out 1).trans (rfl : (_ : Option Value) = some (.slice A l.length n)); have y10 := (blk_cell B1.out 0).trans (rfl : (_ : Option Value) = some (.bool m')); have y11 := (blk_cell B1.out 1).trans (rfl : (_ : Option Value) = some (.slice A' l'.length n')))
          | (go_at_call 36; have CT := spec_BigAdd.calls k m A n l (!m' && decide (0 < l'.length)) A' n' l' rr.1 rr.2.1 rr.2.2 w3 (Kd.C_below R0.out HB.out) HN.out (Kd.C_below R1.out HB.out) HN'.out HK.out; (with_reducible refine CT.mono ?_); clear CT; rintro e w4 ⟨v, rfl, hv, hb⟩; obtain ⟨Av, cv, rfl⟩ := Kd.R_slice hv; have HV := Lib.hid (Kd.R_lower hv HB.out.size); have SZ4 := Lib.hid (show w3.heap.size ≤ w4.heap.size from hb.size); have B0 := Lib.hid (blk_below B0.out hb); have B1 := Lib.hid (blk_below B1.out hb); have B2 := Lib.hid (blk_below B2.out hb); have HB := Lib.hid (HB.out.trans (hb.mono HB.out.size)); clear hb hv; have y00 := (blk_cell B0.out 0).trans (rfl : (_ : Option Value) = some (.bool m)); have y01 := (blk_cell B0.out 1).trans (rfl : (_ : Option Value) = some (.slice A l.length n)); have y10 := (blk_cell B1.out 0).trans (rfl : (_ : Option Value) = some (.bool m')); have y11 := (blk_cell B1.out 1).trans (rfl : (_ : Option Value) = some (.slice A' l'.length n')); have s00 := fun vs => (keep_cell B2.out B0.out (by decide) vs 0).trans (rfl : (_ : Option Value) = some (.bool m)); have s01 := fun vs => (keep_cell B2.out B0.out (by decide) vs 1).trans (rfl : (_ : Option Value) = some (.slice A l.length n)); have s10 := fun vs => (keep_cell B2.out B1.out (by decide) vs 0).trans (rfl : (_ : Option Value) = some (.bool m')); have s11 := fun vs => (keep_cell B2.out B1.out (by decide) vs 1).trans (rfl : (_ : Option Value) = some (.slice A' l'.length n')); have x20 := (blk_cell B2.out 0).trans (rfl : (_ : Option Value) = some (.int .i64 0)); have f20 := blk_frozen B2.out 0; have x21 := (blk_cell B2.out 1).trans (rfl : (_ : Option Value) = some (.bool false)); have f21 := blk_frozen B2.out 1; have x22 := (blk_cell B2.out 2).trans (rfl : (_ : Option Value) = some (.slice none 0 0)); have f22 := blk_frozen B2.out 2))
      go_wp2_with fail
      have hset := (blk_setCells [.int .i64 rr.1, .bool rr.2.1, .slice Av rr.2.2.length cv] 0 B2.out (by rfl))
      have q0 := blk_cell hset 0
      have q1 := blk_cell hset 1
      have q2 := blk_cell hset 2
      simp [World.setCells] at q0 q1 q2
      have ht := touch_setCells [.int .i64 rr.1, .bool rr.2.1, .slice Av rr.2.2.length cv] 0 (touch_refl (w.heap.size + 1 + 1) (w.heap.size + 1 + 1 + 1) w4)
      have HR := Kd.R_mono (Kd.R_step (Kd.R_types HV.out B2.out (by decide)) (fun k hk hlt => ht.block k hlt (by omega))) (fun _ _ => trivial)
      refine bodyPost_ret (v := .agg #[.int .i64 rr.1, .bool rr.2.1, .slice Av rr.2.2.length cv]) (by simp [results, Try.results38, go_sem, q0, q1, q2]) rfl ⟨_, by rw [HRR.out], by rw [HRR.out]; exact HR, ?_⟩
      exact ((HB.out.setCell (by simp; try omega) _).setCell (by simp; try omega) _).setCell (by simp; try omega) _

end Go.Proofs.Ytajmeeppigdjnaa
