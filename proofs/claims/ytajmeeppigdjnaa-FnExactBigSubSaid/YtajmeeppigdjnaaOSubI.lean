/- The program's 'BigSub' walked over what its 'BigAdd' answers; no condition. -/
import Derived.Test.YtajmeeppigdjnaaOSub
namespace Go.Proofs.Ytajmeeppigdjnaa
open Go.RowKit Go.Proofs.YtajmeeppigdjnaaW.PrintWords Go.Proofs.YtajmeeppigdjnaaW.PrintMore Go.Proofs.Ytajmeeppigdjnaa.PFnExactBigAdd
set_option linter.unusedVariables false
set_option linter.unusedSimpArgs false

theorem bgSub_flip {m m' : Bool} {l l' : List Int} (h : (bgFault m l || bgFault m' l') = false) (h0 : ¬ l'.length = 0) : bgAdd m l (!m') l' = bgSub m l m' l' := by
  have hf : bgFault m l = false ∧ bgFault m' l' = false := by simpa using h
  unfold bgAdd bgSub
  have e : bgFault (!m') l' = false := by
    have := hf.2
    unfold bgFault at this ⊢
    rw [if_neg h0] at this ⊢
    exact this
  rw [hf.1, e, hf.2]
  simp only [Bool.or_self, Bool.false_eq_true, if_false]
  congr 1
  unfold big
  cases m' <;> simp <;> omega
theorem bgSub_nil {m m' : Bool} {l l' : List Int} (hu : Us l) (h : (bgFault m l || bgFault m' l') = false) (h0 : l'.length = 0) : bgSub m l m' l' = (0, m && decide (0 < (lim (val l)).length), lim (val l)) := by
  have hf : bgFault m l = false ∧ bgFault m' l' = false := by simpa using h
  obtain ⟨hl, ht, _⟩ := bgFault_no hf.1
  have e0 := List.eq_nil_of_length_eq_zero h0
  subst e0
  have hm := (bgFault_no hf.2).2.2 rfl
  subst hm
  unfold bgSub
  rw [if_neg (by rw [h]; decide)]
  have hz : big m l - big false [] = if m = true then -val l else val l := by unfold big; simp [val_nil]
  rw [hz, res_done m (val_nonneg hu), if_neg]
  have := lim_len_le (val_nonneg hu) (val_lt hu)
  omega
set_option maxRecDepth 100000 in
set_option maxHeartbeats 8000000 in
theorem implBigSub (m m' : Bool) (l l' : List Int) (hu : Us l) (hu' : Us l') (hl : l.length ≤ 140737488351232) (hl' : l'.length ≤ 140737488351232) (A A' : Option Addr) (n n' : Nat) (hn : l.length ≤ n) (hn' : l'.length ≤ n') (w : World) (hr : Kd.C (Kd.int .u32) w A l.length l) (hr' : Kd.C (Kd.int .u32) w A' l'.length l') :
    Calls Try.prog 39 #[.agg #[.bool m, .slice A l.length n], .agg #[.bool m', .slice A' l'.length n']] w fun e w' => ∃ v, e = .returned (.agg #[.int .i64 (bgSub m l m' l').1, .bool (bgSub m l m' l').2.1, v]) ∧ Kd.R (Kd.int .u32) 62 w' w.heap.size (fun _ => True) v (bgSub m l m' l').2.2 ∧ Below w.heap.size w w' := by
  have R0 := Lib.hid hr
  have R1 := Lib.hid hr'
  have HU := Lib.hid hu
  have HU' := Lib.hid hu'
  have HN := Lib.hid hn
  have HN' := Lib.hid hn'
  clear hr hr' hu hu' hn hn'
  generalize hW : ((w.alloc (.cells #[.bool m, .slice A l.length n] 24)).alloc (.cells #[.bool m', .slice A' l'.length n'] 24)).alloc (.cells #[.int .i64 0, .bool false, .slice none 0 0] 41) = W0
  have SZ0 : Hid (W0.heap.size = w.heap.size + 3) := by subst hW; show _ = _; simp
  have B0 : Hid (W0.heap[w.heap.size]? = some (.cells #[.bool m, .slice A l.length n] 24 (0, 0))) := by subst hW; exact blk_old (blk_old (blk_new w _) _) _
  have B1 : Hid (W0.heap[w.heap.size + 1]? = some (.cells #[.bool m', .slice A' l'.length n'] 24 (0, 0))) := by subst hW; exact blk_old (blk_new_at (by simp)) _
  have B2 : Hid (W0.heap[w.heap.size + 1 + 1]? = some (.cells #[.int .i64 0, .bool false, .slice none 0 0] 41 (0, 0))) := by subst hW; exact blk_new_at (by simp)
  have HB : Hid (Below w.heap.size w W0) := by subst hW; exact (((Below.refl _ _).alloc (Nat.le_refl _) _).alloc (by simp; try omega) _).alloc (by simp; omega) _
  have HW := Lib.hid hW
  clear hW
  go_enter Try.func39, Try.ntmps39
  go_wp2_with fail
  rw [HW.out]
  clear HW
  have CT := impl_BigFault.calls m A n l (bgFault m l) W0 (Kd.C_below R0.out HB.out) HN.out (impl_BigFault_is m l hl)
  refine CT.mono ?_
  clear CT
  rintro e w1 ⟨rfl, hb⟩
  have SZ1 := Lib.hid (show W0.heap.size ≤ w1.heap.size from hb.size)
  have B0 := Lib.hid (blk_below B0.out hb)
  have B1 := Lib.hid (blk_below B1.out hb)
  have B2 := Lib.hid (blk_below B2.out hb)
  have HB := Lib.hid (HB.out.trans (hb.mono HB.out.size))
  clear hb
  have FAULT : (bgFault m l || bgFault m' l') = true → Hid (bgSub m l m' l' = (1, false, [])) := fun h => by show _ = _; unfold bgSub; rw [if_pos h]
  have z20 := (blk_cell B2.out 0).trans (rfl : (_ : Option Value) = some (.int .i64 0))
  have z21 := (blk_cell B2.out 1).trans (rfl : (_ : Option Value) = some (.bool false))
  have z22 := (blk_cell B2.out 2).trans (rfl : (_ : Option Value) = some (.slice none 0 0))
  have f20 := blk_frozen B2.out 0
  have f21 := blk_frozen B2.out 1
  have f22 := blk_frozen B2.out 2
  cases hf : bgFault m l
  rotate_left
  · have FF := Lib.hid (FAULT (by rw [hf]; rfl)).out
    clear FAULT hf
    go_wp2_with fail
    rw [FF.out]
    have hset := (blk_setCells [.int .i64 1, .bool false, .slice none 0 0] 0 B2.out (by rfl))
    have y0 := blk_cell hset 0
    have y1 := blk_cell hset 1
    have y2 := blk_cell hset 2
    simp [World.setCells] at y0 y1 y2
    refine bodyPost_ret (v := .agg #[.int .i64 1, .bool false, .slice none 0 0]) (by simp [results, Try.results39, go_sem, y0, y1, y2]) rfl ⟨_, rfl, Kd.R_nil _ _ _ _ _, ?_⟩
    exact ((HB.out.setCell (by simp; try omega) _).setCell (by simp; try omega) _).setCell (by simp; try omega) _
  · have z10 := (blk_cell B1.out 0).trans (rfl : (_ : Option Value) = some (.bool m'))
    have z11 := (blk_cell B1.out 1).trans (rfl : (_ : Option Value) = some (.slice A' l'.length n'))
    have HF := Lib.hid hf
    clear hf
    go_wp2_with fail
    have CT := impl_BigFault.calls m' A' n' l' (bgFault m' l') w1 (Kd.C_below R1.out HB.out) HN'.out (impl_BigFault_is m' l' hl')
    refine CT.mono ?_
    clear CT
    rintro e w2 ⟨rfl, hb⟩
    have SZ2 := Lib.hid (show w1.heap.size ≤ w2.heap.size from hb.size)
    have B0 := Lib.hid (blk_below B0.out hb)
    have B1 := Lib.hid (blk_below B1.out hb)
    have B2 := Lib.hid (blk_below B2.out hb)
    have HB := Lib.hid (HB.out.trans (hb.mono HB.out.size))
    clear hb z20 z21 z22 f20 f21 f22 z10 z11
    have z20 := (blk_cell B2.out 0).trans (rfl : (_ : Option Value) = some (.int .i64 0))
    have z21 := (blk_cell B2.out 1).trans (rfl : (_ : Option Value) = some (.bool false))
    have z22 := (blk_cell B2.out 2).trans (rfl : (_ : Option Value) = some (.slice none 0 0))
    have f20 := blk_frozen B2.out 0
    have f21 := blk_frozen B2.out 1
    have f22 := blk_frozen B2.out 2
    cases hf : bgFault m' l'
    rotate_left
    · have FF := Lib.hid (FAULT (by rw [hf]; simp)).out
      clear FAULT hf
      go_wp2_with fail
      rw [FF.out]
      have hset := (blk_setCells [.int .i64 1, .bool false, .slice none 0 0] 0 B2.out (by rfl))
      have y0 := blk_cell hset 0
      have y1 := blk_cell hset 1
      have y2 := blk_cell hset 2
      simp [World.setCells] at y0 y1 y2
      refine bodyPost_ret (v := .agg #[.int .i64 1, .bool false, .slice none 0 0]) (by simp [results, Try.results39, go_sem, y0, y1, y2]) rfl ⟨_, rfl, Kd.R_nil _ _ _ _ _, ?_⟩
      exact ((HB.out.setCell (by simp; try omega) _).setCell (by simp; try omega) _).setCell (by simp; try omega) _
    · have z00 := (blk_cell B0.out 0).trans (rfl : (_ : Option Value) = some (.bool m))
      have z01 := (blk_cell B0.out 1).trans (rfl : (_ : Option Value) = some (.slice A l.length n))
      have z10 := (blk_cell B1.out 0).trans (rfl : (_ : Option Value) = some (.bool m'))
      have z11 := (blk_cell B1.out 1).trans (rfl : (_ : Option Value) = some (.slice A' l'.length n'))
      have HNF : Hid ((bgFault m l || bgFault m' l') = false) := by show _ = _; rw [HF.out, hf]; rfl
      clear FAULT hf
      by_cases h0 : l'.length = 0
      · have HRR := Lib.hid (bgSub_nil HU.out HNF.out h0)
        obtain ⟨k, hk⟩ := (impl_makeBig_is m HU.out (by have := (bgFault_no HF.out).1; omega)).rounds
        have HK := Lib.hid hk
        clear hk
        obtain ⟨rb, hrb⟩ : ∃ rb, (m && decide (0 < (lim (val l)).length)) = rb := ⟨_, rfl⟩
        obtain ⟨rl, hrl⟩ : ∃ rl, lim (val l) = rl := ⟨_, rfl⟩
        rw [hrb, hrl] at HRR HK
        clear hrb hrl
        have CAL := Lib.hid (impl_makeBig.calls k m A n l rb rl w2 (Kd.C_below R0.out HB.out) HN.out HK.out)
        have l0 : (((l'.length : Nat) : Int) == 0) = true := by rw [h0]; rfl
        go_wp2_with fail
        refine CAL.out.mono ?_
        rintro e w3 ⟨v, rfl, hv, hb⟩
        obtain ⟨Av, cv, rfl⟩ := Kd.R_slice hv
        have B0 := Lib.hid (blk_below B0.out hb)
        have B1 := Lib.hid (blk_below B1.out hb)
        have B2 := Lib.hid (blk_below B2.out hb)
        have HV := Lib.hid (Kd.R_lower hv HB.out.size)
        have HB := Lib.hid (HB.out.trans (hb.mono HB.out.size))
        have x20 := (blk_cell B2.out 0).trans (rfl : (_ : Option Value) = some (.int .i64 0))
        have x21 := (blk_cell B2.out 1).trans (rfl : (_ : Option Value) = some (.bool false))
        have x22 := (blk_cell B2.out 2).trans (rfl : (_ : Option Value) = some (.slice none 0 0))
        have g20 := blk_frozen B2.out 0
        have g21 := blk_frozen B2.out 1
        have g22 := blk_frozen B2.out 2
        clear hb hv
        go_wp2_with fail
        have hset := (blk_setCells [.int .i64 0, .bool rb, .slice Av rl.length cv] 0 B2.out (by rfl))
        have q0 := blk_cell hset 0
        have q1 := blk_cell hset 1
        have q2 := blk_cell hset 2
        simp [World.setCells] at q0 q1 q2
        have ht := touch_setCells [.int .i64 0, .bool rb, .slice Av rl.length cv] 0 (touch_refl (w.heap.size + 1 + 1) (w.heap.size + 1 + 1 + 1) w3)
        have HR := Kd.R_mono (Kd.R_step (Kd.R_types HV.out B2.out (by decide)) (fun k hk hlt => ht.block k hlt (by omega))) (fun _ _ => trivial)
        refine bodyPost_ret (v := .agg #[.int .i64 0, .bool rb, .slice Av rl.length cv]) (by simp [results, Try.results39, go_sem, q0, q1, q2]) rfl ⟨_, by rw [HRR.out], by rw [HRR.out]; exact HR, ?_⟩
        exact ((HB.out.setCell (by simp; try omega) _).setCell (by simp; try omega) _).setCell (by simp; try omega) _
      · have HRR := Lib.hid (bgSub_flip HNF.out h0)
        obtain ⟨k, hk⟩ := (impl_BigAdd_is m (!m') l l' HU.out HU'.out hl hl').rounds
        rw [HRR.out] at hk
        clear HRR
        obtain ⟨rr, hrr⟩ : ∃ rr, bgSub m l m' l' = rr := ⟨_, rfl⟩
        rw [hrr] at hk
        have HK := Lib.hid hk
        have HRR := Lib.hid hrr
        clear hrr hk
        have l0 : (((l'.length : Nat) : Int) == 0) = false := by simpa using h0
        have CAL := Lib.hid (impl_BigAdd.calls k m A n l (!m') A' n' l' rr.1 rr.2.1 rr.2.2 w2 (Kd.C_below R0.out HB.out) HN.out (Kd.C_below R1.out HB.out) HN'.out HK.out)
        go_wp2_with fail
        refine CAL.out.mono ?_
        rintro e w3 ⟨v, rfl, hv, hb⟩
        obtain ⟨Av, cv, rfl⟩ := Kd.R_slice hv
        have B0 := Lib.hid (blk_below B0.out hb)
        have B1 := Lib.hid (blk_below B1.out hb)
        have B2 := Lib.hid (blk_below B2.out hb)
        have HV := Lib.hid (Kd.R_lower hv HB.out.size)
        have HB := Lib.hid (HB.out.trans (hb.mono HB.out.size))
        have x20 := (blk_cell B2.out 0).trans (rfl : (_ : Option Value) = some (.int .i64 0))
        have x21 := (blk_cell B2.out 1).trans (rfl : (_ : Option Value) = some (.bool false))
        have x22 := (blk_cell B2.out 2).trans (rfl : (_ : Option Value) = some (.slice none 0 0))
        have g20 := blk_frozen B2.out 0
        have g21 := blk_frozen B2.out 1
        have g22 := blk_frozen B2.out 2
        clear hb hv
        go_wp2_with fail
        have hset := (blk_setCells [.int .i64 rr.1, .bool rr.2.1, .slice Av rr.2.2.length cv] 0 B2.out (by rfl))
        have q0 := blk_cell hset 0
        have q1 := blk_cell hset 1
        have q2 := blk_cell hset 2
        simp [World.setCells] at q0 q1 q2
        have ht := touch_setCells [.int .i64 rr.1, .bool rr.2.1, .slice Av rr.2.2.length cv] 0 (touch_refl (w.heap.size + 1 + 1) (w.heap.size + 1 + 1 + 1) w3)
        have HR := Kd.R_mono (Kd.R_step (Kd.R_types HV.out B2.out (by decide)) (fun k hk hlt => ht.block k hlt (by omega))) (fun _ _ => trivial)
        refine bodyPost_ret (v := .agg #[.int .i64 rr.1, .bool rr.2.1, .slice Av rr.2.2.length cv]) (by simp [results, Try.results39, go_sem, q0, q1, q2]) rfl ⟨_, by rw [HRR.out], by rw [HRR.out]; exact HR, ?_⟩
        exact ((HB.out.setCell (by simp; try omega) _).setCell (by simp; try omega) _).setCell (by simp; try omega) _

end Go.Proofs.Ytajmeeppigdjnaa
