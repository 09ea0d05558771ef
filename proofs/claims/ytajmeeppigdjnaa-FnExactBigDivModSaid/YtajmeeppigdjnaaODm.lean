/- Both 'BigDivMod' walked over their divisions; no condition. -/
import Derived.Test.YtajmeeppigdjnaaODivI
import Derived.Test.YtajmeeppigdjnaaOSub
import Derived.Deep.RegionHeld3
namespace Go.Proofs.Ytajmeeppigdjnaa
open Go.RowKit Go.Proofs.Ytajmeeppigdjnaa.Own Go.Proofs.YtajmeeppigdjnaaW.PrintWords Go.Proofs.YtajmeeppigdjnaaW.PrintMore Go.Proofs.Ytajmeeppigdjnaa.PFnExactBigAdd
set_option linter.unusedVariables false
set_option linter.unusedSimpArgs false

/-- A great number that has no fault. -/
def GoodD (m : Bool) (l : List Int) : Prop := Us l ∧ bgFault m l = false
theorem GoodD.len {m : Bool} {l : List Int} (h : GoodD m l) : l.length ≤ 40 := (bgFault_no h.2).1
theorem GoodD.top {m : Bool} {l : List Int} (h : GoodD m l) : Top l := (bgFault_no h.2).2.1
theorem GoodD.pos {m : Bool} {l : List Int} (h : GoodD m l) (hp : l.length ≠ 0) : 0 < val l := by
  have h1 := top_le h.1 h.top (by omega)
  have h2 := PW_pos (l.length - 1)
  omega
/-- The variables of a division, and the two rows that it answers. -/
structure DmAt (w wx : World) (m m' : Bool) (A A' : Option Addr) (l l' : List Int) (n n' : Nat) : Prop where
  b0 : wx.heap[w.heap.size]? = some (.cells #[.bool m, .slice A l.length n] 24 (0, 0))
  b1 : wx.heap[w.heap.size + 1]? = some (.cells #[.bool m', .slice A' l'.length n'] 24 (0, 0))
  b2 : wx.heap[w.heap.size + 1 + 1]? = some (.cells #[.int .i64 0, .bool false, .slice none 0 0, .bool false, .slice none 0 0] 48 (0, 0))
  bel : Below w.heap.size w wx
theorem DmAt.below {w wx wy : World} {m m' : Bool} {A A' : Option Addr} {l l' : List Int} {n n' : Nat} (h : DmAt w wx m m' A A' l l' n n') (hb : Below wx.heap.size wx wy) : DmAt w wy m m' A A' l l' n n' :=
  ⟨blk_below h.b0 hb, blk_below h.b1 hb, blk_below h.b2 hb, h.bel.trans (hb.mono h.bel.size)⟩
theorem DmAt.store {w wx : World} {m m' : Bool} {A A' : Option Addr} {l l' : List Int} {n n' g i : Nat} {v : Value} (h : DmAt w wx m m' A A' l l' n n') (hg : w.heap.size + 1 + 1 < g) : DmAt w (wx.setCell ⟨g, i, none⟩ v) m m' A A' l l' n n' :=
  ⟨blk_keep h.b0 (by omega), blk_keep h.b1 (by omega), blk_keep h.b2 (by omega), h.bel.setCell (by simp; omega) _⟩
section
variable {w wx : World} {m m' : Bool} {A A' : Option Addr} {l l' : List Int} {n n' : Nat}
theorem DmAt.sz (h : DmAt w wx m m' A A' l l' n n') : w.heap.size + 1 + 1 < wx.heap.size := (Array.getElem?_eq_some_iff.1 h.b2).1
theorem DmAt.c00 (h : DmAt w wx m m' A A' l l' n n') : wx.cell? ⟨w.heap.size, 0, none⟩ = some (.bool m) := (blk_cell h.b0 0).trans rfl
theorem DmAt.c01 (h : DmAt w wx m m' A A' l l' n n') : wx.cell? ⟨w.heap.size, 1, none⟩ = some (.slice A l.length n) := (blk_cell h.b0 1).trans rfl
theorem DmAt.c10 (h : DmAt w wx m m' A A' l l' n n') : wx.cell? ⟨w.heap.size + 1, 0, none⟩ = some (.bool m') := (blk_cell h.b1 0).trans rfl
theorem DmAt.c11 (h : DmAt w wx m m' A A' l l' n n') : wx.cell? ⟨w.heap.size + 1, 1, none⟩ = some (.slice A' l'.length n') := (blk_cell h.b1 1).trans rfl
end
/-- Both rows of an answer, apart. -/
def TwoR (B : Nat) (wx : World) (vq vr : Value) (Lq Lr : List Int) : Prop := Kd.R (Kd.int .u32) 62 wx B (fun k => some k ≠ vr.ownBlock) vq Lq ∧ Kd.R (Kd.int .u32) 62 wx B (fun _ => True) vr Lr
theorem TwoR.below {B : Nat} {wx wy : World} {vq vr : Value} {Lq Lr : List Int} (h : TwoR B wx vq vr Lq Lr) (hb : Below wx.heap.size wx wy) : TwoR B wy vq vr Lq Lr := ⟨Kd.R_below h.1 hb, Kd.R_below h.2 hb⟩
theorem own_lt {e B : Nat} {w : World} {ok : Nat → Prop} {v : Value} {l : List Int} (h : Kd.R (Kd.int .u32) e w B ok v l) : ∀ k, v.ownBlock = some k → k < w.heap.size := fun k hk => by
  obtain ⟨_, _, ho, _⟩ := h
  obtain ⟨_, cur, hc⟩ := ownsRow_block ho hk
  exact (Array.getElem?_eq_some_iff.1 hc).1
/-- First the quotient's row, then the remainder's. -/
theorem twoR_qr {B : Nat} {w1 w2 : World} {vq vr : Value} {Lq Lr : List Int} (hq : Kd.R (Kd.int .u32) 62 w1 B (fun _ => True) vq Lq) (hb : Below w1.heap.size w1 w2) (hr : Kd.R (Kd.int .u32) 62 w2 w1.heap.size (fun _ => True) vr Lr) (hB : B ≤ w1.heap.size) : TwoR B w2 vq vr Lq Lr := by
  refine ⟨Kd.R_below (Kd.R_flat (fun h => h) hq (fun k hk _ e => ?_)) hb, Kd.R_lower hr hB⟩
  have h1 := own_lt hq k hk
  have h2 := (ownsRow_block hr.2.choose_spec.1 e.symm).1
  omega
/-- First the remainder's row, then the quotient's. -/
theorem twoR_rq {B : Nat} {w1 w2 : World} {vq vr : Value} {Lq Lr : List Int} (hr : Kd.R (Kd.int .u32) 62 w1 B (fun _ => True) vr Lr) (hb : Below w1.heap.size w1 w2) (hq : Kd.R (Kd.int .u32) 62 w2 w1.heap.size (fun _ => True) vq Lq) (hB : B ≤ w1.heap.size) : TwoR B w2 vq vr Lq Lr := by
  refine ⟨Kd.R_lower (Kd.R_flat (fun h => h) hq (fun k hk _ e => ?_)) hB, Kd.R_below hr hb⟩
  have h1 := own_lt hr k e.symm
  have h2 := (ownsRow_block hq.2.choose_spec.1 hk).1
  omega
theorem makeCall' (m : Bool) (A : Option Addr) (n c : Nat) (w : World) : Calls Try.prog 51 #[.bool m, .slice A n c] w fun e w' => ∃ x, e = .returned (.agg #[.bool x, .slice A n c]) ∧ x = (m && decide (0 < n)) ∧ Below w.heap.size w w' :=
  (makeCall m A n c w).mono fun e w' h => ⟨_, h.1, rfl, h.2⟩
theorem makeBigCall (m : Bool) (A : Option Addr) (L : List Int) (c : Nat) (w : World) (hu : Us L) (ht : Top L) (hl : L.length ≤ 1048576) (hC : Kd.C (Kd.int .u32) w A L.length L) (hc : L.length ≤ c) :
    Calls Try.prog 53 #[.bool m, .slice A L.length c] w fun e w' => ∃ x v, e = .returned (.agg #[.bool x, v]) ∧ x = (m && decide (0 < L.length)) ∧ Kd.R (Kd.int .u32) 62 w' w.heap.size (fun _ => True) v L ∧ Below w.heap.size w w' := by
  obtain ⟨k, hk⟩ := (impl_makeBig_is m hu hl).rounds
  rw [lim_val hu ht] at hk
  refine (impl_makeBig.calls k m A c L _ _ w hC hc hk).mono ?_
  rintro e w' ⟨v, rfl, hv, hb⟩
  exact ⟨_, _, rfl, rfl, hv, hb⟩
theorem R_set5 {W : World} {v : Value} {l : List Int} {B g : Nat} {cs : Array Value} {ok : Nat → Prop} {vs : List Value} (h : Kd.R (Kd.int .u32) 62 W B ok v l) (hbk : W.heap[g]? = some (.cells cs 48 (0, 0))) : Kd.R (Kd.int .u32) 62 (W.setCells g 0 vs) B ok v l :=
  Kd.R_mono (Kd.R_step (Kd.R_types h hbk (by decide)) (fun k hk hlt => (touch_setCells vs 0 (touch_refl g (g + 1) W)).block k hlt (by have := hk.2; omega))) (fun k hk => hk.1)

set_option maxRecDepth 100000 in
set_option maxHeartbeats 8000000 in
theorem specBigDivMod (m m' : Bool) (l l' : List Int) (hu : Us l) (hu' : Us l') (hl : l.length ≤ 140737488351232) (hl' : l'.length ≤ 140737488351232) (A A' : Option Addr) (n n' : Nat) (hn : l.length ≤ n) (hn' : l'.length ≤ n') (w : World) (hr : Kd.C (Kd.int .u32) w A l.length l) (hr' : Kd.C (Kd.int .u32) w A' l'.length l') :
    Calls Try.prog 40 #[.agg #[.bool m, .slice A l.length n], .agg #[.bool m', .slice A' l'.length n']] w fun e w' => ∃ vq vr, e = .returned (.agg #[.int .i64 (bgDiv m l m' l').1, .bool (bgDiv m l m' l').2.1.1, vq, .bool (bgDiv m l m' l').2.2.1, vr]) ∧ TwoR w.heap.size w' vq vr (bgDiv m l m' l').2.1.2 (bgDiv m l m' l').2.2.2 ∧ Below w.heap.size w w' := by
  have R0 := Lib.hid hr
  have R1 := Lib.hid hr'
  have HU := Lib.hid hu
  have HU' := Lib.hid hu'
  have HN := Lib.hid hn
  have HN' := Lib.hid hn'
  clear hr hr' hu hu' hn hn'
  generalize hW : ((w.alloc (.cells #[.bool m, .slice A l.length n] 24)).alloc (.cells #[.bool m', .slice A' l'.length n'] 24)).alloc (.cells #[.int .i64 0, .bool false, .slice none 0 0, .bool false, .slice none 0 0] 48) = W0
  have D : Hid (DmAt w W0 m m' A A' l l' n n') := by
    subst hW
    exact Lib.hid ⟨blk_old (blk_old (blk_new w _) _) _, blk_old (blk_new_at (by simp)) _, blk_new_at (by simp), (((Below.refl _ _).alloc (Nat.le_refl _) _).alloc (by simp; try omega) _).alloc (by simp; omega) _⟩
  have HW := Lib.hid hW
  clear hW
  go_enter Try.func40, Try.ntmps40
  go_wp2_with fail
  rw [HW.out]
  clear HW
  have CT := spec_BigFault.calls m A n l (bgFault m l) W0 (Kd.C_below R0.out D.out.bel) HN.out (spec_BigFault_is m l hl)
  refine CT.mono ?_
  clear CT
  rintro e w1 ⟨rfl, hb⟩
  replace D := Lib.hid (D.out.below hb)
  clear hb
  have FA : (bgFault m l || bgFault m' l') = true → Hid (bgDiv m l m' l' = (1, (false, []), (false, []))) := fun h => by show _ = _; unfold bgDiv; rw [if_pos h]
  have z20 := (blk_cell D.out.b2 0).trans (rfl : (_ : Option Value) = some (.int .i64 0))
  have z21 := (blk_cell D.out.b2 1).trans (rfl : (_ : Option Value) = some (.bool false))
  have z22 := (blk_cell D.out.b2 2).trans (rfl : (_ : Option Value) = some (.slice none 0 0))
  have z23 := (blk_cell D.out.b2 3).trans (rfl : (_ : Option Value) = some (.bool false))
  have z24 := (blk_cell D.out.b2 4).trans (rfl : (_ : Option Value) = some (.slice none 0 0))
  have f20 := blk_frozen D.out.b2 0
  have f21 := blk_frozen D.out.b2 1
  have f22 := blk_frozen D.out.b2 2
  have f23 := blk_frozen D.out.b2 3
  have f24 := blk_frozen D.out.b2 4
  cases hf : bgFault m l
  rotate_left
  · have FF := Lib.hid (FA (by rw [hf]; rfl)).out
    clear FA hf
    go_wp2_with fail
    rw [FF.out]
    have hset := (blk_setCells [.int .i64 1, .bool false, .slice none 0 0, .bool false, .slice none 0 0] 0 D.out.b2 (by rfl))
    have y0 := blk_cell hset 0
    have y1 := blk_cell hset 1
    have y2 := blk_cell hset 2
    have y3 := blk_cell hset 3
    have y4 := blk_cell hset 4
    simp [World.setCells] at y0 y1 y2 y3 y4
    refine bodyPost_ret (v := .agg #[.int .i64 1, .bool false, .slice none 0 0, .bool false, .slice none 0 0]) (by simp [results, Try.results40, go_sem, y0, y1, y2, y3, y4]) rfl ⟨_, _, rfl, ⟨Kd.R_nil _ _ _ _ _, Kd.R_nil _ _ _ _ _⟩, ?_⟩
    exact ((((D.out.bel.setCell (by simp; try omega) _).setCell (by simp; try omega) _).setCell (by simp; try omega) _).setCell (by simp; try omega) _).setCell (by simp; try omega) _
  · have z10 := D.out.c10
    have z11 := D.out.c11
    have HF := Lib.hid hf
    clear hf
    go_wp2_with fail
    have CT := spec_BigFault.calls m' A' n' l' (bgFault m' l') w1 (Kd.C_below R1.out D.out.bel) HN'.out (spec_BigFault_is m' l' hl')
    refine CT.mono ?_
    clear CT
    rintro e w2 ⟨rfl, hb⟩
    replace D := Lib.hid (D.out.below hb)
    clear hb z20 z21 z22 z23 z24 f20 f21 f22 f23 f24 z10 z11
    have z20 := (blk_cell D.out.b2 0).trans (rfl : (_ : Option Value) = some (.int .i64 0))
    have z21 := (blk_cell D.out.b2 1).trans (rfl : (_ : Option Value) = some (.bool false))
    have z22 := (blk_cell D.out.b2 2).trans (rfl : (_ : Option Value) = some (.slice none 0 0))
    have z23 := (blk_cell D.out.b2 3).trans (rfl : (_ : Option Value) = some (.bool false))
    have z24 := (blk_cell D.out.b2 4).trans (rfl : (_ : Option Value) = some (.slice none 0 0))
    have f20 := blk_frozen D.out.b2 0
    have f21 := blk_frozen D.out.b2 1
    have f22 := blk_frozen D.out.b2 2
    have f23 := blk_frozen D.out.b2 3
    have f24 := blk_frozen D.out.b2 4
    cases hf : bgFault m' l'
    rotate_left
    · have FF := Lib.hid (FA (by rw [hf]; simp)).out
      clear FA hf
      go_wp2_with fail
      rw [FF.out]
      have hset := (blk_setCells [.int .i64 1, .bool false, .slice none 0 0, .bool false, .slice none 0 0] 0 D.out.b2 (by rfl))
      have y0 := blk_cell hset 0
      have y1 := blk_cell hset 1
      have y2 := blk_cell hset 2
      have y3 := blk_cell hset 3
      have y4 := blk_cell hset 4
      simp [World.setCells] at y0 y1 y2 y3 y4
      refine bodyPost_ret (v := .agg #[.int .i64 1, .bool false, .slice none 0 0, .bool false, .slice none 0 0]) (by simp [results, Try.results40, go_sem, y0, y1, y2, y3, y4]) rfl ⟨_, _, rfl, ⟨Kd.R_nil _ _ _ _ _, Kd.R_nil _ _ _ _ _⟩, ?_⟩
      exact ((((D.out.bel.setCell (by simp; try omega) _).setCell (by simp; try omega) _).setCell (by simp; try omega) _).setCell (by simp; try omega) _).setCell (by simp; try omega) _
    · have z00 := D.out.c00
      have z01 := D.out.c01
      have z10 := D.out.c10
      have z11 := D.out.c11
      have HNF : Hid ((bgFault m l || bgFault m' l') = false) := by show _ = _; rw [HF.out, hf]; rfl
      have g0 : GoodD m l := ⟨HU.out, HF.out⟩
      have g1 : GoodD m' l' := ⟨HU'.out, hf⟩
      clear FA hf
      have G0 := Lib.hid g0
      have G1 := Lib.hid g1
      by_cases h0 : l'.length = 0
      · have FF : Hid (bgDiv m l m' l' = (3, (false, []), (false, []))) := by show _ = _; unfold bgDiv; rw [if_neg (by rw [HNF.out]; decide), if_pos h0]
        have l0 : (((l'.length : Nat) : Int) == 0) = true := by rw [h0]; rfl
        clear g0 g1
        go_wp2_with fail
        rw [FF.out]
        have hset := (blk_setCells [.int .i64 3, .bool false, .slice none 0 0, .bool false, .slice none 0 0] 0 D.out.b2 (by rfl))
        have y0 := blk_cell hset 0
        have y1 := blk_cell hset 1
        have y2 := blk_cell hset 2
        have y3 := blk_cell hset 3
        have y4 := blk_cell hset 4
        simp [World.setCells] at y0 y1 y2 y3 y4
        refine bodyPost_ret (v := .agg #[.int .i64 3, .bool false, .slice none 0 0, .bool false, .slice none 0 0]) (by simp [results, Try.results40, go_sem, y0, y1, y2, y3, y4]) rfl ⟨_, _, rfl, ⟨Kd.R_nil _ _ _ _ _, Kd.R_nil _ _ _ _ _⟩, ?_⟩
        exact ((((D.out.bel.setCell (by simp; try omega) _).setCell (by simp; try omega) _).setCell (by simp; try omega) _).setCell (by simp; try omega) _).setCell (by simp; try omega) _
      · have l0 : (((l'.length : Nat) : Int) == 0) = false := by simpa using h0
        have hpos := g1.pos h0
        have hlen := g0.len
        have hlen' := g1.len
        have hq0 : 0 ≤ val l / val l' := Int.ediv_nonneg (val_nonneg g0.1) (by omega)
        have hr0 : 0 ≤ val l % val l' := Int.emod_nonneg _ (by omega)
        have hrl := Int.emod_lt_of_pos (val l) hpos
        have hqle := Int.ediv_le_self (val l') (val_nonneg g0.1)
        obtain ⟨LQ, hLQ⟩ : ∃ L, lim (val l / val l') = L := ⟨_, rfl⟩
        obtain ⟨LR, hLR⟩ : ∃ L, lim (val l % val l') = L := ⟨_, rfl⟩
        have hLRp : decide (0 < LR.length) = decide (0 < val l % val l') := by rw [← hLR]; exact lim_pos hr0
        have hQ40 : LQ.length ≤ 40 := by
          rw [← hLQ]
          have h1 := val_lt g0.1
          exact Nat.le_trans (lim_len_le (n := l.length) hq0 (by have := Int.ediv_le_self (val l') (val_nonneg g0.1); have h3 := Int.ediv_le_self (val l') (val_nonneg g0.1); exact Int.lt_of_le_of_lt (Int.ediv_le_self _ (val_nonneg g0.1)) h1)) hlen
        have hR40 : LR.length ≤ 40 := by
          rw [← hLR]
          have h1 := val_lt g1.1
          exact Nat.le_trans (lim_len_le (n := l'.length) hr0 (by omega)) hlen'
        have huQ : Us LQ := by rw [← hLQ]; exact us_lim _
        have huR : Us LR := by rw [← hLR]; exact us_lim _
        have htQ : Top LQ := by rw [← hLQ]; exact top_lim _
        have htR : Top LR := by rw [← hLR]; exact top_lim _
        have hvQ : val LQ = val l / val l' := by rw [← hLQ]; exact val_lim hq0
        have hvR : val LR = val l % val l' := by rw [← hLR]; exact val_lim hr0
        clear hqle
        have CT := specDiv l l' g0.1 g1.1 hlen hlen' hpos g1.top A A' n n' HN.out HN'.out w2 (Kd.C_below R0.out D.out.bel) (Kd.C_below R1.out D.out.bel)
        rw [hLQ, hLR] at CT
        replace CT := Lib.hid CT
        clear z20 z21 z22 z23 z24 f20 f21 f22 f23 f24
        go_wp2_with fail
        refine CT.out.mono ?_
        clear CT z00 z01 z10 z11
        rintro e w3 ⟨vq, vr, rfl, hvq, hvr, hb⟩
        obtain ⟨Aq, cq, rfl⟩ := Kd.R_slice hvq
        obtain ⟨Ar, cr, rfl⟩ := Kd.R_slice hvr
        have T := Lib.hid (show TwoR w.heap.size w3 (.slice Aq LQ.length cq) (.slice Ar LR.length cr) LQ LR from ⟨Kd.R_lower hvq D.out.bel.size, Kd.R_lower hvr D.out.bel.size⟩)
        replace D := Lib.hid (D.out.below hb)
        have hg5 := D.out.sz
        clear hvq hvr hb
        replace D := Lib.hid (D.out.below (below_old w3 (.cells #[.slice Aq LQ.length cq, .slice Ar LR.length cr] 84)))
        replace T := Lib.hid (T.out.below (below_old w3 (.cells #[.slice Aq LQ.length cq, .slice Ar LR.length cr] 84)))
        have B5 := Lib.hid (blk_new w3 (.cells #[.slice Aq LQ.length cq, .slice Ar LR.length cr] 84))
        have z00 := D.out.c00
        have z10 := D.out.c10
        have z11 := D.out.c11
        have z50 := (blk_cell B5.out 0).trans (rfl : (_ : Option Value) = some (.slice Aq LQ.length cq))
        have z51 := (blk_cell B5.out 1).trans (rfl : (_ : Option Value) = some (.slice Ar LR.length cr))
        by_cases hmm : m = m'
        · have hne1 : (m == m') = true := by simp [hmm]
          have hne2 : (m != m') = false := by simp [hmm]
          have FF : Hid (bgDiv m l m' l' = (0, ((m != m') && decide (0 < LQ.length), LQ), (m' && decide (0 < LR.length), LR))) := by
            show _ = _
            unfold bgDiv
            rw [if_neg (by rw [HNF.out]; decide), if_neg h0]
            have hup : dvUp m m' l l' = false := by unfold dvUp; rw [hne2]; rfl
            unfold dvQ dvR
            rw [hup]
            simp only [Bool.false_eq_true, if_false]
            rw [hLQ, hLR]
          go_upto_region 9 with fail
          generalize (w3.alloc (.cells #[.slice Aq LQ.length cq, .slice Ar LR.length cr] 84)) = W9 at *
          clear z00 z10 z11 z50 z51 hne1 hne2
          replace D := Lib.hid (D.out.below (Below.refl _ _).drew)
          replace T := Lib.hid (T.out.below (Below.refl _ _).drew)
          replace B5 := Lib.hid (blk_drew B5.out)
          have z0 := D.out.c00; have z1 := D.out.c10; have z2 := (blk_cell B5.out 0).trans (rfl : (_ : Option Value) = some (.slice Aq LQ.length cq)); have z3 := (blk_cell B5.out 1).trans (rfl : (_ : Option Value) = some (.slice Ar LR.length cr))
          go_region_held3 (fun w' => w'.cell? ⟨w.heap.size, 0, none⟩ = some (.bool m) ∧ w'.cell? ⟨w.heap.size + 1, 0, none⟩ = some (.bool m') ∧ w'.cell? ⟨w3.heap.size, 0, none⟩ = some (.slice Aq LQ.length cq) ∧ w'.cell? ⟨w3.heap.size, 1, none⟩ = some (.slice Ar LR.length cr))
            (first | (with_reducible exact ⟨z0, z1, z2, z3⟩) | (with_reducible exact ⟨p0, p1, p2, p3⟩) | exact ⟨s0 [.int .i64 0, .bool xq, .slice Aq LQ.length cq, .bool xr, .slice Ar LR.length cr], s1 [.int .i64 0, .bool xq, .slice Aq LQ.length cq, .bool xr, .slice Ar LR.length cr], s2 [.int .i64 0, .bool xq, .slice Aq LQ.length cq, .bool xr, .slice Ar LR.length cr], s3 [.int .i64 0, .bool xq, .slice Aq LQ.length cq, .bool xr, .slice Ar LR.length cr]⟩ | fail)
            (first | (go_at_call 51; (with_reducible refine (makeCall' _ Aq LQ.length cq _).mono ?_); rintro e wq ⟨xq, rfl, hx, hb⟩; have HXq := Lib.hid hx; replace D := Lib.hid (D.out.below hb); replace T := Lib.hid (T.out.below hb); replace B5 := Lib.hid (blk_below B5.out hb); clear hb hx; have p0 := D.out.c00; have p1 := D.out.c10; have p2 := (blk_cell B5.out 0).trans (rfl : (_ : Option Value) = some (.slice Aq LQ.length cq)); have p3 := (blk_cell B5.out 1).trans (rfl : (_ : Option Value) = some (.slice Ar LR.length cr)); have x20 := (blk_cell D.out.b2 0).trans (rfl : (_ : Option Value) = some (.int .i64 0)); have f20 := blk_frozen D.out.b2 0; have x21 := (blk_cell D.out.b2 1).trans (rfl : (_ : Option Value) = some (.bool false)); have f21 := blk_frozen D.out.b2 1; have x22 := (blk_cell D.out.b2 2).trans (rfl : (_ : Option Value) = some (.slice none 0 0)); have f22 := blk_frozen D.out.b2 2; have x23 := (blk_cell D.out.b2 3).trans (rfl : (_ : Option Value) = some (.bool false)); have f23 := blk_frozen D.out.b2 3; have x24 := (blk_cell D.out.b2 4).trans (rfl : (_ : Option Value) = some (.slice none 0 0)); have f24 := blk_frozen D.out.b2 4; have s0 := fun vs => (keep_cell D.out.b2 D.out.b0 (by decide) vs 0).trans (rfl : (_ : Option Value) = some (.bool m)); have s1 := fun vs => (keep_cell D.out.b2 D.out.b1 (by decide) vs 0).trans (rfl : (_ : Option Value) = some (.bool m')); have s2 := fun vs => (keep_cell D.out.b2 B5.out (by decide) vs 0).trans (rfl : (_ : Option Value) = some (.slice Aq LQ.length cq)); have s3 := fun vs => (keep_cell D.out.b2 B5.out (by decide) vs 1).trans (rfl : (_ : Option Value) = some (.slice Ar LR.length cr)))
                   | (go_at_call 51; (with_reducible refine (makeCall' _ Ar LR.length cr _).mono ?_); rintro e wr ⟨xr, rfl, hx, hb⟩; have HXr := Lib.hid hx; replace D := Lib.hid (D.out.below hb); replace T := Lib.hid (T.out.below hb); replace B5 := Lib.hid (blk_below B5.out hb); clear hb hx; have p0 := D.out.c00; have p1 := D.out.c10; have p2 := (blk_cell B5.out 0).trans (rfl : (_ : Option Value) = some (.slice Aq LQ.length cq)); have p3 := (blk_cell B5.out 1).trans (rfl : (_ : Option Value) = some (.slice Ar LR.length cr)); have x20 := (blk_cell D.out.b2 0).trans (rfl : (_ : Option Value) = some (.int .i64 0)); have f20 := blk_frozen D.out.b2 0; have x21 := (blk_cell D.out.b2 1).trans (rfl : (_ : Option Value) = some (.bool false)); have f21 := blk_frozen D.out.b2 1; have x22 := (blk_cell D.out.b2 2).trans (rfl : (_ : Option Value) = some (.slice none 0 0)); have f22 := blk_frozen D.out.b2 2; have x23 := (blk_cell D.out.b2 3).trans (rfl : (_ : Option Value) = some (.bool false)); have f23 := blk_frozen D.out.b2 3; have x24 := (blk_cell D.out.b2 4).trans (rfl : (_ : Option Value) = some (.slice none 0 0)); have f24 := blk_frozen D.out.b2 4; have s0 := fun vs => (keep_cell D.out.b2 D.out.b0 (by decide) vs 0).trans (rfl : (_ : Option Value) = some (.bool m)); have s1 := fun vs => (keep_cell D.out.b2 D.out.b1 (by decide) vs 0).trans (rfl : (_ : Option Value) = some (.bool m')); have s2 := fun vs => (keep_cell D.out.b2 B5.out (by decide) vs 0).trans (rfl : (_ : Option Value) = some (.slice Aq LQ.length cq)); have s3 := fun vs => (keep_cell D.out.b2 B5.out (by decide) vs 1).trans (rfl : (_ : Option Value) = some (.slice Ar LR.length cr))))
          go_wp2_with fail
          have hset := blk_setCells [.int .i64 0, .bool xq, .slice Aq LQ.length cq, .bool xr, .slice Ar LR.length cr] 0 D.out.b2 (by rfl)
          have q0 := blk_cell hset 0
          have q1 := blk_cell hset 1
          have q2 := blk_cell hset 2
          have q3 := blk_cell hset 3
          have q4 := blk_cell hset 4
          simp [World.setCells] at q0 q1 q2 q3 q4
          have T2 : TwoR w.heap.size (World.setCells _ (w.heap.size + 1 + 1) 0 [.int .i64 0, .bool xq, .slice Aq LQ.length cq, .bool xr, .slice Ar LR.length cr]) (.slice Aq LQ.length cq) (.slice Ar LR.length cr) LQ LR := ⟨R_set5 T.out.1 D.out.b2, R_set5 T.out.2 D.out.b2⟩
          refine bodyPost_ret (v := .agg #[.int .i64 0, .bool xq, .slice Aq LQ.length cq, .bool xr, .slice Ar LR.length cr]) (by simp [results, Try.results40, go_sem, q0, q1, q2, q3, q4]) rfl ⟨.slice Aq LQ.length cq, .slice Ar LR.length cr, ?_, ?_, ?_⟩
          · rw [FF.out, HXq.out, HXr.out]
            cases m <;> cases m' <;> first | (simp; done) | (exfalso; simp at hmm; done)
          · rw [FF.out]
            exact T2
          · exact ((((D.out.bel.setCell (by simp; try omega) _).setCell (by simp; try omega) _).setCell (by simp; try omega) _).setCell (by simp; try omega) _).setCell (by simp; try omega) _
        · have hne1 : (m == m') = false := by simpa using hmm
          have hne2 : (m != m') = true := by simpa using hmm
          by_cases hrp : 0 < val l % val l'
          · have hrd : decide (0 < LR.length) = true := by rw [hLRp]; exact decide_eq_true hrp
            obtain ⟨LQ2, hLQ2⟩ : ∃ L, lim (val l / val l' + 1) = L := ⟨_, rfl⟩
            obtain ⟨LR2, hLR2⟩ : ∃ L, lim (val l' - val l % val l') = L := ⟨_, rfl⟩
            have FF : Hid (bgDiv m l m' l' = (0, ((m != m') && decide (0 < LQ2.length), LQ2), (m' && decide (0 < LR2.length), LR2))) := by
              show _ = _
              unfold bgDiv
              rw [if_neg (by rw [HNF.out]; decide), if_neg h0]
              have hup : dvUp m m' l l' = true := by unfold dvUp; rw [hne2, Bool.true_and]; exact decide_eq_true hrp
              unfold dvQ dvR
              rw [hup]
              simp only [if_true]
              rw [hLQ2, hLR2]
            obtain ⟨ka, hka⟩ := (spec_l1Add_is huQ (Us.cons (x := 1) (by omega) (by omega) Us.nil) (by omega) (by simp)).rounds
            rw [val_one, hvQ, hLQ2] at hka
            have hrlen : LR.length ≤ l'.length := len_of_le g1.1 huR htR (by rw [hvR]; omega)
            obtain ⟨ks, hks⟩ := (spec_l1Sub_is g1.1 huR (by omega) hrlen (by rw [hvR]; omega)).rounds
            rw [hvR, hLR2] at hks
            have hCq := Kd.R_reads' T.out.1
            have CTA := Lib.hid (spec_l1Add.calls ka Aq cq LQ (some ⟨w3.heap.size + 1, 0, none⟩) 1 [1] LQ2 ((w3.alloc (.cells #[.slice Aq LQ.length cq, .slice Ar LR.length cr] 84)).alloc (.cells #[.int .u32 1] 62)) (Kd.C_below hCq.2.2 (below_old _ _)) hCq.2.1 (one_row (by simp)) (by simp) hka)
            have HKS := Lib.hid hks
            replace T := Lib.hid (T.out.below (below_old _ (.cells #[.int .u32 1] 62)))
            replace D := Lib.hid (D.out.below (below_old _ (.cells #[.int .u32 1] 62)))
            replace B5 := Lib.hid (blk_old B5.out (.cells #[.int .u32 1] 62))
            have y50 := (blk_cell B5.out 0).trans (rfl : (_ : Option Value) = some (.slice Aq LQ.length cq))
            clear hCq hka hks
            go_wp2_with fail
            refine CTA.out.mono ?_
            clear CTA z00 z10 z11 z50 z51 y50
            rintro e w4 ⟨v, rfl, hv, hb⟩
            obtain ⟨Aq2, cq2, rfl⟩ := Kd.R_slice hv
            have HV := Lib.hid (Kd.R_lower hv D.out.bel.size)
            replace T := Lib.hid (T.out.below hb)
            replace D := Lib.hid (D.out.below hb)
            replace B5 := Lib.hid (blk_below B5.out hb)
            clear hv hb
            have z50 := (blk_cell B5.out 0).trans (rfl : (_ : Option Value) = some (.slice Aq LQ.length cq))
            have f50 := blk_frozen B5.out 0
            have HR5 := Lib.hid (R_past (i := 0) (u := .slice Aq2 LQ2.length cq2) T.out.2 B5.out)
            have HV5 := Lib.hid (R_past (i := 0) (u := .slice Aq2 LQ2.length cq2) HV.out B5.out)
            replace D := Lib.hid (D.out.store (i := 0) (v := .slice Aq2 LQ2.length cq2) hg5)
            replace B5 := Lib.hid (pair_store0 (v := .slice Aq2 LQ2.length cq2) B5.out)
            have z11 := D.out.c11
            have z51 := (blk_cell B5.out 1).trans (rfl : (_ : Option Value) = some (.slice Ar LR.length cr))
            have hCr := Kd.R_reads' HR5.out
            have CTS := Lib.hid (spec_l1Sub.calls ks A' n' l' Ar cr LR LR2 _ (Kd.C_below R1.out D.out.bel) HN'.out hCr.2.2 hCr.2.1 HKS.out)
            clear hCr T HV
            go_wp2_with fail
            refine CTS.out.mono ?_
            clear CTS z50 f50 z11 z51
            rintro e w6 ⟨v, rfl, hv, hb⟩
            obtain ⟨Ar2, cr2, rfl⟩ := Kd.R_slice hv
            have T := Lib.hid (twoR_qr HV5.out hb hv D.out.bel.size)
            replace D := Lib.hid (D.out.below hb)
            replace B5 := Lib.hid (blk_below B5.out hb)
            clear hv hb HR5 HV5
            have z51 := (blk_cell B5.out 1).trans (rfl : (_ : Option Value) = some (.slice Ar LR.length cr))
            have f51 := blk_frozen B5.out 1
            replace T := Lib.hid (show TwoR w.heap.size (w6.setCell ⟨w3.heap.size, 1, none⟩ (.slice Ar2 LR2.length cr2)) _ _ _ _ from ⟨R_past (i := 1) (u := .slice Ar2 LR2.length cr2) T.out.1 B5.out, R_past (i := 1) (u := .slice Ar2 LR2.length cr2) T.out.2 B5.out⟩)
            replace D := Lib.hid (D.out.store (i := 1) (v := .slice Ar2 LR2.length cr2) hg5)
            replace B5 := Lib.hid (pair_store (v := .slice Ar2 LR2.length cr2) B5.out)
            go_upto_region 9 with fail
            generalize (w6.setCell ⟨w3.heap.size, 1, none⟩ (.slice Ar2 LR2.length cr2)) = W9 at *
            clear z51 f51 hne1 hne2
            replace D := Lib.hid (D.out.below (Below.refl _ _).drew)
            replace T := Lib.hid (T.out.below (Below.refl _ _).drew)
            replace B5 := Lib.hid (blk_drew B5.out)
            have z0 := D.out.c00; have z1 := D.out.c10; have z2 := (blk_cell B5.out 0).trans (rfl : (_ : Option Value) = some (.slice Aq2 LQ2.length cq2)); have z3 := (blk_cell B5.out 1).trans (rfl : (_ : Option Value) = some (.slice Ar2 LR2.length cr2))
            go_region_held3 (fun w' => w'.cell? ⟨w.heap.size, 0, none⟩ = some (.bool m) ∧ w'.cell? ⟨w.heap.size + 1, 0, none⟩ = some (.bool m') ∧ w'.cell? ⟨w3.heap.size, 0, none⟩ = some (.slice Aq2 LQ2.length cq2) ∧ w'.cell? ⟨w3.heap.size, 1, none⟩ = some (.slice Ar2 LR2.length cr2))
              (first | (with_reducible exact ⟨z0, z1, z2, z3⟩) | (with_reducible exact ⟨p0, p1, p2, p3⟩) | exact ⟨s0 [.int .i64 0, .bool xq, .slice Aq2 LQ2.length cq2, .bool xr, .slice Ar2 LR2.length cr2], s1 [.int .i64 0, .bool xq, .slice Aq2 LQ2.length cq2, .bool xr, .slice Ar2 LR2.length cr2], s2 [.int .i64 0, .bool xq, .slice Aq2 LQ2.length cq2, .bool xr, .slice Ar2 LR2.length cr2], s3 [.int .i64 0, .bool xq, .slice Aq2 LQ2.length cq2, .bool xr, .slice Ar2 LR2.length cr2]⟩ | fail)
              (first | (go_at_call 51; (with_reducible refine (makeCall' _ Aq2 LQ2.length cq2 _).mono ?_); rintro e wq ⟨xq, rfl, hx, hb⟩; have HXq := Lib.hid hx; replace D := Lib.hid (D.out.below hb); replace T := Lib.hid (T.out.below hb); replace B5 := Lib.hid (blk_below B5.out hb); clear hb hx; have p0 := D.out.c00; have p1 := D.out.c10; have p2 := (blk_cell B5.out 0).trans (rfl : (_ : Option Value) = some (.slice Aq2 LQ2.length cq2)); have p3 := (blk_cell B5.out 1).trans (rfl : (_ : Option Value) = some (.slice Ar2 LR2.length cr2)); have x20 := (blk_cell D.out.b2 0).trans (rfl : (_ : Option Value) = some (.int .i64 0)); have f20 := blk_frozen D.out.b2 0; have x21 := (blk_cell D.out.b2 1).trans (rfl : (_ : Option Value) = some (.bool false)); have f21 := blk_frozen D.out.b2 1; have x22 := (blk_cell D.out.b2 2).trans (rfl : (_ : Option Value) = some (.slice none 0 0)); have f22 := blk_frozen D.out.b2 2; have x23 := (blk_cell D.out.b2 3).trans (rfl : (_ : Option Value) = some (.bool false)); have f23 := blk_frozen D.out.b2 3; have x24 := (blk_cell D.out.b2 4).trans (rfl : (_ : Option Value) = some (.slice none 0 0)); have f24 := blk_frozen D.out.b2 4; have s0 := fun vs => (keep_cell D.out.b2 D.out.b0 (by decide) vs 0).trans (rfl : (_ : Option Value) = some (.bool m)); have s1 := fun vs => (keep_cell D.out.b2 D.out.b1 (by decide) vs 0).trans (rfl : (_ : Option Value) = some (.bool m')); have s2 := fun vs => (keep_cell D.out.b2 B5.out (by decide) vs 0).trans (rfl : (_ : Option Value) = some (.slice Aq2 LQ2.length cq2)); have s3 := fun vs => (keep_cell D.out.b2 B5.out (by decide) vs 1).trans (rfl : (_ : Option Value) = some (.slice Ar2 LR2.length cr2)))
                     | (go_at_call 51; (with_reducible refine (makeCall' _ Ar2 LR2.length cr2 _).mono ?_); rintro e wr ⟨xr, rfl, hx, hb⟩; have HXr := Lib.hid hx; replace D := Lib.hid (D.out.below hb); replace T := Lib.hid (T.out.below hb); replace B5 := Lib.hid (blk_below B5.out hb); clear hb hx; have p0 := D.out.c00; have p1 := D.out.c10; have p2 := (blk_cell B5.out 0).trans (rfl : (_ : Option Value) = some (.slice Aq2 LQ2.length cq2)); have p3 := (blk_cell B5.out 1).trans (rfl : (_ : Option Value) = some (.slice Ar2 LR2.length cr2)); have x20 := (blk_cell D.out.b2 0).trans (rfl : (_ : Option Value) = some (.int .i64 0)); have f20 := blk_frozen D.out.b2 0; have x21 := (blk_cell D.out.b2 1).trans (rfl : (_ : Option Value) = some (.bool false)); have f21 := blk_frozen D.out.b2 1; have x22 := (blk_cell D.out.b2 2).trans (rfl : (_ : Option Value) = some (.slice none 0 0)); have f22 := blk_frozen D.out.b2 2; have x23 := (blk_cell D.out.b2 3).trans (rfl : (_ : Option Value) = some (.bool false)); have f23 := blk_frozen D.out.b2 3; have x24 := (blk_cell D.out.b2 4).trans (rfl : (_ : Option Value) = some (.slice none 0 0)); have f24 := blk_frozen D.out.b2 4; have s0 := fun vs => (keep_cell D.out.b2 D.out.b0 (by decide) vs 0).trans (rfl : (_ : Option Value) = some (.bool m)); have s1 := fun vs => (keep_cell D.out.b2 D.out.b1 (by decide) vs 0).trans (rfl : (_ : Option Value) = some (.bool m')); have s2 := fun vs => (keep_cell D.out.b2 B5.out (by decide) vs 0).trans (rfl : (_ : Option Value) = some (.slice Aq2 LQ2.length cq2)); have s3 := fun vs => (keep_cell D.out.b2 B5.out (by decide) vs 1).trans (rfl : (_ : Option Value) = some (.slice Ar2 LR2.length cr2))))
            go_wp2_with fail
            have hset := blk_setCells [.int .i64 0, .bool xq, .slice Aq2 LQ2.length cq2, .bool xr, .slice Ar2 LR2.length cr2] 0 D.out.b2 (by rfl)
            have q0 := blk_cell hset 0
            have q1 := blk_cell hset 1
            have q2 := blk_cell hset 2
            have q3 := blk_cell hset 3
            have q4 := blk_cell hset 4
            simp [World.setCells] at q0 q1 q2 q3 q4
            have T2 : TwoR w.heap.size (World.setCells _ (w.heap.size + 1 + 1) 0 [.int .i64 0, .bool xq, .slice Aq2 LQ2.length cq2, .bool xr, .slice Ar2 LR2.length cr2]) (.slice Aq2 LQ2.length cq2) (.slice Ar2 LR2.length cr2) LQ2 LR2 := ⟨R_set5 T.out.1 D.out.b2, R_set5 T.out.2 D.out.b2⟩
            refine bodyPost_ret (v := .agg #[.int .i64 0, .bool xq, .slice Aq2 LQ2.length cq2, .bool xr, .slice Ar2 LR2.length cr2]) (by simp [results, Try.results40, go_sem, q0, q1, q2, q3, q4]) rfl ⟨.slice Aq2 LQ2.length cq2, .slice Ar2 LR2.length cr2, ?_, ?_, ?_⟩
            · rw [FF.out, HXq.out, HXr.out]
              cases m <;> cases m' <;> first | (simp; done) | (exfalso; simp at hmm; done)
            · rw [FF.out]
              exact T2
            · exact ((((D.out.bel.setCell (by simp; try omega) _).setCell (by simp; try omega) _).setCell (by simp; try omega) _).setCell (by simp; try omega) _).setCell (by simp; try omega) _
          · have hrd : decide (0 < LR.length) = false := by rw [hLRp]; exact decide_eq_false hrp
            have FF : Hid (bgDiv m l m' l' = (0, ((m != m') && decide (0 < LQ.length), LQ), (m' && decide (0 < LR.length), LR))) := by
              show _ = _
              unfold bgDiv
              rw [if_neg (by rw [HNF.out]; decide), if_neg h0]
              have hup : dvUp m m' l l' = false := by unfold dvUp; rw [decide_eq_false hrp, Bool.and_false]
              unfold dvQ dvR
              rw [hup]
              simp only [Bool.false_eq_true, if_false]
              rw [hLQ, hLR]
            go_upto_region 9 with fail
            generalize (w3.alloc (.cells #[.slice Aq LQ.length cq, .slice Ar LR.length cr] 84)) = W9 at *
            clear z00 z10 z11 z50 z51 hne1 hne2
            replace D := Lib.hid (D.out.below (Below.refl _ _).drew)
            replace T := Lib.hid (T.out.below (Below.refl _ _).drew)
            replace B5 := Lib.hid (blk_drew B5.out)
            have z0 := D.out.c00; have z1 := D.out.c10; have z2 := (blk_cell B5.out 0).trans (rfl : (_ : Option Value) = some (.slice Aq LQ.length cq)); have z3 := (blk_cell B5.out 1).trans (rfl : (_ : Option Value) = some (.slice Ar LR.length cr))
            go_region_held3 (fun w' => w'.cell? ⟨w.heap.size, 0, none⟩ = some (.bool m) ∧ w'.cell? ⟨w.heap.size + 1, 0, none⟩ = some (.bool m') ∧ w'.cell? ⟨w3.heap.size, 0, none⟩ = some (.slice Aq LQ.length cq) ∧ w'.cell? ⟨w3.heap.size, 1, none⟩ = some (.slice Ar LR.length cr))
              (first | (with_reducible exact ⟨z0, z1, z2, z3⟩) | (with_reducible exact ⟨p0, p1, p2, p3⟩) | exact ⟨s0 [.int .i64 0, .bool xq, .slice Aq LQ.length cq, .bool xr, .slice Ar LR.length cr], s1 [.int .i64 0, .bool xq, .slice Aq LQ.length cq, .bool xr, .slice Ar LR.length cr], s2 [.int .i64 0, .bool xq, .slice Aq LQ.length cq, .bool xr, .slice Ar LR.length cr], s3 [.int .i64 0, .bool xq, .slice Aq LQ.length cq, .bool xr, .slice Ar LR.length cr]⟩ | fail)
              (first | (go_at_call 51; (with_reducible refine (makeCall' _ Aq LQ.length cq _).mono ?_); rintro e wq ⟨xq, rfl, hx, hb⟩; have HXq := Lib.hid hx; replace D := Lib.hid (D.out.below hb); replace T := Lib.hid (T.out.below hb); replace B5 := Lib.hid (blk_below B5.out hb); clear hb hx; have p0 := D.out.c00; have p1 := D.out.c10; have p2 := (blk_cell B5.out 0).trans (rfl : (_ : Option Value) = some (.slice Aq LQ.length cq)); have p3 := (blk_cell B5.out 1).trans (rfl : (_ : Option Value) = some (.slice Ar LR.length cr)); have x20 := (blk_cell D.out.b2 0).trans (rfl : (_ : Option Value) = some (.int .i64 0)); have f20 := blk_frozen D.out.b2 0; have x21 := (blk_cell D.out.b2 1).trans (rfl : (_ : Option Value) = some (.bool false)); have f21 := blk_frozen D.out.b2 1; have x22 := (blk_cell D.out.b2 2).trans (rfl : (_ : Option Value) = some (.slice none 0 0)); have f22 := blk_frozen D.out.b2 2; have x23 := (blk_cell D.out.b2 3).trans (rfl : (_ : Option Value) = some (.bool false)); have f23 := blk_frozen D.out.b2 3; have x24 := (blk_cell D.out.b2 4).trans (rfl : (_ : Option Value) = some (.slice none 0 0)); have f24 := blk_frozen D.out.b2 4; have s0 := fun vs => (keep_cell D.out.b2 D.out.b0 (by decide) vs 0).trans (rfl : (_ : Option Value) = some (.bool m)); have s1 := fun vs => (keep_cell D.out.b2 D.out.b1 (by decide) vs 0).trans (rfl : (_ : Option Value) = some (.bool m')); have s2 := fun vs => (keep_cell D.out.b2 B5.out (by decide) vs 0).trans (rfl : (_ : Option Value) = some (.slice Aq LQ.length cq)); have s3 := fun vs => (keep_cell D.out.b2 B5.out (by decide) vs 1).trans (rfl : (_ : Option Value) = some (.slice Ar LR.length cr)))
                     | (go_at_call 51; (with_reducible refine (makeCall' _ Ar LR.length cr _).mono ?_); rintro e wr ⟨xr, rfl, hx, hb⟩; have HXr := Lib.hid hx; replace D := Lib.hid (D.out.below hb); replace T := Lib.hid (T.out.below hb); replace B5 := Lib.hid (blk_below B5.out hb); clear hb hx; have p0 := D.out.c00; have p1 := D.out.c10; have p2 := (blk_cell B5.out 0).trans (rfl : (_ : Option Value) = some (.slice Aq LQ.length cq)); have p3 := (blk_cell B5.out 1).trans (rfl : (_ : Option Value) = some (.slice Ar LR.length cr)); have x20 := (blk_cell D.out.b2 0).trans (rfl : (_ : Option Value) = some (.int .i64 0)); have f20 := blk_frozen D.out.b2 0; have x21 := (blk_cell D.out.b2 1).trans (rfl : (_ : Option Value) = some (.bool false)); have f21 := blk_frozen D.out.b2 1; have x22 := (blk_cell D.out.b2 2).trans (rfl : (_ : Option Value) = some (.slice none 0 0)); have f22 := blk_frozen D.out.b2 2; have x23 := (blk_cell D.out.b2 3).trans (rfl : (_ : Option Value) = some (.bool false)); have f23 := blk_frozen D.out.b2 3; have x24 := (blk_cell D.out.b2 4).trans (rfl : (_ : Option Value) = some (.slice none 0 0)); have f24 := blk_frozen D.out.b2 4; have s0 := fun vs => (keep_cell D.out.b2 D.out.b0 (by decide) vs 0).trans (rfl : (_ : Option Value) = some (.bool m)); have s1 := fun vs => (keep_cell D.out.b2 D.out.b1 (by decide) vs 0).trans (rfl : (_ : Option Value) = some (.bool m')); have s2 := fun vs => (keep_cell D.out.b2 B5.out (by decide) vs 0).trans (rfl : (_ : Option Value) = some (.slice Aq LQ.length cq)); have s3 := fun vs => (keep_cell D.out.b2 B5.out (by decide) vs 1).trans (rfl : (_ : Option Value) = some (.slice Ar LR.length cr))))
            go_wp2_with fail
            have hset := blk_setCells [.int .i64 0, .bool xq, .slice Aq LQ.length cq, .bool xr, .slice Ar LR.length cr] 0 D.out.b2 (by rfl)
            have q0 := blk_cell hset 0
            have q1 := blk_cell hset 1
            have q2 := blk_cell hset 2
            have q3 := blk_cell hset 3
            have q4 := blk_cell hset 4
            simp [World.setCells] at q0 q1 q2 q3 q4
            have T2 : TwoR w.heap.size (World.setCells _ (w.heap.size + 1 + 1) 0 [.int .i64 0, .bool xq, .slice Aq LQ.length cq, .bool xr, .slice Ar LR.length cr]) (.slice Aq LQ.length cq) (.slice Ar LR.length cr) LQ LR := ⟨R_set5 T.out.1 D.out.b2, R_set5 T.out.2 D.out.b2⟩
            refine bodyPost_ret (v := .agg #[.int .i64 0, .bool xq, .slice Aq LQ.length cq, .bool xr, .slice Ar LR.length cr]) (by simp [results, Try.results40, go_sem, q0, q1, q2, q3, q4]) rfl ⟨.slice Aq LQ.length cq, .slice Ar LR.length cr, ?_, ?_, ?_⟩
            · rw [FF.out, HXq.out, HXr.out]
              cases m <;> cases m' <;> first | (simp; done) | (exfalso; simp at hmm; done)
            · rw [FF.out]
              exact T2
            · exact ((((D.out.bel.setCell (by simp; try omega) _).setCell (by simp; try omega) _).setCell (by simp; try omega) _).setCell (by simp; try omega) _).setCell (by simp; try omega) _

set_option maxRecDepth 100000 in
set_option maxHeartbeats 8000000 in
theorem implBigDivMod (m m' : Bool) (l l' : List Int) (hu : Us l) (hu' : Us l') (hl : l.length ≤ 140737488351232) (hl' : l'.length ≤ 140737488351232) (A A' : Option Addr) (n n' : Nat) (hn : l.length ≤ n) (hn' : l'.length ≤ n') (w : World) (hr : Kd.C (Kd.int .u32) w A l.length l) (hr' : Kd.C (Kd.int .u32) w A' l'.length l') :
    Calls Try.prog 41 #[.agg #[.bool m, .slice A l.length n], .agg #[.bool m', .slice A' l'.length n']] w fun e w' => ∃ vq vr, e = .returned (.agg #[.int .i64 (bgDiv m l m' l').1, .bool (bgDiv m l m' l').2.1.1, vq, .bool (bgDiv m l m' l').2.2.1, vr]) ∧ TwoR w.heap.size w' vq vr (bgDiv m l m' l').2.1.2 (bgDiv m l m' l').2.2.2 ∧ Below w.heap.size w w' := by
  have R0 := Lib.hid hr
  have R1 := Lib.hid hr'
  have HU := Lib.hid hu
  have HU' := Lib.hid hu'
  have HN := Lib.hid hn
  have HN' := Lib.hid hn'
  clear hr hr' hu hu' hn hn'
  generalize hW : ((w.alloc (.cells #[.bool m, .slice A l.length n] 24)).alloc (.cells #[.bool m', .slice A' l'.length n'] 24)).alloc (.cells #[.int .i64 0, .bool false, .slice none 0 0, .bool false, .slice none 0 0] 48) = W0
  have D : Hid (DmAt w W0 m m' A A' l l' n n') := by
    subst hW
    exact Lib.hid ⟨blk_old (blk_old (blk_new w _) _) _, blk_old (blk_new_at (by simp)) _, blk_new_at (by simp), (((Below.refl _ _).alloc (Nat.le_refl _) _).alloc (by simp; try omega) _).alloc (by simp; omega) _⟩
  have HW := Lib.hid hW
  clear hW
  go_enter Try.func41, Try.ntmps41
  go_wp2_with fail
  rw [HW.out]
  clear HW
  have CT := impl_BigFault.calls m A n l (bgFault m l) W0 (Kd.C_below R0.out D.out.bel) HN.out (impl_BigFault_is m l hl)
  refine CT.mono ?_
  clear CT
  rintro e w1 ⟨rfl, hb⟩
  replace D := Lib.hid (D.out.below hb)
  clear hb
  have FA : (bgFault m l || bgFault m' l') = true → Hid (bgDiv m l m' l' = (1, (false, []), (false, []))) := fun h => by show _ = _; unfold bgDiv; rw [if_pos h]
  have z20 := (blk_cell D.out.b2 0).trans (rfl : (_ : Option Value) = some (.int .i64 0))
  have z21 := (blk_cell D.out.b2 1).trans (rfl : (_ : Option Value) = some (.bool false))
  have z22 := (blk_cell D.out.b2 2).trans (rfl : (_ : Option Value) = some (.slice none 0 0))
  have z23 := (blk_cell D.out.b2 3).trans (rfl : (_ : Option Value) = some (.bool false))
  have z24 := (blk_cell D.out.b2 4).trans (rfl : (_ : Option Value) = some (.slice none 0 0))
  have f20 := blk_frozen D.out.b2 0
  have f21 := blk_frozen D.out.b2 1
  have f22 := blk_frozen D.out.b2 2
  have f23 := blk_frozen D.out.b2 3
  have f24 := blk_frozen D.out.b2 4
  cases hf : bgFault m l
  rotate_left
  · have FF := Lib.hid (FA (by rw [hf]; rfl)).out
    clear FA hf
    go_wp2_with fail
    rw [FF.out]
    have hset := (blk_setCells [.int .i64 1, .bool false, .slice none 0 0, .bool false, .slice none 0 0] 0 D.out.b2 (by rfl))
    have y0 := blk_cell hset 0
    have y1 := blk_cell hset 1
    have y2 := blk_cell hset 2
    have y3 := blk_cell hset 3
    have y4 := blk_cell hset 4
    simp [World.setCells] at y0 y1 y2 y3 y4
    refine bodyPost_ret (v := .agg #[.int .i64 1, .bool false, .slice none 0 0, .bool false, .slice none 0 0]) (by simp [results, Try.results41, go_sem, y0, y1, y2, y3, y4]) rfl ⟨_, _, rfl, ⟨Kd.R_nil _ _ _ _ _, Kd.R_nil _ _ _ _ _⟩, ?_⟩
    exact ((((D.out.bel.setCell (by simp; try omega) _).setCell (by simp; try omega) _).setCell (by simp; try omega) _).setCell (by simp; try omega) _).setCell (by simp; try omega) _
  · have z10 := D.out.c10
    have z11 := D.out.c11
    have HF := Lib.hid hf
    clear hf
    go_wp2_with fail
    have CT := impl_BigFault.calls m' A' n' l' (bgFault m' l') w1 (Kd.C_below R1.out D.out.bel) HN'.out (impl_BigFault_is m' l' hl')
    refine CT.mono ?_
    clear CT
    rintro e w2 ⟨rfl, hb⟩
    replace D := Lib.hid (D.out.below hb)
    clear hb z20 z21 z22 z23 z24 f20 f21 f22 f23 f24 z10 z11
    have z20 := (blk_cell D.out.b2 0).trans (rfl : (_ : Option Value) = some (.int .i64 0))
    have z21 := (blk_cell D.out.b2 1).trans (rfl : (_ : Option Value) = some (.bool false))
    have z22 := (blk_cell D.out.b2 2).trans (rfl : (_ : Option Value) = some (.slice none 0 0))
    have z23 := (blk_cell D.out.b2 3).trans (rfl : (_ : Option Value) = some (.bool false))
    have z24 := (blk_cell D.out.b2 4).trans (rfl : (_ : Option Value) = some (.slice none 0 0))
    have f20 := blk_frozen D.out.b2 0
    have f21 := blk_frozen D.out.b2 1
    have f22 := blk_frozen D.out.b2 2
    have f23 := blk_frozen D.out.b2 3
    have f24 := blk_frozen D.out.b2 4
    cases hf : bgFault m' l'
    rotate_left
    · have FF := Lib.hid (FA (by rw [hf]; simp)).out
      clear FA hf
      go_wp2_with fail
      rw [FF.out]
      have hset := (blk_setCells [.int .i64 1, .bool false, .slice none 0 0, .bool false, .slice none 0 0] 0 D.out.b2 (by rfl))
      have y0 := blk_cell hset 0
      have y1 := blk_cell hset 1
      have y2 := blk_cell hset 2
      have y3 := blk_cell hset 3
      have y4 := blk_cell hset 4
      simp [World.setCells] at y0 y1 y2 y3 y4
      refine bodyPost_ret (v := .agg #[.int .i64 1, .bool false, .slice none 0 0, .bool false, .slice none 0 0]) (by simp [results, Try.results41, go_sem, y0, y1, y2, y3, y4]) rfl ⟨_, _, rfl, ⟨Kd.R_nil _ _ _ _ _, Kd.R_nil _ _ _ _ _⟩, ?_⟩
      exact ((((D.out.bel.setCell (by simp; try omega) _).setCell (by simp; try omega) _).setCell (by simp; try omega) _).setCell (by simp; try omega) _).setCell (by simp; try omega) _
    · have z00 := D.out.c00
      have z01 := D.out.c01
      have z10 := D.out.c10
      have z11 := D.out.c11
      have HNF : Hid ((bgFault m l || bgFault m' l') = false) := by show _ = _; rw [HF.out, hf]; rfl
      have g0 : GoodD m l := ⟨HU.out, HF.out⟩
      have g1 : GoodD m' l' := ⟨HU'.out, hf⟩
      clear FA hf
      have G0 := Lib.hid g0
      have G1 := Lib.hid g1
      by_cases h0 : l'.length = 0
      · have FF : Hid (bgDiv m l m' l' = (3, (false, []), (false, []))) := by show _ = _; unfold bgDiv; rw [if_neg (by rw [HNF.out]; decide), if_pos h0]
        have l0 : (((l'.length : Nat) : Int) == 0) = true := by rw [h0]; rfl
        clear g0 g1
        go_wp2_with fail
        rw [FF.out]
        have hset := (blk_setCells [.int .i64 3, .bool false, .slice none 0 0, .bool false, .slice none 0 0] 0 D.out.b2 (by rfl))
        have y0 := blk_cell hset 0
        have y1 := blk_cell hset 1
        have y2 := blk_cell hset 2
        have y3 := blk_cell hset 3
        have y4 := blk_cell hset 4
        simp [World.setCells] at y0 y1 y2 y3 y4
        refine bodyPost_ret (v := .agg #[.int .i64 3, .bool false, .slice none 0 0, .bool false, .slice none 0 0]) (by simp [results, Try.results41, go_sem, y0, y1, y2, y3, y4]) rfl ⟨_, _, rfl, ⟨Kd.R_nil _ _ _ _ _, Kd.R_nil _ _ _ _ _⟩, ?_⟩
        exact ((((D.out.bel.setCell (by simp; try omega) _).setCell (by simp; try omega) _).setCell (by simp; try omega) _).setCell (by simp; try omega) _).setCell (by simp; try omega) _
      · have l0 : (((l'.length : Nat) : Int) == 0) = false := by simpa using h0
        have hpos := g1.pos h0
        have hlen := g0.len
        have hlen' := g1.len
        have hq0 : 0 ≤ val l / val l' := Int.ediv_nonneg (val_nonneg g0.1) (by omega)
        have hr0 : 0 ≤ val l % val l' := Int.emod_nonneg _ (by omega)
        have hrl := Int.emod_lt_of_pos (val l) hpos
        have hqle := Int.ediv_le_self (val l') (val_nonneg g0.1)
        obtain ⟨LQ, hLQ⟩ : ∃ L, lim (val l / val l') = L := ⟨_, rfl⟩
        obtain ⟨LR, hLR⟩ : ∃ L, lim (val l % val l') = L := ⟨_, rfl⟩
        have hLRp : decide (0 < LR.length) = decide (0 < val l % val l') := by rw [← hLR]; exact lim_pos hr0
        have hQ40 : LQ.length ≤ 40 := by
          rw [← hLQ]
          have h1 := val_lt g0.1
          exact Nat.le_trans (lim_len_le (n := l.length) hq0 (by have := Int.ediv_le_self (val l') (val_nonneg g0.1); have h3 := Int.ediv_le_self (val l') (val_nonneg g0.1); exact Int.lt_of_le_of_lt (Int.ediv_le_self _ (val_nonneg g0.1)) h1)) hlen
        have hR40 : LR.length ≤ 40 := by
          rw [← hLR]
          have h1 := val_lt g1.1
          exact Nat.le_trans (lim_len_le (n := l'.length) hr0 (by omega)) hlen'
        have huQ : Us LQ := by rw [← hLQ]; exact us_lim _
        have huR : Us LR := by rw [← hLR]; exact us_lim _
        have htQ : Top LQ := by rw [← hLQ]; exact top_lim _
        have htR : Top LR := by rw [← hLR]; exact top_lim _
        have hvQ : val LQ = val l / val l' := by rw [← hLQ]; exact val_lim hq0
        have hvR : val LR = val l % val l' := by rw [← hLR]; exact val_lim hr0
        clear hqle
        have CT := implDiv l l' g0.1 g1.1 hlen hlen' hpos g1.top A A' n n' HN.out HN'.out w2 (Kd.C_below R0.out D.out.bel) (Kd.C_below R1.out D.out.bel)
        rw [hLQ, hLR] at CT
        replace CT := Lib.hid CT
        clear z20 z21 z22 z23 z24 f20 f21 f22 f23 f24
        go_wp2_with fail
        refine CT.out.mono ?_
        clear CT z00 z01 z10 z11
        rintro e w3 ⟨Aq, cq, Ar, cr, rfl, hcq, hcq2, hcr, hcr2, hb⟩
        have Cq := Lib.hid hcq
        have Cr := Lib.hid hcr
        have HCq := Lib.hid hcq2
        have HCr := Lib.hid hcr2
        replace D := Lib.hid (D.out.below hb)
        clear hcq hcq2 hcr hcr2 hb
        have z00 := D.out.c00
        have z10 := D.out.c10
        have z11 := D.out.c11
        by_cases hmm : m = m'
        · have hne1 : (m == m') = true := by simp [hmm]
          have hne2 : (m != m') = false := by simp [hmm]
          have FF : Hid (bgDiv m l m' l' = (0, ((m != m') && decide (0 < LQ.length), LQ), (m' && decide (0 < LR.length), LR))) := by
            show _ = _
            unfold bgDiv
            rw [if_neg (by rw [HNF.out]; decide), if_neg h0]
            have hup : dvUp m m' l l' = false := by unfold dvUp; rw [hne2]; rfl
            unfold dvQ dvR
            rw [hup]
            simp only [Bool.false_eq_true, if_false]
            rw [hLQ, hLR]
          go_upto_region 9 with fail
          clear z00 z10 z11 hne1 hne2
          replace D := Lib.hid (D.out.below (Below.refl _ _).drew)
          replace Cq := Lib.hid (Kd.C_below Cq.out (Below.refl _ _).drew)
          replace Cr := Lib.hid (Kd.C_below Cr.out (Below.refl _ _).drew)
          have z0 := D.out.c00; have z1 := D.out.c10
          go_region_held3 (fun w' => w'.cell? ⟨w.heap.size, 0, none⟩ = some (.bool m) ∧ w'.cell? ⟨w.heap.size + 1, 0, none⟩ = some (.bool m'))
            (first | (with_reducible exact ⟨z0, z1⟩) | (with_reducible exact ⟨p0, p1⟩) | exact ⟨s0 [.int .i64 0, .bool xq, .slice Bq LQ.length dq, .bool xr, .slice Br LR.length dr], s1 [.int .i64 0, .bool xq, .slice Bq LQ.length dq, .bool xr, .slice Br LR.length dr]⟩ | fail)
            (first | (go_at_call 53; (with_reducible refine (makeBigCall _ Aq LQ cq _ huQ htQ (by omega) Cq.out HCq.out).mono ?_); rintro e wq ⟨xq, v, rfl, hx, hv, hb⟩; obtain ⟨Bq, dq, rfl⟩ := Kd.R_slice hv; have HXq := Lib.hid hx; have T := Lib.hid (twoR_rq HVr.out hb hv D.out.bel.size); replace D := Lib.hid (D.out.below hb); replace Cq := Lib.hid (Kd.C_below Cq.out hb); replace Cr := Lib.hid (Kd.C_below Cr.out hb); clear hb hx hv; have p0 := D.out.c00; have p1 := D.out.c10; have x20 := (blk_cell D.out.b2 0).trans (rfl : (_ : Option Value) = some (.int .i64 0)); have f20 := blk_frozen D.out.b2 0; have x21 := (blk_cell D.out.b2 1).trans (rfl : (_ : Option Value) = some (.bool false)); have f21 := blk_frozen D.out.b2 1; have x22 := (blk_cell D.out.b2 2).trans (rfl : (_ : Option Value) = some (.slice none 0 0)); have f22 := blk_frozen D.out.b2 2; have x23 := (blk_cell D.out.b2 3).trans (rfl : (_ : Option Value) = some (.bool false)); have f23 := blk_frozen D.out.b2 3; have x24 := (blk_cell D.out.b2 4).trans (rfl : (_ : Option Value) = some (.slice none 0 0)); have f24 := blk_frozen D.out.b2 4; have s0 := fun vs => (keep_cell D.out.b2 D.out.b0 (by decide) vs 0).trans (rfl : (_ : Option Value) = some (.bool m)); have s1 := fun vs => (keep_cell D.out.b2 D.out.b1 (by decide) vs 0).trans (rfl : (_ : Option Value) = some (.bool m')))
                   | (go_at_call 53; (with_reducible refine (makeBigCall _ Aq LQ cq _ huQ htQ (by omega) Cq.out HCq.out).mono ?_); rintro e wq ⟨xq, v, rfl, hx, hv, hb⟩; obtain ⟨Bq, dq, rfl⟩ := Kd.R_slice hv; have HXq := Lib.hid hx; have HVq := Lib.hid (Kd.R_lower hv D.out.bel.size); replace D := Lib.hid (D.out.below hb); replace Cq := Lib.hid (Kd.C_below Cq.out hb); replace Cr := Lib.hid (Kd.C_below Cr.out hb); clear hb hx hv; have p0 := D.out.c00; have p1 := D.out.c10; have x20 := (blk_cell D.out.b2 0).trans (rfl : (_ : Option Value) = some (.int .i64 0)); have f20 := blk_frozen D.out.b2 0; have x21 := (blk_cell D.out.b2 1).trans (rfl : (_ : Option Value) = some (.bool false)); have f21 := blk_frozen D.out.b2 1; have x22 := (blk_cell D.out.b2 2).trans (rfl : (_ : Option Value) = some (.slice none 0 0)); have f22 := blk_frozen D.out.b2 2; have x23 := (blk_cell D.out.b2 3).trans (rfl : (_ : Option Value) = some (.bool false)); have f23 := blk_frozen D.out.b2 3; have x24 := (blk_cell D.out.b2 4).trans (rfl : (_ : Option Value) = some (.slice none 0 0)); have f24 := blk_frozen D.out.b2 4; have s0 := fun vs => (keep_cell D.out.b2 D.out.b0 (by decide) vs 0).trans (rfl : (_ : Option Value) = some (.bool m)); have s1 := fun vs => (keep_cell D.out.b2 D.out.b1 (by decide) vs 0).trans (rfl : (_ : Option Value) = some (.bool m')))
                   | (go_at_call 53; (with_reducible refine (makeBigCall _ Ar LR cr _ huR htR (by omega) Cr.out HCr.out).mono ?_); rintro e wr ⟨xr, v, rfl, hx, hv, hb⟩; obtain ⟨Br, dr, rfl⟩ := Kd.R_slice hv; have HXr := Lib.hid hx; have T := Lib.hid (twoR_qr HVq.out hb hv D.out.bel.size); replace D := Lib.hid (D.out.below hb); replace Cq := Lib.hid (Kd.C_below Cq.out hb); replace Cr := Lib.hid (Kd.C_below Cr.out hb); clear hb hx hv; have p0 := D.out.c00; have p1 := D.out.c10; have x20 := (blk_cell D.out.b2 0).trans (rfl : (_ : Option Value) = some (.int .i64 0)); have f20 := blk_frozen D.out.b2 0; have x21 := (blk_cell D.out.b2 1).trans (rfl : (_ : Option Value) = some (.bool false)); have f21 := blk_frozen D.out.b2 1; have x22 := (blk_cell D.out.b2 2).trans (rfl : (_ : Option Value) = some (.slice none 0 0)); have f22 := blk_frozen D.out.b2 2; have x23 := (blk_cell D.out.b2 3).trans (rfl : (_ : Option Value) = some (.bool false)); have f23 := blk_frozen D.out.b2 3; have x24 := (blk_cell D.out.b2 4).trans (rfl : (_ : Option Value) = some (.slice none 0 0)); have f24 := blk_frozen D.out.b2 4; have s0 := fun vs => (keep_cell D.out.b2 D.out.b0 (by decide) vs 0).trans (rfl : (_ : Option Value) = some (.bool m)); have s1 := fun vs => (keep_cell D.out.b2 D.out.b1 (by decide) vs 0).trans (rfl : (_ : Option Value) = some (.bool m')))
                   | (go_at_call 53; (with_reducible refine (makeBigCall _ Ar LR cr _ huR htR (by omega) Cr.out HCr.out).mono ?_); rintro e wr ⟨xr, v, rfl, hx, hv, hb⟩; obtain ⟨Br, dr, rfl⟩ := Kd.R_slice hv; have HXr := Lib.hid hx; have HVr := Lib.hid (Kd.R_lower hv D.out.bel.size); replace D := Lib.hid (D.out.below hb); replace Cq := Lib.hid (Kd.C_below Cq.out hb); replace Cr := Lib.hid (Kd.C_below Cr.out hb); clear hb hx hv; have p0 := D.out.c00; have p1 := D.out.c10; have x20 := (blk_cell D.out.b2 0).trans (rfl : (_ : Option Value) = some (.int .i64 0)); have f20 := blk_frozen D.out.b2 0; have x21 := (blk_cell D.out.b2 1).trans (rfl : (_ : Option Value) = some (.bool false)); have f21 := blk_frozen D.out.b2 1; have x22 := (blk_cell D.out.b2 2).trans (rfl : (_ : Option Value) = some (.slice none 0 0)); have f22 := blk_frozen D.out.b2 2; have x23 := (blk_cell D.out.b2 3).trans (rfl : (_ : Option Value) = some (.bool false)); have f23 := blk_frozen D.out.b2 3; have x24 := (blk_cell D.out.b2 4).trans (rfl : (_ : Option Value) = some (.slice none 0 0)); have f24 := blk_frozen D.out.b2 4; have s0 := fun vs => (keep_cell D.out.b2 D.out.b0 (by decide) vs 0).trans (rfl : (_ : Option Value) = some (.bool m)); have s1 := fun vs => (keep_cell D.out.b2 D.out.b1 (by decide) vs 0).trans (rfl : (_ : Option Value) = some (.bool m'))))
          go_wp2_with fail
          have hset := blk_setCells [.int .i64 0, .bool xq, .slice Bq LQ.length dq, .bool xr, .slice Br LR.length dr] 0 D.out.b2 (by rfl)
          have q0 := blk_cell hset 0
          have q1 := blk_cell hset 1
          have q2 := blk_cell hset 2
          have q3 := blk_cell hset 3
          have q4 := blk_cell hset 4
          simp [World.setCells] at q0 q1 q2 q3 q4
          have T2 : TwoR w.heap.size (World.setCells _ (w.heap.size + 1 + 1) 0 [.int .i64 0, .bool xq, .slice Bq LQ.length dq, .bool xr, .slice Br LR.length dr]) (.slice Bq LQ.length dq) (.slice Br LR.length dr) LQ LR := ⟨R_set5 T.out.1 D.out.b2, R_set5 T.out.2 D.out.b2⟩
          refine bodyPost_ret (v := .agg #[.int .i64 0, .bool xq, .slice Bq LQ.length dq, .bool xr, .slice Br LR.length dr]) (by simp [results, Try.results41, go_sem, q0, q1, q2, q3, q4]) rfl ⟨.slice Bq LQ.length dq, .slice Br LR.length dr, ?_, ?_, ?_⟩
          · rw [FF.out, HXq.out, HXr.out]
            cases m <;> cases m' <;> first | (simp; done) | (exfalso; simp at hmm; done)
          · rw [FF.out]
            exact T2
          · exact ((((D.out.bel.setCell (by simp; try omega) _).setCell (by simp; try omega) _).setCell (by simp; try omega) _).setCell (by simp; try omega) _).setCell (by simp; try omega) _
        · have hne1 : (m == m') = false := by simpa using hmm
          have hne2 : (m != m') = true := by simpa using hmm
          by_cases hrp : 0 < val l % val l'
          · have hrd : decide (0 < LR.length) = true := by rw [hLRp]; exact decide_eq_true hrp
            obtain ⟨LQ2, hLQ2⟩ : ∃ L, lim (val l / val l' + 1) = L := ⟨_, rfl⟩
            obtain ⟨LR2, hLR2⟩ : ∃ L, lim (val l' - val l % val l') = L := ⟨_, rfl⟩
            have FF : Hid (bgDiv m l m' l' = (0, ((m != m') && decide (0 < LQ2.length), LQ2), (m' && decide (0 < LR2.length), LR2))) := by
              show _ = _
              unfold bgDiv
              rw [if_neg (by rw [HNF.out]; decide), if_neg h0]
              have hup : dvUp m m' l l' = true := by unfold dvUp; rw [hne2, Bool.true_and]; exact decide_eq_true hrp
              unfold dvQ dvR
              rw [hup]
              simp only [if_true]
              rw [hLQ2, hLR2]
            have hka : impl_addLimbs.f 0 LQ [1] = some (lim (val LQ + val [1])) := by unfold impl_addLimbs.f; exact if_pos ⟨by omega, by simp, huQ, Us.cons (by omega) (by omega) Us.nil⟩
            rw [val_one, hvQ, hLQ2] at hka
            have hrlen : LR.length ≤ l'.length := len_of_le g1.1 huR htR (by rw [hvR]; omega)
            have hks : impl_subLimbs.f 0 l' LR = some (lim (val l' - val LR)) := by unfold impl_subLimbs.f; exact if_pos ⟨by omega, hrlen, g1.1, huR, by rw [hvR]; omega⟩
            rw [hvR, hLR2] at hks
            have huQ2 : Us LQ2 := by rw [← hLQ2]; exact us_lim _
            have htQ2 : Top LQ2 := by rw [← hLQ2]; exact top_lim _
            have huR2 : Us LR2 := by rw [← hLR2]; exact us_lim _
            have htR2 : Top LR2 := by rw [← hLR2]; exact top_lim _
            have hQ41 : LQ2.length ≤ 41 := by
              rw [← hLQ2]
              have h1 := val_lt huQ
              have h2 := PW_mono hQ40
              have e41 : PW 41 = 4294967296 * PW 40 := PW_succ 40
              have := PW_pos 40
              exact lim_len_le (n := 41) (by omega) (by omega)
            have hR41 : LR2.length ≤ 41 := by
              rw [← hLR2]
              have h1 := val_lt g1.1
              have h2 := PW_mono hlen'
              have e41 : PW 41 = 4294967296 * PW 40 := PW_succ 40
              have := PW_pos 40
              exact lim_len_le (n := 41) (by omega) (by omega)
            have CTA := Lib.hid (impl_addLimbs.calls 0 Aq cq LQ (some ⟨w3.heap.size, 0, none⟩) 1 [1] LQ2 (w3.alloc (.cells #[.int .u32 1] 62)) (Kd.C_below Cq.out (below_old _ _)) HCq.out (one_row rfl) (by simp) hka)
            have HKS := Lib.hid hks
            replace D := Lib.hid (D.out.below (below_old _ (.cells #[.int .u32 1] 62)))
            replace Cr := Lib.hid (Kd.C_below Cr.out (below_old _ (.cells #[.int .u32 1] 62)))
            clear hka hks
            go_wp2_with fail
            refine CTA.out.mono ?_
            clear CTA z00 z10 z11
            rintro e w4 ⟨v, rfl, hv, hb⟩
            obtain ⟨Aq2, cq2, rfl⟩ := Kd.R_slice hv
            replace Cr := Lib.hid (Kd.C_below Cr.out hb)
            replace D := Lib.hid (D.out.below hb)
            have hvC := Kd.R_reads' hv
            replace Cq := Lib.hid hvC.2.2
            replace HCq := Lib.hid hvC.2.1
            clear hv hb hvC
            have z11 := D.out.c11
            have CTS := Lib.hid (impl_subLimbs.calls 0 A' n' l' Ar cr LR LR2 _ (Kd.C_below R1.out D.out.bel) HN'.out Cr.out HCr.out HKS.out)
            go_wp2_with fail
            refine CTS.out.mono ?_
            clear CTS z11
            rintro e w6 ⟨v, rfl, hv, hb⟩
            obtain ⟨Ar2, cr2, rfl⟩ := Kd.R_slice hv
            replace Cq := Lib.hid (Kd.C_below Cq.out hb)
            replace D := Lib.hid (D.out.below hb)
            have hvC := Kd.R_reads' hv
            replace Cr := Lib.hid hvC.2.2
            replace HCr := Lib.hid hvC.2.1
            clear hv hb hvC
            go_upto_region 9 with fail
            clear hne1 hne2
            replace D := Lib.hid (D.out.below (Below.refl _ _).drew)
            replace Cq := Lib.hid (Kd.C_below Cq.out (Below.refl _ _).drew)
            replace Cr := Lib.hid (Kd.C_below Cr.out (Below.refl _ _).drew)
            have z0 := D.out.c00; have z1 := D.out.c10
            go_region_held3 (fun w' => w'.cell? ⟨w.heap.size, 0, none⟩ = some (.bool m) ∧ w'.cell? ⟨w.heap.size + 1, 0, none⟩ = some (.bool m'))
              (first | (with_reducible exact ⟨z0, z1⟩) | (with_reducible exact ⟨p0, p1⟩) | exact ⟨s0 [.int .i64 0, .bool xq, .slice Bq LQ2.length dq, .bool xr, .slice Br LR2.length dr], s1 [.int .i64 0, .bool xq, .slice Bq LQ2.length dq, .bool xr, .slice Br LR2.length dr]⟩ | fail)
              (first | (go_at_call 53; (with_reducible refine (makeBigCall _ Aq2 LQ2 cq2 _ huQ2 htQ2 (by omega) Cq.out HCq.out).mono ?_); rintro e wq ⟨xq, v, rfl, hx, hv, hb⟩; obtain ⟨Bq, dq, rfl⟩ := Kd.R_slice hv; have HXq := Lib.hid hx; have T := Lib.hid (twoR_rq HVr.out hb hv D.out.bel.size); replace D := Lib.hid (D.out.below hb); replace Cq := Lib.hid (Kd.C_below Cq.out hb); replace Cr := Lib.hid (Kd.C_below Cr.out hb); clear hb hx hv; have p0 := D.out.c00; have p1 := D.out.c10; have x20 := (blk_cell D.out.b2 0).trans (rfl : (_ : Option Value) = some (.int .i64 0)); have f20 := blk_frozen D.out.b2 0; have x21 := (blk_cell D.out.b2 1).trans (rfl : (_ : Option Value) = some (.bool false)); have f21 := blk_frozen D.out.b2 1; have x22 := (blk_cell D.out.b2 2).trans (rfl : (_ : Option Value) = some (.slice none 0 0)); have f22 := blk_frozen D.out.b2 2; have x23 := (blk_cell D.out.b2 3).trans (rfl : (_ : Option Value) = some (.bool false)); have f23 := blk_frozen D.out.b2 3; have x24 := (blk_cell D.out.b2 4).trans (rfl : (_ : Option Value) = some (.slice none 0 0)); have f24 := blk_frozen D.out.b2 4; have s0 := fun vs => (keep_cell D.out.b2 D.out.b0 (by decide) vs 0).trans (rfl : (_ : Option Value) = some (.bool m)); have s1 := fun vs => (keep_cell D.out.b2 D.out.b1 (by decide) vs 0).trans (rfl : (_ : Option Value) = some (.bool m')))
                     | (go_at_call 53; (with_reducible refine (makeBigCall _ Aq2 LQ2 cq2 _ huQ2 htQ2 (by omega) Cq.out HCq.out).mono ?_); rintro e wq ⟨xq, v, rfl, hx, hv, hb⟩; obtain ⟨Bq, dq, rfl⟩ := Kd.R_slice hv; have HXq := Lib.hid hx; have HVq := Lib.hid (Kd.R_lower hv D.out.bel.size); replace D := Lib.hid (D.out.below hb); replace Cq := Lib.hid (Kd.C_below Cq.out hb); replace Cr := Lib.hid (Kd.C_below Cr.out hb); clear hb hx hv; have p0 := D.out.c00; have p1 := D.out.c10; have x20 := (blk_cell D.out.b2 0).trans (rfl : (_ : Option Value) = some (.int .i64 0)); have f20 := blk_frozen D.out.b2 0; have x21 := (blk_cell D.out.b2 1).trans (rfl : (_ : Option Value) = some (.bool false)); have f21 := blk_frozen D.out.b2 1; have x22 := (blk_cell D.out.b2 2).trans (rfl : (_ : Option Value) = some (.slice none 0 0)); have f22 := blk_frozen D.out.b2 2; have x23 := (blk_cell D.out.b2 3).trans (rfl : (_ : Option Value) = some (.bool false)); have f23 := blk_frozen D.out.b2 3; have x24 := (blk_cell D.out.b2 4).trans (rfl : (_ : Option Value) = some (.slice none 0 0)); have f24 := blk_frozen D.out.b2 4; have s0 := fun vs => (keep_cell D.out.b2 D.out.b0 (by decide) vs 0).trans (rfl : (_ : Option Value) = some (.bool m)); have s1 := fun vs => (keep_cell D.out.b2 D.out.b1 (by decide) vs 0).trans (rfl : (_ : Option Value) = some (.bool m')))
                     | (go_at_call 53; (with_reducible refine (makeBigCall _ Ar2 LR2 cr2 _ huR2 htR2 (by omega) Cr.out HCr.out).mono ?_); rintro e wr ⟨xr, v, rfl, hx, hv, hb⟩; obtain ⟨Br, dr, rfl⟩ := Kd.R_slice hv; have HXr := Lib.hid hx; have T := Lib.hid (twoR_qr HVq.out hb hv D.out.bel.size); replace D := Lib.hid (D.out.below hb); replace Cq := Lib.hid (Kd.C_below Cq.out hb); replace Cr := Lib.hid (Kd.C_below Cr.out hb); clear hb hx hv; have p0 := D.out.c00; have p1 := D.out.c10; have x20 := (blk_cell D.out.b2 0).trans (rfl : (_ : Option Value) = some (.int .i64 0)); have f20 := blk_frozen D.out.b2 0; have x21 := (blk_cell D.out.b2 1).trans (rfl : (_ : Option Value) = some (.bool false)); have f21 := blk_frozen D.out.b2 1; have x22 := (blk_cell D.out.b2 2).trans (rfl : (_ : Option Value) = some (.slice none 0 0)); have f22 := blk_frozen D.out.b2 2; have x23 := (blk_cell D.out.b2 3).trans (rfl : (_ : Option Value) = some (.bool false)); have f23 := blk_frozen D.out.b2 3; have x24 := (blk_cell D.out.b2 4).trans (rfl : (_ : Option Value) = some (.slice none 0 0)); have f24 := blk_frozen D.out.b2 4; have s0 := fun vs => (keep_cell D.out.b2 D.out.b0 (by decide) vs 0).trans (rfl : (_ : Option Value) = some (.bool m)); have s1 := fun vs => (keep_cell D.out.b2 D.out.b1 (by decide) vs 0).trans (rfl : (_ : Option Value) = some (.bool m')))
                     | (go_at_call 53; (with_reducible refine (makeBigCall _ Ar2 LR2 cr2 _ huR2 htR2 (by omega) Cr.out HCr.out).mono ?_); rintro e wr ⟨xr, v, rfl, hx, hv, hb⟩; obtain ⟨Br, dr, rfl⟩ := Kd.R_slice hv; have HXr := Lib.hid hx; have HVr := Lib.hid (Kd.R_lower hv D.out.bel.size); replace D := Lib.hid (D.out.below hb); replace Cq := Lib.hid (Kd.C_below Cq.out hb); replace Cr := Lib.hid (Kd.C_below Cr.out hb); clear hb hx hv; have p0 := D.out.c00; have p1 := D.out.c10; have x20 := (blk_cell D.out.b2 0).trans (rfl : (_ : Option Value) = some (.int .i64 0)); have f20 := blk_frozen D.out.b2 0; have x21 := (blk_cell D.out.b2 1).trans (rfl : (_ : Option Value) = some (.bool false)); have f21 := blk_frozen D.out.b2 1; have x22 := (blk_cell D.out.b2 2).trans (rfl : (_ : Option Value) = some (.slice none 0 0)); have f22 := blk_frozen D.out.b2 2; have x23 := (blk_cell D.out.b2 3).trans (rfl : (_ : Option Value) = some (.bool false)); have f23 := blk_frozen D.out.b2 3; have x24 := (blk_cell D.out.b2 4).trans (rfl : (_ : Option Value) = some (.slice none 0 0)); have f24 := blk_frozen D.out.b2 4; have s0 := fun vs => (keep_cell D.out.b2 D.out.b0 (by decide) vs 0).trans (rfl : (_ : Option Value) = some (.bool m)); have s1 := fun vs => (keep_cell D.out.b2 D.out.b1 (by decide) vs 0).trans (rfl : (_ : Option Value) = some (.bool m'))))
            go_wp2_with fail
            have hset := blk_setCells [.int .i64 0, .bool xq, .slice Bq LQ2.length dq, .bool xr, .slice Br LR2.length dr] 0 D.out.b2 (by rfl)
            have q0 := blk_cell hset 0
            have q1 := blk_cell hset 1
            have q2 := blk_cell hset 2
            have q3 := blk_cell hset 3
            have q4 := blk_cell hset 4
            simp [World.setCells] at q0 q1 q2 q3 q4
            have T2 : TwoR w.heap.size (World.setCells _ (w.heap.size + 1 + 1) 0 [.int .i64 0, .bool xq, .slice Bq LQ2.length dq, .bool xr, .slice Br LR2.length dr]) (.slice Bq LQ2.length dq) (.slice Br LR2.length dr) LQ2 LR2 := ⟨R_set5 T.out.1 D.out.b2, R_set5 T.out.2 D.out.b2⟩
            refine bodyPost_ret (v := .agg #[.int .i64 0, .bool xq, .slice Bq LQ2.length dq, .bool xr, .slice Br LR2.length dr]) (by simp [results, Try.results41, go_sem, q0, q1, q2, q3, q4]) rfl ⟨.slice Bq LQ2.length dq, .slice Br LR2.length dr, ?_, ?_, ?_⟩
            · rw [FF.out, HXq.out, HXr.out]
              cases m <;> cases m' <;> first | (simp; done) | (exfalso; simp at hmm; done)
            · rw [FF.out]
              exact T2
            · exact ((((D.out.bel.setCell (by simp; try omega) _).setCell (by simp; try omega) _).setCell (by simp; try omega) _).setCell (by simp; try omega) _).setCell (by simp; try omega) _
          · have hrd : decide (0 < LR.length) = false := by rw [hLRp]; exact decide_eq_false hrp
            have FF : Hid (bgDiv m l m' l' = (0, ((m != m') && decide (0 < LQ.length), LQ), (m' && decide (0 < LR.length), LR))) := by
              show _ = _
              unfold bgDiv
              rw [if_neg (by rw [HNF.out]; decide), if_neg h0]
              have hup : dvUp m m' l l' = false := by unfold dvUp; rw [decide_eq_false hrp, Bool.and_false]
              unfold dvQ dvR
              rw [hup]
              simp only [Bool.false_eq_true, if_false]
              rw [hLQ, hLR]
            go_upto_region 9 with fail
            clear z00 z10 z11 hne1 hne2
            replace D := Lib.hid (D.out.below (Below.refl _ _).drew)
            replace Cq := Lib.hid (Kd.C_below Cq.out (Below.refl _ _).drew)
            replace Cr := Lib.hid (Kd.C_below Cr.out (Below.refl _ _).drew)
            have z0 := D.out.c00; have z1 := D.out.c10
            go_region_held3 (fun w' => w'.cell? ⟨w.heap.size, 0, none⟩ = some (.bool m) ∧ w'.cell? ⟨w.heap.size + 1, 0, none⟩ = some (.bool m'))
              (first | (with_reducible exact ⟨z0, z1⟩) | (with_reducible exact ⟨p0, p1⟩) | exact ⟨s0 [.int .i64 0, .bool xq, .slice Bq LQ.length dq, .bool xr, .slice Br LR.length dr], s1 [.int .i64 0, .bool xq, .slice Bq LQ.length dq, .bool xr, .slice Br LR.length dr]⟩ | fail)
              (first | (go_at_call 53; (with_reducible refine (makeBigCall _ Aq LQ cq _ huQ htQ (by omega) Cq.out HCq.out).mono ?_); rintro e wq ⟨xq, v, rfl, hx, hv, hb⟩; obtain ⟨Bq, dq, rfl⟩ := Kd.R_slice hv; have HXq := Lib.hid hx; have T := Lib.hid (twoR_rq HVr.out hb hv D.out.bel.size); replace D := Lib.hid (D.out.below hb); replace Cq := Lib.hid (Kd.C_below Cq.out hb); replace Cr := Lib.hid (Kd.C_below Cr.out hb); clear hb hx hv; have p0 := D.out.c00; have p1 := D.out.c10; have x20 := (blk_cell D.out.b2 0).trans (rfl : (_ : Option Value) = some (.int .i64 0)); have f20 := blk_frozen D.out.b2 0; have x21 := (blk_cell D.out.b2 1).trans (rfl : (_ : Option Value) = some (.bool false)); have f21 := blk_frozen D.out.b2 1; have x22 := (blk_cell D.out.b2 2).trans (rfl : (_ : Option Value) = some (.slice none 0 0)); have f22 := blk_frozen D.out.b2 2; have x23 := (blk_cell D.out.b2 3).trans (rfl : (_ : Option Value) = some (.bool false)); have f23 := blk_frozen D.out.b2 3; have x24 := (blk_cell D.out.b2 4).trans (rfl : (_ : Option Value) = some (.slice none 0 0)); have f24 := blk_frozen D.out.b2 4; have s0 := fun vs => (keep_cell D.out.b2 D.out.b0 (by decide) vs 0).trans (rfl : (_ : Option Value) = some (.bool m)); have s1 := fun vs => (keep_cell D.out.b2 D.out.b1 (by decide) vs 0).trans (rfl : (_ : Option Value) = some (.bool m')))
                     | (go_at_call 53; (with_reducible refine (makeBigCall _ Aq LQ cq _ huQ htQ (by omega) Cq.out HCq.out).mono ?_); rintro e wq ⟨xq, v, rfl, hx, hv, hb⟩; obtain ⟨Bq, dq, rfl⟩ := Kd.R_slice hv; have HXq := Lib.hid hx; have HVq := Lib.hid (Kd.R_lower hv D.out.bel.size); replace D := Lib.hid (D.out.below hb); replace Cq := Lib.hid (Kd.C_below Cq.out hb); replace Cr := Lib.hid (Kd.C_below Cr.out hb); clear hb hx hv; have p0 := D.out.c00; have p1 := D.out.c10; have x20 := (blk_cell D.out.b2 0).trans (rfl : (_ : Option Value) = some (.int .i64 0)); have f20 := blk_frozen D.out.b2 0; have x21 := (blk_cell D.out.b2 1).trans (rfl : (_ : Option Value) = some (.bool false)); have f21 := blk_frozen D.out.b2 1; have x22 := (blk_cell D.out.b2 2).trans (rfl : (_ : Option Value) = some (.slice none 0 0)); have f22 := blk_frozen D.out.b2 2; have x23 := (blk_cell D.out.b2 3).trans (rfl : (_ : Option Value) = some (.bool false)); have f23 := blk_frozen D.out.b2 3; have x24 := (blk_cell D.out.b2 4).trans (rfl : (_ : Option Value) = some (.slice none 0 0)); have f24 := blk_frozen D.out.b2 4; have s0 := fun vs => (keep_cell D.out.b2 D.out.b0 (by decide) vs 0).trans (rfl : (_ : Option Value) = some (.bool m)); have s1 := fun vs => (keep_cell D.out.b2 D.out.b1 (by decide) vs 0).trans (rfl : (_ : Option Value) = some (.bool m')))
                     | (go_at_call 53; (with_reducible refine (makeBigCall _ Ar LR cr _ huR htR (by omega) Cr.out HCr.out).mono ?_); rintro e wr ⟨xr, v, rfl, hx, hv, hb⟩; obtain ⟨Br, dr, rfl⟩ := Kd.R_slice hv; have HXr := Lib.hid hx; have T := Lib.hid (twoR_qr HVq.out hb hv D.out.bel.size); replace D := Lib.hid (D.out.below hb); replace Cq := Lib.hid (Kd.C_below Cq.out hb); replace Cr := Lib.hid (Kd.C_below Cr.out hb); clear hb hx hv; have p0 := D.out.c00; have p1 := D.out.c10; have x20 := (blk_cell D.out.b2 0).trans (rfl : (_ : Option Value) = some (.int .i64 0)); have f20 := blk_frozen D.out.b2 0; have x21 := (blk_cell D.out.b2 1).trans (rfl : (_ : Option Value) = some (.bool false)); have f21 := blk_frozen D.out.b2 1; have x22 := (blk_cell D.out.b2 2).trans (rfl : (_ : Option Value) = some (.slice none 0 0)); have f22 := blk_frozen D.out.b2 2; have x23 := (blk_cell D.out.b2 3).trans (rfl : (_ : Option Value) = some (.bool false)); have f23 := blk_frozen D.out.b2 3; have x24 := (blk_cell D.out.b2 4).trans (rfl : (_ : Option Value) = some (.slice none 0 0)); have f24 := blk_frozen D.out.b2 4; have s0 := fun vs => (keep_cell D.out.b2 D.out.b0 (by decide) vs 0).trans (rfl : (_ : Option Value) = some (.bool m)); have s1 := fun vs => (keep_cell D.out.b2 D.out.b1 (by decide) vs 0).trans (rfl : (_ : Option Value) = some (.bool m')))
                     | (go_at_call 53; (with_reducible refine (makeBigCall _ Ar LR cr _ huR htR (by omega) Cr.out HCr.out).mono ?_); rintro e wr ⟨xr, v, rfl, hx, hv, hb⟩; obtain ⟨Br, dr, rfl⟩ := Kd.R_slice hv; have HXr := Lib.hid hx; have HVr := Lib.hid (Kd.R_lower hv D.out.bel.size); replace D := Lib.hid (D.out.below hb); replace Cq := Lib.hid (Kd.C_below Cq.out hb); replace Cr := Lib.hid (Kd.C_below Cr.out hb); clear hb hx hv; have p0 := D.out.c00; have p1 := D.out.c10; have x20 := (blk_cell D.out.b2 0).trans (rfl : (_ : Option Value) = some (.int .i64 0)); have f20 := blk_frozen D.out.b2 0; have x21 := (blk_cell D.out.b2 1).trans (rfl : (_ : Option Value) = some (.bool false)); have f21 := blk_frozen D.out.b2 1; have x22 := (blk_cell D.out.b2 2).trans (rfl : (_ : Option Value) = some (.slice none 0 0)); have f22 := blk_frozen D.out.b2 2; have x23 := (blk_cell D.out.b2 3).trans (rfl : (_ : Option Value) = some (.bool false)); have f23 := blk_frozen D.out.b2 3; have x24 := (blk_cell D.out.b2 4).trans (rfl : (_ : Option Value) = some (.slice none 0 0)); have f24 := blk_frozen D.out.b2 4; have s0 := fun vs => (keep_cell D.out.b2 D.out.b0 (by decide) vs 0).trans (rfl : (_ : Option Value) = some (.bool m)); have s1 := fun vs => (keep_cell D.out.b2 D.out.b1 (by decide) vs 0).trans (rfl : (_ : Option Value) = some (.bool m'))))
            go_wp2_with fail
            have hset := blk_setCells [.int .i64 0, .bool xq, .slice Bq LQ.length dq, .bool xr, .slice Br LR.length dr] 0 D.out.b2 (by rfl)
            have q0 := blk_cell hset 0
            have q1 := blk_cell hset 1
            have q2 := blk_cell hset 2
            have q3 := blk_cell hset 3
            have q4 := blk_cell hset 4
            simp [World.setCells] at q0 q1 q2 q3 q4
            have T2 : TwoR w.heap.size (World.setCells _ (w.heap.size + 1 + 1) 0 [.int .i64 0, .bool xq, .slice Bq LQ.length dq, .bool xr, .slice Br LR.length dr]) (.slice Bq LQ.length dq) (.slice Br LR.length dr) LQ LR := ⟨R_set5 T.out.1 D.out.b2, R_set5 T.out.2 D.out.b2⟩
            refine bodyPost_ret (v := .agg #[.int .i64 0, .bool xq, .slice Bq LQ.length dq, .bool xr, .slice Br LR.length dr]) (by simp [results, Try.results41, go_sem, q0, q1, q2, q3, q4]) rfl ⟨.slice Bq LQ.length dq, .slice Br LR.length dr, ?_, ?_, ?_⟩
            · rw [FF.out, HXq.out, HXr.out]
              cases m <;> cases m' <;> first | (simp; done) | (exfalso; simp at hmm; done)
            · rw [FF.out]
              exact T2
            · exact ((((D.out.bel.setCell (by simp; try omega) _).setCell (by simp; try omega) _).setCell (by simp; try omega) _).setCell (by simp; try omega) _).setCell (by simp; try omega) _

end Go.Proofs.Ytajmeeppigdjnaa
