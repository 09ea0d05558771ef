/- The law 'FnExactSameNode': both functions answer the same, and leave their arguments as they were; no condition. -/
import Derived.Test.YtgogfloppnhceaaNd3
import Derived.Deep.RegionHeld3
namespace Go.Proofs.Ytgogfloppnhceaa
open Go.RowKit
set_option linter.unusedVariables false
set_option linter.unusedSimpArgs false

theorem szR_big {b : Nat} {left : Int} (h : left < b) : szR b left < 0 := by
  unfold szR
  rw [if_pos h]
  omega
theorem szR_fit {b : Nat} {left : Int} (h : (b : Int) ≤ left) : szR b left = left - b := by
  unfold szR
  rw [if_neg (by omega)]

set_option maxRecDepth 100000 in
theorem lawSameNode (x y : Nd) (cx cy : List Value) (w : World) (ox : x.ok) (oy : y.ok) (hx : Rd w x.enc cx) (hy : Rd w y.enc cy) :
    Calls Try.prog 10 #[.agg cx.toArray, .agg cy.toArray] w fun e w' => e = .returned (.bool true) ∧ Below w.heap.size w w' := by
  obtain ⟨x0, x1, x2, rfl⟩ := cells3 (hx.len.trans (Nd.enc_n _))
  obtain ⟨y0, y1, y2, rfl⟩ := cells3 (hy.len.trans (Nd.enc_n _))
  have HX := Lib.hid hx
  have HY := Lib.hid hy
  have B2 := Lib.hid (((Below.refl w.heap.size w).alloc (Nat.le_refl _) (.cells #[x0, x1, x2] 63)).alloc (by simp) (.cells #[y0, y1, y2] 63))
  have BX : Hid (∀ w', Below (w.heap.size + 2) ((w.alloc (.cells #[x0, x1, x2] 63)).alloc (.cells #[y0, y1, y2] 63)) w' →
      w'.cell? ⟨w.heap.size, 0, none⟩ = some x0 ∧ w'.cell? ⟨w.heap.size, 1, none⟩ = some x1 ∧ w'.cell? ⟨w.heap.size, 2, none⟩ = some x2 ∧
      w'.cell? ⟨w.heap.size + 1, 0, none⟩ = some y0 ∧ w'.cell? ⟨w.heap.size + 1, 1, none⟩ = some y1 ∧ w'.cell? ⟨w.heap.size + 1, 2, none⟩ = some y2) := Lib.hid (fun w' hb => by
    have h1 := blk_below (blk_old (blk_new w (.cells #[x0, x1, x2] 63)) (.cells #[y0, y1, y2] 63)) (hb.mono (by simp))
    have h2 := blk_below (blk_new (w.alloc (.cells #[x0, x1, x2] 63)) (.cells #[y0, y1, y2] 63)) (hb.mono (by simp))
    exact ⟨blk_cell h1 0, blk_cell h1 1, blk_cell h1 2, by simpa using blk_cell h2 0, by simpa using blk_cell h2 1, by simpa using blk_cell h2 2⟩)
  have SZX := Lib.hid (fun (w' : World) (hb : Below w.heap.size w w') => szNode x ox w' _ 1048576 (HX.out.below hb) (by omega) (by omega))
  clear hx hy
  by_cases h1 : (1048576 : Int) < x.bulk
  · have hz := szR_big h1
    have HZ := Lib.hid hz
    clear h1
    go_enter Try.func10, Try.ntmps10
    go_wp2_with fail
    refine (SZX.out _ B2.out).mono ?_
    rintro e w1 ⟨rfl, hb⟩
    go_wp2
    go_ret
    exact ⟨rfl, B2.out.trans (hb.mono (by simp; omega))⟩
  · have hz := szR_fit (b := x.bulk) (left := 1048576) (by omega)
    have HZ := Lib.hid hz
    clear hz
    have SZY := Lib.hid (fun (w' : World) (hb : Below w.heap.size w w') => szNode y oy w' _ (1048576 - x.bulk) (HY.out.below hb) (by omega) (by omega))
    by_cases h2 : (1048576 : Int) - x.bulk < y.bulk
    · have hz2 := szR_big h2
      clear h2
      go_enter Try.func10, Try.ntmps10
      go_wp2_with fail
      refine (SZX.out _ B2.out).mono ?_
      rintro e w1 ⟨rfl, hb⟩
      rw [HZ.out]
      have HB := Lib.hid (hb.mono (show w.heap.size + 2 ≤ _ by simp))
      obtain ⟨a0, a1, a2, b0, b1, b2⟩ := BX.out _ HB.out
      have HBw := Lib.hid (B2.out.trans (HB.out.mono (show w.heap.size ≤ w.heap.size + 2 by omega)))
      clear hb
      go_wp2_with fail
      refine (SZY.out _ HBw.out).mono ?_
      rintro e w2 ⟨rfl, hb⟩
      go_wp2
      go_ret
      exact ⟨rfl, HBw.out.trans (hb.mono HBw.out.size)⟩
    · have hz2 := szR_fit (b := y.bulk) (left := 1048576 - x.bulk) (by omega)
      have HZ2 := Lib.hid hz2
      clear hz2
      have TOX := Lib.hid (fun (w' : World) (hb : Below w.heap.size w w') => toNode x (by omega) w' _ (HX.out.below hb))
      have TOY := Lib.hid (fun (w' : World) (hb : Below w.heap.size w w') => toNode y (by omega) w' _ (HY.out.below hb))
      go_enter Try.func10, Try.ntmps10
      go_wp2_with fail
      refine (SZX.out _ B2.out).mono ?_
      rintro e w1 ⟨rfl, hb⟩
      rw [HZ.out]
      have HB := Lib.hid (hb.mono (show w.heap.size + 2 ≤ _ by simp))
      obtain ⟨a0, a1, a2, b0, b1, b2⟩ := BX.out _ HB.out
      have HBw := Lib.hid (B2.out.trans (HB.out.mono (show w.heap.size ≤ w.heap.size + 2 by omega)))
      clear hb
      go_wp2_with fail
      refine (SZY.out _ HBw.out).mono ?_
      rintro e w2 ⟨rfl, hb⟩
      rw [HZ2.out]
      have HB2 := Lib.hid (HB.out.trans (hb.mono (by have := HB.out.size; simp at this; omega)))
      have HBw2 := Lib.hid (B2.out.trans (HB2.out.mono (show w.heap.size ≤ w.heap.size + 2 by omega)))
      clear a0 a1 a2 b0 b1 b2 hb HB HBw
      obtain ⟨a0, a1, a2, b0, b1, b2⟩ := BX.out _ HB2.out
      go_wp2_with fail
      have SW := Lib.hid (show w.heap.size + 2 ≤ ((w.alloc (.cells #[x0, x1, x2] 63)).alloc (.cells #[y0, y1, y2] 63)).heap.size by simp)
      go_region_held3 (fun w' => w'.cell? ⟨w.heap.size, 0, none⟩ = some x0 ∧ w'.cell? ⟨w.heap.size, 1, none⟩ = some x1 ∧ w'.cell? ⟨w.heap.size, 2, none⟩ = some x2 ∧
        w'.cell? ⟨w.heap.size + 1, 0, none⟩ = some y0 ∧ w'.cell? ⟨w.heap.size + 1, 1, none⟩ = some y1 ∧ w'.cell? ⟨w.heap.size + 1, 2, none⟩ = some y2)
        (first | exact ⟨a0, a1, a2, b0, b1, b2⟩ | exact BX.out _ HB3.out | exact BX.out _ HB4.out | exact BX.out _ HB5.out)
        (first
          | (go_at_call 39; (with_reducible refine (TOX.out _ HBw2.out.drew).mono ?_); rintro e w3 ⟨cs3, rfl, hfr3, hb3⟩; have HB3 := Lib.hid (bstep HB2.out.drew SW.out hb3); have HFR3 := Lib.hid hfr3; clear hfr3)
          | (go_at_call 39; (with_reducible refine (TOY.out _ (B2.out.trans (HB3.out.mono (show w.heap.size ≤ w.heap.size + 2 by omega)))).mono ?_); rintro e w4 ⟨cs4, rfl, hfr4, hb4⟩; have HB4 := Lib.hid (bstep HB3.out SW.out hb4); have HFR4 := Lib.hid hfr4; have HFR3' := Lib.hid (HFR3.out.below hb4); clear hfr4)
          | (go_at_call 38; refine (SpecSame_all x ox y _ _ _ oy HFR3'.out.rd HFR4.out.rd).mono ?_; rintro e w5 ⟨rfl, hb5⟩; have HB5 := Lib.hid (bstep HB4.out SW.out hb5)))
      have HBw5 := Lib.hid (B2.out.trans (HB5.out.mono (show w.heap.size ≤ w.heap.size + 2 by omega)))
      clear a0 a1 a2 b0 b1 b2 hb3 hb4 hb5 HFR3' HFR3 HFR4 HB3 HB4 HB2 HBw2
      obtain ⟨a0, a1, a2, b0, b1, b2⟩ := BX.out _ HB5.out
      go_wp2_with fail
      refine (TOX.out _ HBw5.out).mono ?_
      rintro e w6 ⟨cs6, rfl, hfr6, hb6⟩
      obtain ⟨p0, p1, p2, rfl⟩ := cells3 (hfr6.len.trans (Nd.enc_n _))
      have ONE6 := Lib.hid hfr6.all
      have HB6 := Lib.hid ((bstep HB5.out SW.out hb6).alloc (Nat.le_trans SW.out (bstep HB5.out SW.out hb6).size) (.cells #[p0, p1, p2] 68))
      have HBw7 := Lib.hid (B2.out.trans (HB6.out.mono (show w.heap.size ≤ w.heap.size + 2 by omega)))
      have HFR7 := Lib.hid (hfr6.below ((Below.refl w6.heap.size w6).alloc (Nat.le_refl _) (.cells #[p0, p1, p2] 68)))
      have BLK7 := Lib.hid (blk_new w6 (.cells #[p0, p1, p2] 68))
      clear a0 a1 a2 b0 b1 b2 hfr6 hb6
      obtain ⟨a0, a1, a2, b0, b1, b2⟩ := BX.out _ HB6.out
      go_wp2_with (first | (go_at_call 39; fail) | (refine wpl_store_new rfl 68 (.tmp 7) (.tmp 26) rfl _ #[p0, p1, p2] rfl rfl infoNodeSz rfl ONE6.out ?_))
      refine (TOY.out _ HBw7.out).mono ?_
      rintro e w8 ⟨cs8, rfl, hfr8, hb8⟩
      obtain ⟨q0, q1, q2, rfl⟩ := cells3 (hfr8.len.trans (Nd.enc_n _))
      have ONE8 := Lib.hid hfr8.all
      have HBw9 := Lib.hid ((HBw7.out.trans (hb8.mono HBw7.out.size)).alloc (Nat.le_trans HBw7.out.size hb8.size) (.cells #[q0, q1, q2] 68))
      have hal := (Below.refl w8.heap.size w8).alloc (Nat.le_refl _) (.cells #[q0, q1, q2] 68)
      have HX9 := Lib.hid ((HFR7.out.below hb8).below hal)
      have HY9 := Lib.hid (hfr8.below hal)
      have s6 : w6.heap.size < w8.heap.size := by have := hb8.size; simp at this; omega
      have BX9 : Hid (∀ w', Below (w8.heap.size + 1) (w8.alloc (.cells #[q0, q1, q2] 68)) w' →
          (w'.cell? ⟨w.heap.size, 0, none⟩ = some x0 ∧ w'.cell? ⟨w.heap.size, 1, none⟩ = some x1 ∧ w'.cell? ⟨w.heap.size, 2, none⟩ = some x2 ∧
          w'.cell? ⟨w.heap.size + 1, 0, none⟩ = some y0 ∧ w'.cell? ⟨w.heap.size + 1, 1, none⟩ = some y1 ∧ w'.cell? ⟨w.heap.size + 1, 2, none⟩ = some y2) ∧
          w'.cell? ⟨w6.heap.size, 0, none⟩ = some p0 ∧ w'.cell? ⟨w6.heap.size, 1, none⟩ = some p1 ∧ w'.cell? ⟨w6.heap.size, 2, none⟩ = some p2 ∧
          w'.cell? ⟨w8.heap.size, 0, none⟩ = some q0 ∧ w'.cell? ⟨w8.heap.size, 1, none⟩ = some q1 ∧ w'.cell? ⟨w8.heap.size, 2, none⟩ = some q2) := Lib.hid (fun w' hb => by
        have k8 := bstep HB6.out SW.out hb8
        have k9 := k8.alloc (Nat.le_trans SW.out k8.size) (.cells #[q0, q1, q2] 68)
        have k10 := k9.trans (hb.mono (by have := k8.size; have := SW.out; omega))
        have h1 := blk_below (blk_old (blk_below BLK7.out hb8) (.cells #[q0, q1, q2] 68)) (hb.mono (by simp))
        have h2 := blk_below (blk_new w8 (.cells #[q0, q1, q2] 68)) (hb.mono (by simp))
        exact ⟨BX.out _ k10, blk_cell h1 0, blk_cell h1 1, blk_cell h1 2, blk_cell h2 0, blk_cell h2 1, blk_cell h2 2⟩)
      have S9 := Lib.hid (show w8.heap.size + 1 ≤ (w8.alloc (.cells #[q0, q1, q2] 68)).heap.size by simp)
      clear a0 a1 a2 b0 b1 b2 hfr8 hal
      obtain ⟨⟨a0, a1, a2, b0, b1, b2⟩, c0, c1, c2, d0, d1, d2⟩ := BX9.out _ (Below.refl _ _)
      go_wp2_with (first | (go_at_call 40; fail) | (refine wpl_store_new rfl 68 (.tmp 8) (.tmp 28) rfl _ #[q0, q1, q2] rfl rfl infoNodeSz rfl ONE8.out ?_))
      refine (ImplSame_all x ox y _ _ _ oy HX9.out.rd HY9.out.rd).mono ?_
      rintro e w10 ⟨rfl, hb10⟩
      have HB10 := Lib.hid (bstep (Below.refl (w8.heap.size + 1) _) S9.out hb10)
      have HBw10 := Lib.hid (HBw9.out.trans (hb10.mono HBw9.out.size))
      have HX10 := Lib.hid (HX9.out.below hb10)
      have HY10 := Lib.hid (HY9.out.below hb10)
      clear a0 a1 a2 b0 b1 b2 c0 c1 c2 d0 d1 d2 hb10 hb8
      obtain ⟨⟨a0, a1, a2, b0, b1, b2⟩, c0, c1, c2, d0, d1, d2⟩ := BX9.out _ HB10.out
      go_wp2_with fail
      go_region_held3 (fun w' => (w'.cell? ⟨w.heap.size, 0, none⟩ = some x0 ∧ w'.cell? ⟨w.heap.size, 1, none⟩ = some x1 ∧ w'.cell? ⟨w.heap.size, 2, none⟩ = some x2) ∧
          w'.cell? ⟨w6.heap.size, 0, none⟩ = some p0 ∧ w'.cell? ⟨w6.heap.size, 1, none⟩ = some p1 ∧ w'.cell? ⟨w6.heap.size, 2, none⟩ = some p2)
        (first | exact ⟨⟨a0, a1, a2⟩, c0, c1, c2⟩ | exact ⟨⟨(BX9.out _ HB11.out).1.1, (BX9.out _ HB11.out).1.2.1, (BX9.out _ HB11.out).1.2.2.1⟩, (BX9.out _ HB11.out).2.1, (BX9.out _ HB11.out).2.2.1, (BX9.out _ HB11.out).2.2.2.1⟩ | exact ⟨⟨(BX9.out _ HB12.out).1.1, (BX9.out _ HB12.out).1.2.1, (BX9.out _ HB12.out).1.2.2.1⟩, (BX9.out _ HB12.out).2.1, (BX9.out _ HB12.out).2.2.1, (BX9.out _ HB12.out).2.2.2.1⟩)
        (first
          | (go_at_call 39; (with_reducible refine (TOX.out _ HBw10.out.drew).mono ?_); rintro e w11 ⟨cs11, rfl, hfr11, hb11⟩; have HB11 := Lib.hid (bstep HB10.out.drew S9.out hb11); have HBw11 := Lib.hid (HBw10.out.drew.trans (hb11.mono HBw10.out.size)); have HX11 := Lib.hid (HX10.out.below (w1 := w10.drew) (Below.refl _ _).drew |>.below hb11); have HY11 := Lib.hid (HY10.out.below (w1 := w10.drew) (Below.refl _ _).drew |>.below hb11))
          | (go_at_call 41; refine (eqNode x ox _ _ _ HX11.out.rd hfr11.rd).mono ?_; rintro e w12 ⟨rfl, hb12⟩; have HB12 := Lib.hid (bstep HB11.out S9.out hb12); have HBw12 := Lib.hid (HBw11.out.trans (hb12.mono HBw11.out.size)); have HY12 := Lib.hid (HY11.out.below hb12); clear hb11 hfr11 hb12))
      clear a0 a1 a2 b0 b1 b2 c0 c1 c2 d0 d1 d2
      obtain ⟨⟨a0, a1, a2, b0, b1, b2⟩, c0, c1, c2, d0, d1, d2⟩ := BX9.out _ HB12.out
      go_wp2_with fail
      go_region_held3 (fun w' => (w'.cell? ⟨w.heap.size + 1, 0, none⟩ = some y0 ∧ w'.cell? ⟨w.heap.size + 1, 1, none⟩ = some y1 ∧ w'.cell? ⟨w.heap.size + 1, 2, none⟩ = some y2) ∧
          w'.cell? ⟨w8.heap.size, 0, none⟩ = some q0 ∧ w'.cell? ⟨w8.heap.size, 1, none⟩ = some q1 ∧ w'.cell? ⟨w8.heap.size, 2, none⟩ = some q2)
        (first | exact ⟨⟨b0, b1, b2⟩, d0, d1, d2⟩ | exact ⟨⟨(BX9.out _ HB13.out).1.2.2.2.1, (BX9.out _ HB13.out).1.2.2.2.2.1, (BX9.out _ HB13.out).1.2.2.2.2.2⟩, (BX9.out _ HB13.out).2.2.2.2.1, (BX9.out _ HB13.out).2.2.2.2.2.1, (BX9.out _ HB13.out).2.2.2.2.2.2⟩ | exact ⟨⟨(BX9.out _ HB14.out).1.2.2.2.1, (BX9.out _ HB14.out).1.2.2.2.2.1, (BX9.out _ HB14.out).1.2.2.2.2.2⟩, (BX9.out _ HB14.out).2.2.2.2.1, (BX9.out _ HB14.out).2.2.2.2.2.1, (BX9.out _ HB14.out).2.2.2.2.2.2⟩)
        (first
          | (go_at_call 39; (with_reducible refine (TOY.out _ HBw12.out.drew).mono ?_); rintro e w13 ⟨cs13, rfl, hfr13, hb13⟩; have HB13 := Lib.hid (bstep HB12.out.drew S9.out hb13); have HBw13 := Lib.hid (HBw12.out.drew.trans (hb13.mono HBw12.out.size)); have HY13 := Lib.hid (HY12.out.below (w1 := w12.drew) (Below.refl _ _).drew |>.below hb13))
          | (go_at_call 41; refine (eqNode y oy _ _ _ HY13.out.rd hfr13.rd).mono ?_; rintro e w14 ⟨rfl, hb14⟩; have HB14 := Lib.hid (bstep HB13.out S9.out hb14); have HBw14 := Lib.hid (HBw13.out.trans (hb14.mono HBw13.out.size)); clear hb13 hfr13 hb14))
      go_wp2
      go_ret
      exact ⟨rfl, HBw14.out⟩

end Go.Proofs.Ytgogfloppnhceaa
