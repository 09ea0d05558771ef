/- The reference's 'CoreFault': how large and how deep a core term is, and the whole; no condition. -/
import Derived.Test.YthidbmjdphfddaaCfS5
namespace Go.Proofs.Ythidbmjdphfddaa
open Go Go.RowKit
set_option linter.unusedVariables false
set_option linter.unusedSimpArgs false

/-- What the world holds while the reference counts down in block C. -/
structure Tl (W0 : World) (left : Int) (w : World) : Prop where
  below : Below W0.heap.size W0 w
  blk : w.heap[W0.heap.size]? = some (.cells #[.int .i64 left] 2 (0, 0))
def Beyond (C : Nat) (w w' : World) : Prop := w.heap.size ≤ w'.heap.size ∧ ∀ k, C < k → k < w.heap.size → w'.heap[k]? = w.heap[k]?
theorem Beyond.refl (C : Nat) (w : World) : Beyond C w w := ⟨Nat.le_refl _, fun _ _ _ => rfl⟩
theorem Beyond.trans {C : Nat} {a b c : World} (h : Beyond C a b) (k : Beyond C b c) : Beyond C a c :=
  ⟨Nat.le_trans h.1 k.1, fun i h1 h2 => (k.2 i h1 (Nat.lt_of_lt_of_le h2 h.1)).trans (h.2 i h1 h2)⟩
theorem Tl.put {W0 w : World} {l : Int} (h : Tl W0 l w) (l' : Int) : Tl W0 l' (w.setCell ⟨W0.heap.size, 0, none⟩ (.int .i64 l')) :=
  ⟨h.below.setCell (p := ⟨W0.heap.size, 0, none⟩) (Nat.le_refl _) _, blk_set h.blk 0 _⟩
theorem Tl.drewN {W0 w : World} {l : Int} (h : Tl W0 l w) (n : Nat) : Tl W0 l (w.drewN n) := ⟨drewN_below h.below n, by have := h.blk; simpa [World.drewN] using this⟩
theorem Beyond.put (C : Nat) (w : World) (v : Value) : Beyond C w (w.setCell ⟨C, 0, none⟩ v) := ⟨by simp [World.setCell], fun k h1 h2 => Below.heap_setCell w ⟨C, 0, none⟩ v k (by simp; omega)⟩
theorem Beyond.drew (C : Nat) (w : World) : Beyond C w w.drew := Beyond.refl C w
theorem Tl.drew {W0 w : World} {l : Int} (h : Tl W0 l w) : Tl W0 l w.drew := ⟨h.below.drew, h.blk⟩
/-- Whether the term has room, and what is left of it. -/
def SizeAns (W0 w : World) (P : Prop) (T : Int) (e : Ending) (w' : World) : Prop := ∃ (r : Bool) (l' : Int), e = .returned (.bool r) ∧ Tl W0 l' w' ∧ Beyond W0.heap.size w w' ∧ (r = true ↔ P) ∧ (r = true → l' = T ∧ 0 ≤ l')
def SpecSz (x : Cr) : Prop := x.enc.bulk ≤ 1048576 → ∀ (W0 w : World) (cs : List Value) (deep left : Int), Rd W0 x.enc cs → Tl W0 left w → 0 ≤ left → left ≤ 20000 → 0 ≤ deep → deep ≤ 1001 →
  Calls Try.prog 116 #[.agg cs.toArray, .int .i64 deep, .pointer (some ⟨W0.heap.size, 0, none⟩)] w (SizeAns W0 w ((x.wt : Int) ≤ left ∧ x.okd deep) (left - x.wt))
structure SzI (W0 W : World) (G : Prop) (T l : Int) (rest : Nat) (D : Prop) (wr : World) : Prop where
  tl : Tl W0 l wr
  by_ : Beyond W0.heap.size W wr
  l0 : 0 ≤ l
  l1 : l ≤ 20000
  eq : l - rest = T
  iff_ : G ↔ ((rest : Int) ≤ l ∧ D)
theorem SzI.step {W0 W wr w1 : World} {G : Prop} {T l l' : Int} {rest a b : Nat} {D K D' : Prop} {r : Bool} (h : SzI W0 W G T l rest D wr) (hr : rest = a + b) (hD : D ↔ K ∧ D') (htl : Tl W0 l' w1) (hby : Beyond W0.heap.size wr w1) (h1 : r = true ↔ ((a : Int) ≤ l ∧ K)) (h2 : r = true → l' = l - a ∧ 0 ≤ l') (ht : r = true) :
    SzI W0 W G T l' b D' w1 := by
  obtain ⟨e, h0⟩ := h2 ht
  obtain ⟨_, hk⟩ := h1.1 ht
  have h4 := h.l1
  have h5 := h.eq
  refine ⟨htl, h.by_.trans hby, h0, by omega, by omega, ?_⟩
  rw [h.iff_, hD]
  constructor
  · rintro ⟨q1, _, q2⟩
    exact ⟨by omega, q2⟩
  · rintro ⟨q1, q2⟩
    exact ⟨by omega, hk, q2⟩
theorem SzI.stop {W0 W wr : World} {G : Prop} {T l : Int} {rest a b : Nat} {D K D' : Prop} (h : SzI W0 W G T l rest D wr) (hr : rest = a + b) (hD : D ↔ K ∧ D') (h1 : ¬ ((a : Int) ≤ l ∧ K)) : ¬ G := by
  rw [h.iff_, hD]
  rintro ⟨q1, q2, _⟩
  exact h1 ⟨by omega, q2⟩

set_option maxRecDepth 100000 in
set_option maxHeartbeats 2000000 in
theorem SpecSz_of (k : Int) (n : ByteArray) (m : Bool) (l : List Int) (ns : List ByteArray) (ks : List Cr) (qs : List Ca) (ih : ∀ x ∈ ks, SpecSz x) (ia : ∀ a ∈ qs, SpecSz a.body) : SpecSz (.mk k n m l ns ks qs) := by
  intro hbulk W0 w cs deep left h tl h0 h1 h2 h3
  have hbp := Cr.bulk_parts hbulk
  have hkb := Cr.kid_bulk hbp.2.2.2.1
  have hab := Ca.alt_bulk hbp.2.2.2.2
  have hwb := Cr.wt_bulk (.mk k n m l ns ks qs)
  rw [Cr.wt] at hwb
  have hqn := hab.1
  have hkn := hkb.1
  obtain ⟨P, hP⟩ : ∃ P : Prop, P = (((Cr.mk k n m l ns ks qs).wt : Int) ≤ left ∧ (Cr.mk k n m l ns ks qs).okd deep) := ⟨_, rfl⟩
  obtain ⟨T, hT⟩ : ∃ T : Int, T = left - (Cr.mk k n m l ns ks qs).wt := ⟨_, rfl⟩
  rw [← hP, ← hT]
  rw [Cr.wt, Cr.okd] at hP
  rw [Cr.wt] at hT
  have HP := Lib.hid hP
  have HT := Lib.hid hT
  clear hP hT
  have W1 : Hid (1 + ns.length + altN qs + (Cr.wts ks + Ca.wts qs) ≤ 1048577) := by show _ ≤ _; omega
  obtain ⟨AL, cL, AN, cN, AK, cK, AA, cA, rfl, _, _, rK, rA, _, _, _, _⟩ := Cr.open_ h
  have IH : Hid (∀ x ∈ ks, ∀ (W0 w : World) (cs : List Value) (deep left : Int), Rd W0 x.enc cs → Tl W0 left w → 0 ≤ left → left ≤ 20000 → 0 ≤ deep → deep ≤ 1001 → Calls Try.prog 116 #[.agg cs.toArray, .int .i64 deep, .pointer (some ⟨W0.heap.size, 0, none⟩)] w (SizeAns W0 w ((x.wt : Int) ≤ left ∧ x.okd deep) (left - x.wt))) := fun x hx => ih x hx (hkb.2 x hx)
  have IA : Hid (∀ a ∈ qs, ∀ (W0 w : World) (cs : List Value) (deep left : Int), Rd W0 a.body.enc cs → Tl W0 left w → 0 ≤ left → left ≤ 20000 → 0 ≤ deep → deep ≤ 1001 → Calls Try.prog 116 #[.agg cs.toArray, .int .i64 deep, .pointer (some ⟨W0.heap.size, 0, none⟩)] w (SizeAns W0 w ((a.body.wt : Int) ≤ left ∧ a.body.okd deep) (left - a.body.wt))) := fun a ha => ia a ha (by
    have := hab.2 a ha
    cases a
    exact (Ca.bulk_parts this).2.2)
  have RK := Lib.hid rK
  have RA := Lib.hid rA
  have hCw := blk_lt tl.blk
  have CW := Lib.hid hCw
  have TL1 := Lib.hid (show Tl W0 left (w.alloc (.cells #[.int .i64 k, .string n, .bool m, .slice AL l.length cL, .slice AN ns.length cN, .slice AK ks.length cK, .slice AA qs.length cA] 36)) from ⟨tl.below.alloc (by omega) _, blk_old tl.blk _⟩)
  have BK := Lib.hid (blk_new w (.cells #[.int .i64 k, .string n, .bool m, .slice AL l.length cL, .slice AN ns.length cN, .slice AK ks.length cK, .slice AA qs.length cA] 36))
  have BY := Lib.hid (show Beyond W0.heap.size w (w.alloc (.cells #[.int .i64 k, .string n, .bool m, .slice AL l.length cL, .slice AN ns.length cN, .slice AK ks.length cK, .slice AA qs.length cA] 36)) from ⟨by simp, fun k h1 h2 => Below.heap_alloc _ _ k h2⟩)
  have SZ : Hid ((w.alloc (.cells #[.int .i64 k, .string n, .bool m, .slice AL l.length cL, .slice AN ns.length cN, .slice AK ks.length cK, .slice AA qs.length cA] 36)).heap.size = w.heap.size + 1) := by simp [Hid]
  have nsl : (ns.length : Int) ≤ 1048576 := by omega
  have nsl0 : (0 : Int) ≤ (ns.length : Int) := Int.natCast_nonneg _
  clear ih ia h tl rK rA hwb hbp hkb hab hbulk hCw
  go_enter Try.func116, Try.ntmps116
  go_wp2_with fail
  generalize hW : w.alloc (.cells #[.int .i64 k, .string n, .bool m, .slice AL l.length cL, .slice AN ns.length cN, .slice AK ks.length cK, .slice AA qs.length cA] 36) = W at *
  clear hW
  have c0 : World.cell? W ⟨W0.heap.size, 0, none⟩ = some (.int .i64 left) := (blk_cell TL1.out.blk 0).trans rfl
  have c1 : World.cell? W ⟨w.heap.size, 4, none⟩ = some (.slice AN ns.length cN) := (blk_cell BK.out 4).trans rfl
  have y0 : World.frozen? W ⟨W0.heap.size, 0, none⟩ = false := blk_frozen TL1.out.blk 0
  have q1 : IntKind.i64.wrap (left - 1) = left - 1 := IntWalk.i64_in _ (by omega)
  have q2 : IntKind.i64.wrap (left - 1 - (ns.length : Int)) = left - 1 - (ns.length : Int) := IntWalk.i64_in _ (by omega)
  go_still_tail 10, (by kernel_rfl)
  go_wp2_with fail
  have T2 := Lib.hid (TL1.out.put (left - 1 - (ns.length : Int))).drew
  have Y2 := Lib.hid ((Beyond.put W0.heap.size W (.int .i64 (left - 1 - (ns.length : Int)))).trans (Beyond.drew _ _))
  clear c0 c1 y0 q1 q2
  go_loopw [7] (fun i wr => ∃ j : Nat, j ≤ qs.length ∧ i = .int .i64 j ∧ Hid (Tl W0 (left - 1 - (ns.length : Int) - (altN (qs.take j) : Int)) wr ∧ Beyond W0.heap.size W wr)) (fun i _ => qs.length - (intOf i).toNat)
  case atStart => exact ⟨0, Nat.zero_le _, rfl, Lib.hid ⟨by simpa [altN] using T2.out, Y2.out⟩⟩
  case round =>
    obtain ⟨j, hj, rfl, hrel⟩ := hrel
    have RL := Lib.hid hrel.out
    clear hrel T2 Y2
    have hbk : wr.heap[w.heap.size]? = some (.cells #[.int .i64 k, .string n, .bool m, .slice AL l.length cL, .slice AN ns.length cN, .slice AK ks.length cK, .slice AA qs.length cA] 36) := (RL.out.2.2 _ CW.out (by rw [SZ.out]; omega)).trans BK.out
    have BKR := Lib.hid hbk
    have z6 : World.cell? wr ⟨w.heap.size, 6, none⟩ = some (.slice AA qs.length cA) := (blk_cell hbk 6).trans rfl
    have c0 : World.cell? wr ⟨W0.heap.size, 0, none⟩ = some (.int .i64 (left - 1 - (ns.length : Int) - (altN (qs.take j) : Int))) := (blk_cell RL.out.1.blk 0).trans rfl
    have y0 : World.frozen? wr ⟨W0.heap.size, 0, none⟩ = false := blk_frozen RL.out.1.blk 0
    have t3 := altN_take_le qs j
    clear hbk
    by_cases hlt : j < qs.length
    · obtain ⟨b, off, es, rfl, hcl, hrd, hc⟩ := RA.out.get (i := j) (x := qs[j].enc) (by simp [Ca.encs_map, List.getElem?_eq_getElem hlt])
      obtain ⟨nv, bs, rfl, hbl, hnv, _⟩ := Ca.openB hrd
      obtain ⟨An, cn, rfl, _, _, _⟩ := open_strs hnv
      have e1 : wr.cell? ⟨b, off + j * 9 + 1, none⟩ = some (.slice An qs[j].names.length cn) := cell_below RL.out.1.below (hc 1 _ rfl)
      have AS := Lib.hid (altN_step hlt)
      have t4 := altN_take_le qs (j + 1)
      have w1 := W1.out
      have aso := AS.out
      have T2 := fun z => Lib.hid (RL.out.1.put z).drew
      have Y2 := fun z => Lib.hid (RL.out.2.trans ((Beyond.put W0.heap.size wr (.int .i64 z)).trans (Beyond.drew _ _)))
      clear hrd hc hcl hbl hnv
      generalize qs[j].names.length = q at *
      generalize altN (qs.take j) = p at *
      have q1 : IntKind.i64.wrap (left - 1 - (ns.length : Int) - (p : Int) - (q : Int)) = left - 1 - (ns.length : Int) - (p : Int) - (q : Int) := IntWalk.i64_in _ (by omega)
      have i0 : (0 : Int) ≤ (j : Int) := Int.natCast_nonneg _
      have i1 : (j : Int) < (qs.length : Int) := by omega
      have T3 := Lib.hid (T2 (left - 1 - (ns.length : Int) - (p : Int) - (q : Int))).out
      have Y3 := Lib.hid (Y2 (left - 1 - (ns.length : Int) - (p : Int) - (q : Int))).out
      clear T2 Y2 w1 aso t3 t4
      go_wp2_with fail
      go_still_tail 13, (by kernel_rfl)
      go_wp2_with fail
      go_roundw
      case rel => exact ⟨j + 1, by omega, by go_num, Lib.hid ⟨by rw [AS.out]; have := T3.out; rw [show left - 1 - (ns.length : Int) - ((p + q : Nat) : Int) = left - 1 - (ns.length : Int) - (p : Int) - (q : Int) by omega]; exact this, Y3.out⟩⟩
      case measure => simp [intOf]; omega
    · obtain rfl : j = qs.length := by omega
      rw [List.take_length] at *
      have z5 : World.cell? wr ⟨w.heap.size, 5, none⟩ = some (.slice AK ks.length cK) := (blk_cell BKR.out 5).trans rfl
      obtain ⟨L1, hL1⟩ : ∃ L1 : Int, L1 = left - 1 - (ns.length : Int) - (altN qs : Int) := ⟨_, rfl⟩
      rw [← hL1] at RL c0
      have HL := Lib.hid hL1
      have w1 := W1.out
      have b1 : L1 ≤ 20000 := by omega
      have b2 : -4000000 ≤ L1 := by omega
      clear hL1 w1 t3
      by_cases hbad : L1 < 0 ∨ 1000 < deep
      · have NP : Hid (¬ P) := by
          show ¬ _
          rw [HP.out]
          rintro ⟨g1, g2, _⟩
          have := HL.out
          omega
        by_cases h0L : L1 < 0
        · clear hbad
          go_wp2_with fail
          go_ret
          exact ⟨false, _, rfl, RL.out.1, BY.out.trans RL.out.2, iff_of_false (by decide) NP.out, fun h => by cases h⟩
        · have hdp : 1000 < deep := by omega
          clear hbad
          go_wp2_with fail
          go_ret
          exact ⟨false, _, rfl, RL.out.1, BY.out.trans RL.out.2, iff_of_false (by decide) NP.out, fun h => by cases h⟩
      · have g1 : ¬ L1 < 0 := fun h => hbad (.inl h)
        have g2 : ¬ 1000 < deep := fun h => hbad (.inr h)
        clear hbad
        have ST : Hid (SzI W0 W P T L1 (Cr.wts (ks.drop 0) + Ca.wts qs) (Cr.okds (ks.drop 0) (deep + 1) ∧ Ca.okds qs (deep + 1)) wr) := by
          have hl := HL.out
          have ht := HT.out
          refine ⟨RL.out.1, RL.out.2, by omega, by omega, ?_, ?_⟩
          · rw [List.drop_zero, ht]; omega
          · rw [HP.out, List.drop_zero]
            constructor
            · rintro ⟨a1, _, a2⟩
              exact ⟨by omega, a2⟩
            · rintro ⟨a1, a2⟩
              exact ⟨by omega, by omega, a2⟩
        have RLT := RL.out.1
        clear RL HL
        go_wp2_with fail
        clear c0 y0 z5 z6 RLT g1 BKR
        go_loopw [8] (fun i wr => ∃ j : Nat, j ≤ ks.length ∧ i = .int .i64 j ∧ Hid (∃ lv, SzI W0 W P T lv (Cr.wts (ks.drop j) + Ca.wts qs) (Cr.okds (ks.drop j) (deep + 1) ∧ Ca.okds qs (deep + 1)) wr)) (fun i _ => ks.length - (intOf i).toNat)
        case atStart => exact ⟨0, Nat.zero_le _, rfl, Lib.hid ⟨_, ST.out⟩⟩
        case round =>
          obtain ⟨j, hj, rfl, hrel⟩ := hrel
          obtain ⟨lv, hs⟩ := hrel.out
          have RL := Lib.hid hs
          clear hrel ST hs
          have hbk : wr.heap[w.heap.size]? = some (.cells #[.int .i64 k, .string n, .bool m, .slice AL l.length cL, .slice AN ns.length cN, .slice AK ks.length cK, .slice AA qs.length cA] 36) := (RL.out.by_.2 _ CW.out (by rw [SZ.out]; omega)).trans BK.out
          have BKR := Lib.hid hbk
          have z5 : World.cell? wr ⟨w.heap.size, 5, none⟩ = some (.slice AK ks.length cK) := (blk_cell hbk 5).trans rfl
          have z6 : World.cell? wr ⟨w.heap.size, 6, none⟩ = some (.slice AA qs.length cA) := (blk_cell hbk 6).trans rfl
          have BW := Lib.hid RL.out.tl.below
          clear hbk
          by_cases hlt : j < ks.length
          · obtain ⟨b, off, es, rfl, hcl, hrd, hc⟩ := RK.out.get (i := j) (x := ks[j].enc) (by simp [Cr.encs_map, List.getElem?_eq_getElem hlt])
            obtain ⟨u0, u1, u2, u3, u4, u5, u6, rfl⟩ := cells7 hcl
            have e0 : wr.cell? ⟨b, off + j * 7, none⟩ = some u0 := cell_below BW.out (hc 0 _ rfl)
            have e1 : wr.cell? ⟨b, off + j * 7 + 1, none⟩ = some u1 := cell_below BW.out (hc 1 _ rfl)
            have e2 : wr.cell? ⟨b, off + j * 7 + 2, none⟩ = some u2 := cell_below BW.out (hc 2 _ rfl)
            have e3 : wr.cell? ⟨b, off + j * 7 + 3, none⟩ = some u3 := cell_below BW.out (hc 3 _ rfl)
            have e4 : wr.cell? ⟨b, off + j * 7 + 4, none⟩ = some u4 := cell_below BW.out (hc 4 _ rfl)
            have e5 : wr.cell? ⟨b, off + j * 7 + 5, none⟩ = some u5 := cell_below BW.out (hc 5 _ rfl)
            have e6 : wr.cell? ⟨b, off + j * 7 + 6, none⟩ = some u6 := cell_below BW.out (hc 6 _ rfl)
            have CAL := Lib.hid (IH.out _ (List.getElem_mem hlt) W0 wr _ (deep + 1) lv hrd RL.out.tl RL.out.l0 RL.out.l1 (by omega) (by omega))
            have D1 := Lib.hid (Cr.wts_drop hlt)
            have D2 := Lib.hid (Cr.okds_drop hlt (deep + 1))
            clear hrd hcl hc
            go_wp2_with fail
            refine CAL.out.mono ?_
            rintro e w1 ⟨r, l', rfl, tl1, by1, h1, h2⟩
            have TL2 := Lib.hid tl1
            have BY2 := Lib.hid by1
            have H1 := Lib.hid h1
            have H2 := Lib.hid h2
            clear tl1 by1 h1 h2 CAL
            cases r
            · go_wp2_with fail
              go_ret
              refine ⟨false, _, rfl, TL2.out, BY.out.trans (RL.out.by_.trans BY2.out), iff_of_false (by decide) ?_, fun h => by cases h⟩
              exact RL.out.stop (K := ks[j].okd (deep + 1)) (a := ks[j].wt) (b := Cr.wts (ks.drop (j + 1)) + Ca.wts qs) (by rw [D1.out]; omega) (by rw [D2.out, and_assoc]) fun h => by have := H1.out.2 h; cases this
            · go_wp2
              go_roundw
              case rel => exact ⟨j + 1, by omega, by go_num, Lib.hid ⟨l', RL.out.step (K := ks[j].okd (deep + 1)) (a := ks[j].wt) (b := Cr.wts (ks.drop (j + 1)) + Ca.wts qs) (by rw [D1.out]; omega) (by rw [D2.out, and_assoc]) TL2.out BY2.out (r := true) (by have := H1.out; simpa using this) (fun _ => H2.out (by first | rfl | trivial)) rfl⟩⟩
              case measure => simp [intOf]; omega
          · obtain rfl : j = ks.length := by omega
            have h0 := RL.out
            rw [List.drop_length, Cr.wts, Cr.okds] at h0
            have ST := Lib.hid (show SzI W0 W P T lv (Ca.wts (qs.drop 0)) (Ca.okds (qs.drop 0) (deep + 1)) wr from by simpa using h0)
            clear h0
            clear RL hj hlt
            go_wp2_with fail
            clear z5 z6 BKR BW
            go_loopw [9] (fun i wr => ∃ j : Nat, j ≤ qs.length ∧ i = .int .i64 j ∧ Hid (∃ lv, SzI W0 W P T lv (Ca.wts (qs.drop j)) (Ca.okds (qs.drop j) (deep + 1)) wr)) (fun i _ => qs.length - (intOf i).toNat)
            case atStart => exact ⟨0, Nat.zero_le _, rfl, Lib.hid ⟨_, ST.out⟩⟩
            case round =>
              obtain ⟨j, hj, rfl, hrel⟩ := hrel
              obtain ⟨lv, hs⟩ := hrel.out
              have RL := Lib.hid hs
              clear hrel ST hs
              have hbk : wr.heap[w.heap.size]? = some (.cells #[.int .i64 k, .string n, .bool m, .slice AL l.length cL, .slice AN ns.length cN, .slice AK ks.length cK, .slice AA qs.length cA] 36) := (RL.out.by_.2 _ CW.out (by rw [SZ.out]; omega)).trans BK.out
              have z6 : World.cell? wr ⟨w.heap.size, 6, none⟩ = some (.slice AA qs.length cA) := (blk_cell hbk 6).trans rfl
              have BW := Lib.hid RL.out.tl.below
              clear hbk
              by_cases hlt : j < qs.length
              · obtain ⟨b, off, es, rfl, hcl, hrd, hc⟩ := RA.out.get (i := j) (x := qs[j].enc) (by simp [Ca.encs_map, List.getElem?_eq_getElem hlt])
                obtain ⟨nv, bs, rfl, hbl, _, hbd⟩ := Ca.openB hrd
                obtain ⟨u0, u1, u2, u3, u4, u5, u6, rfl⟩ := cells7 hbl
                have e0 : wr.cell? ⟨b, off + j * 9 + 2, none⟩ = some u0 := cell_below BW.out (hc 2 _ rfl)
                have e1 : wr.cell? ⟨b, off + j * 9 + 2 + 1, none⟩ = some u1 := cell_below BW.out (hc 3 _ rfl)
                have e2 : wr.cell? ⟨b, off + j * 9 + 2 + 2, none⟩ = some u2 := cell_below BW.out (hc 4 _ rfl)
                have e3 : wr.cell? ⟨b, off + j * 9 + 2 + 3, none⟩ = some u3 := cell_below BW.out (hc 5 _ rfl)
                have e4 : wr.cell? ⟨b, off + j * 9 + 2 + 4, none⟩ = some u4 := cell_below BW.out (hc 6 _ rfl)
                have e5 : wr.cell? ⟨b, off + j * 9 + 2 + 5, none⟩ = some u5 := cell_below BW.out (hc 7 _ rfl)
                have e6 : wr.cell? ⟨b, off + j * 9 + 2 + 6, none⟩ = some u6 := cell_below BW.out (hc 8 _ rfl)
                have f1 : wr.cell? ⟨b, off + j * 9 + 3, none⟩ = some u1 := cell_below BW.out (hc 3 _ rfl)
                have f2 : wr.cell? ⟨b, off + j * 9 + 4, none⟩ = some u2 := cell_below BW.out (hc 4 _ rfl)
                have f3 : wr.cell? ⟨b, off + j * 9 + 5, none⟩ = some u3 := cell_below BW.out (hc 5 _ rfl)
                have f4 : wr.cell? ⟨b, off + j * 9 + 6, none⟩ = some u4 := cell_below BW.out (hc 6 _ rfl)
                have f5 : wr.cell? ⟨b, off + j * 9 + 7, none⟩ = some u5 := cell_below BW.out (hc 7 _ rfl)
                have f6 : wr.cell? ⟨b, off + j * 9 + 8, none⟩ = some u6 := cell_below BW.out (hc 8 _ rfl)
                have CAL := Lib.hid (IA.out _ (List.getElem_mem hlt) W0 wr _ (deep + 1) lv hbd RL.out.tl RL.out.l0 RL.out.l1 (by omega) (by omega))
                have D1 := Lib.hid (Ca.wts_drop hlt)
                have D2 := Lib.hid (Ca.okds_drop hlt (deep + 1))
                clear hrd hcl hc hbd hbl
                go_wp2_with fail
                refine CAL.out.mono ?_
                rintro e w1 ⟨r, l', rfl, tl1, by1, h1, h2⟩
                have TL2 := Lib.hid tl1
                have BY2 := Lib.hid by1
                have H1 := Lib.hid h1
                have H2 := Lib.hid h2
                clear tl1 by1 h1 h2 CAL
                cases r
                · go_wp2_with fail
                  go_ret
                  refine ⟨false, _, rfl, TL2.out, BY.out.trans (RL.out.by_.trans BY2.out), iff_of_false (by decide) ?_, fun h => by cases h⟩
                  exact RL.out.stop D1.out D2.out fun h => by have := H1.out.2 h; cases this
                · go_wp2
                  go_roundw
                  case rel => exact ⟨j + 1, by omega, by go_num, Lib.hid ⟨l', RL.out.step D1.out D2.out TL2.out BY2.out (r := true) (by have := H1.out; simpa using this) (fun _ => H2.out (by first | rfl | trivial)) rfl⟩⟩
                  case measure => simp [intOf]; omega
              · obtain rfl : j = qs.length := by omega
                have RX := RL.out
                rw [List.drop_length, Ca.wts, Ca.okds] at RX
                have RX := Lib.hid RX
                go_wp2_with fail
                go_ret
                refine ⟨true, lv, rfl, RX.out.tl, BY.out.trans RX.out.by_, iff_of_true rfl (RX.out.iff_.2 ⟨RX.out.l0, True.intro⟩), fun _ => ⟨?_, RX.out.l0⟩⟩
                have := RX.out.eq
                omega
theorem SpecSz_all : ∀ x : Cr, SpecSz x :=
  Cr.induct fun k n m l ns ks qs ih ia => SpecSz_of k n m l ns ks qs ih ia

/-- What a verdict says: nought exactly of a term without fault. -/
def Verdict (P : Prop) (w : World) (e : Ending) (w' : World) : Prop := ∃ v : Int, e = .returned (.int .i64 v) ∧ (v = 0 ↔ P) ∧ Below w.heap.size w w'
set_option maxRecDepth 100000 in
theorem specCoreFault (x : Cr) (hx : x.ok) (hb : x.enc.bulk ≤ 1048576) (w : World) (cs : List Value) (h : Rd w x.enc cs) :
    Calls Try.prog 57 #[.agg cs.toArray] w (Verdict x.good w) := by
  obtain ⟨u0, u1, u2, u3, u4, u5, u6, rfl⟩ := cells7 (h.len.trans x.n)
  have B1 := below_alloc1 w (.cells #[u0, u1, u2, u3, u4, u5, u6] 36)
  have hbk := blk_new w (.cells #[u0, u1, u2, u3, u4, u5, u6] 36)
  have hs : (w.alloc (.cells #[u0, u1, u2, u3, u4, u5, u6] 36)).heap.size = w.heap.size + 1 := by simp
  obtain ⟨W1, hW1⟩ : ∃ W1, W1 = w.alloc (.cells #[u0, u1, u2, u3, u4, u5, u6] 36) := ⟨_, rfl⟩
  have CT1 : Hid (∀ W, W = w.alloc (.cells #[u0, u1, u2, u3, u4, u5, u6] 36) → Calls Try.prog 116 #[.agg #[u0, u1, u2, u3, u4, u5, u6], .int .i64 1, .pointer (some ⟨w.heap.size + 1, 0, none⟩)] (W.alloc (.cells #[.int .i64 20000] 2)) (SizeAns W (W.alloc (.cells #[.int .i64 20000] 2)) ((x.wt : Int) ≤ 20000 ∧ x.okd 1) (20000 - x.wt))) := by
    rintro W rfl
    have := SpecSz_all x hb _ ((w.alloc (.cells #[u0, u1, u2, u3, u4, u5, u6] 36)).alloc (.cells #[.int .i64 20000] 2)) _ 1 20000 (h.below B1) ⟨below_alloc1 _ _, blk_new _ _⟩ (by omega) (by omega) (by omega) (by omega)
    rw [hs] at this
    exact this
  have CT2 : Hid (∀ w1, Below w.heap.size w w1 → Calls Try.prog 117 #[.agg #[u0, u1, u2, u3, u4, u5, u6]] w1 (Says x.shp w1)) := fun w1 h1 => SpecShp_all x hx hb w1 _ (h.below h1)
  have BK := Lib.hid hbk
  have HB1 := Lib.hid B1
  have HS := Lib.hid hs
  clear h B1 hbk hs hW1 W1
  go_enter Try.func57, Try.ntmps57
  go_wp2_with fail
  have CT := Lib.hid (CT1.out _ rfl)
  generalize hW : w.alloc (.cells #[u0, u1, u2, u3, u4, u5, u6] 36) = W at *
  clear hW CT1
  refine CT.out.mono ?_
  rintro e w1 ⟨r, l', rfl, tl, by1, h1, h2⟩
  have T := Lib.hid tl
  have H1 := Lib.hid h1
  have z0 : World.cell? w1 ⟨w.heap.size, 0, none⟩ = some u0 := (blk_cell (blk_below BK.out tl.below) 0).trans rfl
  have z1 : World.cell? w1 ⟨w.heap.size, 1, none⟩ = some u1 := (blk_cell (blk_below BK.out tl.below) 1).trans rfl
  have z2 : World.cell? w1 ⟨w.heap.size, 2, none⟩ = some u2 := (blk_cell (blk_below BK.out tl.below) 2).trans rfl
  have z3 : World.cell? w1 ⟨w.heap.size, 3, none⟩ = some u3 := (blk_cell (blk_below BK.out tl.below) 3).trans rfl
  have z4 : World.cell? w1 ⟨w.heap.size, 4, none⟩ = some u4 := (blk_cell (blk_below BK.out tl.below) 4).trans rfl
  have z5 : World.cell? w1 ⟨w.heap.size, 5, none⟩ = some u5 := (blk_cell (blk_below BK.out tl.below) 5).trans rfl
  have z6 : World.cell? w1 ⟨w.heap.size, 6, none⟩ = some u6 := (blk_cell (blk_below BK.out tl.below) 6).trans rfl
  have B2 := Lib.hid (HB1.out.trans (tl.below.mono (by rw [HS.out]; omega)))
  clear tl by1 h1 h2 CT
  cases r
  · go_wp2_with fail
    go_ret
    refine ⟨1, rfl, iff_of_false (by decide) fun hg => ?_, B2.out⟩
    have h1 := H1.out.2 ⟨by have := hg.1; omega, hg.2.1⟩
    cases h1
  · have CT3 := Lib.hid (CT2.out w1 B2.out)
    clear CT2
    go_wp2_with fail
    refine CT3.out.mono ?_
    rintro e w2 ⟨r, rfl, h3, hb3⟩
    have H3 := Lib.hid h3
    have B3 := Lib.hid (B2.out.trans (hb3.mono B2.out.size))
    clear h3 hb3 CT3
    cases r
    · go_wp2_with fail
      go_ret
      refine ⟨2, rfl, iff_of_false (by decide) fun hg => ?_, B3.out⟩
      have h3 := H3.out.2 hg.2.2
      cases h3
    · go_wp2_with fail
      go_ret
      have g1 := H1.out.1 (by first | rfl | trivial)
      exact ⟨0, rfl, iff_of_true rfl ⟨by omega, g1.2, H3.out.1 (by first | rfl | trivial)⟩, B3.out⟩

end Go.Proofs.Ythidbmjdphfddaa
