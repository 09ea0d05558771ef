/- Core terms: both 'AllNames', whole; no condition. -/
import Derived.Test.YthidbmjdphfddaaAnE
namespace Go.Proofs.Ythidbmjdphfddaa
open Go Go.RowKit
set_option linter.unusedVariables false
set_option linter.unusedSimpArgs false

open Classical in
/-- All names of a term without fault; of another none. -/
noncomputable def allAns (x : Cr) : List ByteArray := if x.good then x.alln [] else []
theorem allAns_len (x : Cr) (hb : x.enc.bulk ≤ 1048576) : (allAns x).length ≤ 1048577 := by
  unfold allAns
  split
  · have h1 := Cr.alln_len x []
    have h2 := Cr.wt_bulk x
    simp only [List.length_nil] at h1
    omega
  · simp
/-- A new row of texts. -/
def Texts (R : List ByteArray) (w : World) (e : Ending) (w' : World) : Prop := ∃ v, e = .returned v ∧ Fr w.heap.size w' (.slice 1 (strs R)) [v] ∧ Below w.heap.size w w'

set_option maxRecDepth 100000 in
theorem specNames (x : Cr) (hx : x.ok) (hb : x.enc.bulk ≤ 1048576) (w : World) (cs : List Value) (h : Rd w x.enc cs) :
    Calls Try.prog 58 #[.agg cs.toArray] w (Texts (x.alln []) w) := by
  obtain ⟨u0, u1, u2, u3, u4, u5, u6, rfl⟩ := cells7 (h.len.trans x.n)
  have B1 := below_alloc1 w (.cells #[u0, u1, u2, u3, u4, u5, u6] 36)
  have CT1 : Hid (∀ W, W = w.alloc (.cells #[u0, u1, u2, u3, u4, u5, u6] 36) → Calls Try.prog 118 #[.agg #[u0, u1, u2, u3, u4, u5, u6], .slice (some ⟨w.heap.size + 1, 0, none⟩) 0 0] (W.alloc (.cells #[] 9)) fun e w' => ∃ v', e = .returned v' ∧ Grow W.heap.size w' v' 9 1 (strs (x.alln [])) ∧ Below W.heap.size W w') := by
    rintro W rfl
    have hg := grow_made (B := (w.alloc (.cells #[u0, u1, u2, u3, u4, u5, u6] 36)).heap.size) (w.alloc (.cells #[u0, u1, u2, u3, u4, u5, u6] 36)) 9 1 (Nat.le_refl _)
    have := SpecAll_all x hx _ ((w.alloc (.cells #[u0, u1, u2, u3, u4, u5, u6] 36)).alloc (.cells #[] 9)) _ _ [] (h.below B1) (below_alloc1 _ _) (by simpa [strs] using hg) (by have := Cr.wt_bulk x; simp only [List.length_nil]; omega)
    rw [show (w.alloc (.cells #[u0, u1, u2, u3, u4, u5, u6] 36)).heap.size = w.heap.size + 1 by simp] at this ⊢
    refine this.mono ?_
    rintro e w' ⟨v', rfl, hg', hgr⟩
    refine ⟨v', rfl, hg', hgr.below ((below_alloc1 _ _).mono (by simp)) (by simp) (fun g hg => ?_)⟩
    have : w.heap.size + 1 = g := by simpa [Value.ownBlock] using hg
    omega
  have HB1 := Lib.hid B1
  clear h B1
  go_enter Try.func58, Try.ntmps58
  go_wp2_with fail
  have CT := Lib.hid (CT1.out _ rfl)
  generalize hW : w.alloc (.cells #[u0, u1, u2, u3, u4, u5, u6] 36) = W at *
  clear hW CT1
  refine CT.out.mono ?_
  rintro e w1 ⟨v', rfl, hg, hb1⟩
  have HG := Lib.hid hg
  have HB := Lib.hid (HB1.out.trans (hb1.mono HB1.out.size))
  clear hg hb1 CT
  go_wp2
  go_ret
  exact ⟨_, rfl, HG.out.fr.lower HB1.out.size, HB.out⟩

set_option maxRecDepth 100000 in
theorem specAllNames (x : Cr) (hx : x.ok) (hb : x.enc.bulk ≤ 1048576) (w : World) (cs : List Value) (h : Rd w x.enc cs) :
    Calls Try.prog 11 #[.agg cs.toArray] w (Texts (allAns x) w) := by
  obtain ⟨u0, u1, u2, u3, u4, u5, u6, rfl⟩ := cells7 (h.len.trans x.n)
  have B1 := below_alloc1 w (.cells #[u0, u1, u2, u3, u4, u5, u6] 36)
  have CT := Lib.hid (specCoreFault x hx hb _ _ (h.below B1))
  have CN : Hid (∀ w1, Below w.heap.size w w1 → Calls Try.prog 58 #[.agg #[u0, u1, u2, u3, u4, u5, u6]] w1 (Texts (x.alln []) w1)) := fun w1 h1 => specNames x hx hb w1 _ (h.below h1)
  have BK := Lib.hid (blk_new w (.cells #[u0, u1, u2, u3, u4, u5, u6] 36))
  have HB1 := Lib.hid B1
  clear h B1
  obtain ⟨R, hR⟩ : ∃ R, R = allAns x := ⟨_, rfl⟩
  rw [← hR]
  have HR := Lib.hid hR
  clear hR
  go_enter Try.func11, Try.ntmps11
  go_wp2_with fail
  generalize hW : w.alloc (.cells #[u0, u1, u2, u3, u4, u5, u6] 36) = W at *
  clear hW
  refine CT.out.mono ?_
  rintro e w1 ⟨vd, rfl, hv, hb1⟩
  have HV := Lib.hid hv
  have B2 := Lib.hid (HB1.out.trans (hb1.mono HB1.out.size))
  have BK1 := Lib.hid (blk_below BK.out hb1)
  clear hv hb1 CT
  by_cases hg : x.good
  · obtain rfl : vd = 0 := HV.out.2 hg
    have E : Hid (R = x.alln []) := by show _ = _; rw [HR.out, allAns, if_pos hg]
    have CN1 := Lib.hid (CN.out w1 B2.out)
    have z0 : World.cell? w1 ⟨w.heap.size, 0, none⟩ = some u0 := (blk_cell BK1.out 0).trans rfl
    have z1 : World.cell? w1 ⟨w.heap.size, 1, none⟩ = some u1 := (blk_cell BK1.out 1).trans rfl
    have z2 : World.cell? w1 ⟨w.heap.size, 2, none⟩ = some u2 := (blk_cell BK1.out 2).trans rfl
    have z3 : World.cell? w1 ⟨w.heap.size, 3, none⟩ = some u3 := (blk_cell BK1.out 3).trans rfl
    have z4 : World.cell? w1 ⟨w.heap.size, 4, none⟩ = some u4 := (blk_cell BK1.out 4).trans rfl
    have z5 : World.cell? w1 ⟨w.heap.size, 5, none⟩ = some u5 := (blk_cell BK1.out 5).trans rfl
    have z6 : World.cell? w1 ⟨w.heap.size, 6, none⟩ = some u6 := (blk_cell BK1.out 6).trans rfl
    clear hg CN
    go_wp2_with fail
    refine CN1.out.mono ?_
    rintro e w2 ⟨v, rfl, hf, hb2⟩
    have HF := Lib.hid hf
    have B3 := Lib.hid (B2.out.trans (hb2.mono B2.out.size))
    clear hf hb2 CN1
    go_wp2
    go_ret
    exact ⟨_, rfl, by rw [E.out]; exact HF.out.lower B2.out.size, B3.out⟩
  · have E : Hid (R = []) := by show _ = _; rw [HR.out, allAns, if_neg hg]
    have h0 : (vd != 0) = true := by rw [bne_iff_ne]; exact fun h => hg (HV.out.1 h)
    have h0' : (vd == 0) = false := by rw [beq_eq_false_iff_ne]; exact fun h => hg (HV.out.1 h)
    clear hg CN
    go_wp2
    go_ret
    exact ⟨_, rfl, by rw [E.out]; exact fr_nil _ _ _ _ _ (Nat.zero_le _), B2.out.alloc B2.out.size _⟩

set_option maxRecDepth 100000 in
theorem implAllNames (x : Cr) (hx : x.ok) (hb : x.enc.bulk ≤ 1048576) (w : World) (cs : List Value) (h : Rd w x.enc cs) :
    Calls Try.prog 13 #[.agg cs.toArray] w (Texts (allAns x) w) := by
  obtain ⟨u0, u1, u2, u3, u4, u5, u6, rfl⟩ := cells7 (h.len.trans x.n)
  have B1 := below_alloc1 w (.cells #[u0, u1, u2, u3, u4, u5, u6] 36)
  have hbk := blk_new w (.cells #[u0, u1, u2, u3, u4, u5, u6] 36)
  have CT := Lib.hid (implCoreFault x hx hb _ _ (h.below B1))
  have hcell : CellsAt (w.alloc (.cells #[u0, u1, u2, u3, u4, u5, u6] 36)) w.heap.size 0 [u0, u1, u2, u3, u4, u5, u6] := fun i u hi => by
    have := blk_cell hbk (0 + i)
    rw [this]
    simpa using hi
  have CN : Hid (∀ W, W = w.alloc (.cells #[u0, u1, u2, u3, u4, u5, u6] 36) → ∀ (w1 : World) (G S m : Nat) (v : Value), An W G S m [] v w1 → Calls Try.prog 64 #[.pointer (some ⟨w.heap.size, 0, none⟩), .func (.func 65) #[] #[.pointer (some ⟨S, 0, none⟩), .pointer (some ⟨G, 0, none⟩)]] w1 fun e w' => e = .returned (.tuple #[]) ∧ ∃ v', An W G S m (x.alln []) v' w') := by
    rintro W rfl w1 G S m v hA
    exact EachN_all x hx _ w1 _ w.heap.size 0 G S m [] v (h.below B1) hcell hA (by have := Cr.wt_bulk x; simp only [List.length_nil]; omega)
  have HB1 := Lib.hid B1
  clear h B1 hbk hcell
  obtain ⟨R, hR⟩ : ∃ R, R = allAns x := ⟨_, rfl⟩
  rw [← hR]
  have HR := Lib.hid hR
  clear hR
  have hmm := @run_makeMap Try.prog
  go_enter Try.func13, Try.ntmps13
  go_wp2_with fail
  have CN2 := Lib.hid (CN.out _ rfl)
  generalize hW : w.alloc (.cells #[u0, u1, u2, u3, u4, u5, u6] 36) = W at *
  clear hW CN
  refine CT.out.mono ?_
  rintro e w1 ⟨vd, rfl, hv, hb1⟩
  have HV := Lib.hid hv
  have BW1 := Lib.hid hb1
  have B2 := Lib.hid (HB1.out.trans (hb1.mono HB1.out.size))
  clear hv hb1 CT
  by_cases hg : x.good
  · obtain rfl : vd = 0 := HV.out.2 hg
    have E : Hid (R = x.alln []) := by show _ = _; rw [HR.out, allAns, if_pos hg]
    have hst : An W (w1.heap.size + 1) (w1.heap.size + 1 + 1 + 1) (w1.heap.size + 1 + 1) [] (.slice (some ⟨w1.heap.size, 0, none⟩) 0 0) ((((w1.alloc (.cells #[] 9)).alloc (.cells #[.slice (some ⟨w1.heap.size, 0, none⟩) 0 0] 25)).alloc (.map #[] 0)).alloc (.cells #[.map (some (w1.heap.size + 1 + 1))] 98)) := by
      have hsz := BW1.out.size
      have g1 := grow_made (B := W.heap.size) w1 9 1 hsz
      have b1 := below_alloc1 (w1.alloc (.cells #[] 9)) (.cells #[.slice (some ⟨w1.heap.size, 0, none⟩) 0 0] 25)
      have b2 := below_alloc1 ((w1.alloc (.cells #[] 9)).alloc (.cells #[.slice (some ⟨w1.heap.size, 0, none⟩) 0 0] 25)) (.map #[] 0)
      have b3 := below_alloc1 (((w1.alloc (.cells #[] 9)).alloc (.cells #[.slice (some ⟨w1.heap.size, 0, none⟩) 0 0] 25)).alloc (.map #[] 0)) (.cells #[.map (some (w1.heap.size + 1 + 1))] 98)
      have m1 := hasMap_new ((w1.alloc (.cells #[] 9)).alloc (.cells #[.slice (some ⟨w1.heap.size, 0, none⟩) 0 0] 25)) keyT
      have e1 : ((w1.alloc (.cells #[] 9)).alloc (.cells #[.slice (some ⟨w1.heap.size, 0, none⟩) 0 0] 25)).heap.size = w1.heap.size + 1 + 1 := by simp
      have e2 : (w1.alloc (.cells #[] 9)).heap.size = w1.heap.size + 1 := by simp
      have e3 : (((w1.alloc (.cells #[] 9)).alloc (.cells #[.slice (some ⟨w1.heap.size, 0, none⟩) 0 0] 25)).alloc (.map #[] 0)).heap.size = w1.heap.size + 1 + 1 + 1 := by simp
      rw [e1] at m1
      have k1 := blk_new (w1.alloc (.cells #[] 9)) (.cells #[.slice (some ⟨w1.heap.size, 0, none⟩) 0 0] 25)
      rw [e2] at k1
      have k3 := blk_new (((w1.alloc (.cells #[] 9)).alloc (.cells #[.slice (some ⟨w1.heap.size, 0, none⟩) 0 0] 25)).alloc (.map #[] 0)) (.cells #[.map (some (w1.heap.size + 1 + 1))] 98)
      rw [e3] at k3
      refine ⟨(((BW1.out.alloc hsz _).alloc (by rw [e2]; omega) _).alloc (by rw [e1]; omega) _).alloc (by rw [e3]; omega) _, blk_old (blk_old k1 _) _, k3, ?_, m1.below b3, by omega, by omega, by omega⟩
      have := (((g1.below b1).below b2).below b3)
      simpa [strs] using this
    have CN1 := Lib.hid (CN2.out _ _ _ _ _ hst)
    clear hg CN2 hst
    go_wp2_with fail
    refine CN1.out.mono ?_
    rintro e w2 ⟨rfl, v', hA⟩
    have HA := Lib.hid hA
    have z0 : World.cell? w2 ⟨w1.heap.size + 1, 0, none⟩ = some v' := (blk_cell hA.out 0).trans rfl
    clear hA CN1
    go_wp2
    go_ret
    exact ⟨_, rfl, by rw [E.out]; exact HA.out.row.fr.lower HB1.out.size, HB1.out.trans (HA.out.below.mono HB1.out.size)⟩
  · have E : Hid (R = []) := by show _ = _; rw [HR.out, allAns, if_neg hg]
    have h0 : (vd != 0) = true := by rw [bne_iff_ne]; exact fun h => hg (HV.out.1 h)
    have h0' : (vd == 0) = false := by rw [beq_eq_false_iff_ne]; exact fun h => hg (HV.out.1 h)
    clear hg CN2
    go_wp2
    go_ret
    exact ⟨_, rfl, by rw [E.out]; exact fr_nil _ _ _ _ _ (Nat.zero_le _), B2.out⟩

end Go.Proofs.Ythidbmjdphfddaa
