/- Would binds make a type too large, and what they make of it: the reference's whole function; no condition. -/
import Derived.Test.YtbbpkjcmbakfeaaAppL
namespace Go.Proofs.Ytbbpkjcmbakfeaa
open Go.RowKit
set_option linter.unusedVariables false
set_option linter.unusedSimpArgs false

set_option maxRecDepth 100000 in
set_option maxHeartbeats 4000000 in
theorem SpecLrg_con (bs : List (Int × Ty)) (k d : Int) (n : ByteArray) (ks : List Ty) (hn : ks.length ≤ 1048576) (hk : k ≠ 1) (ih : ∀ x ∈ ks, SpecLrg bs x) : SpecLrg bs (.mk k d n ks) := by
  intro W0 w A0 p0 cs deep left hB h tl h0 h1 h2 h3
  obtain ⟨A, c, rfl, _, _, h4⟩ := Ty.open_ h
  have IH := Lib.hid ih
  have HBS := Lib.hid hB
  have H4 := Lib.hid h4
  have hk' : (k == 1) = false := beq_eq_false_iff_ne.2 hk
  have hlt := blk_lt tl.blk
  have hw1 : Below w.heap.size w (w.alloc (.cells #[.int .i64 k, .int .i64 d, .string n, .slice A ks.length c] 30)) := (Below.refl _ _).alloc (Nat.le_refl _) _
  have c0 : (w.alloc (.cells #[.int .i64 k, .int .i64 d, .string n, .slice A ks.length c] 30)).cell? ⟨W0.heap.size, 0, none⟩ = some (.int .i64 left) := (blk_cell (blk_below tl.blk hw1) 0).trans rfl
  have y0 := blk_frozen (blk_below tl.blk hw1) 0
  have hw2 : Below W0.heap.size w (w.setCell ⟨W0.heap.size, 0, none⟩ (.int .i64 (left - 1))) := Below.setCell (Below.refl _ _) (p := ⟨W0.heap.size, 0, none⟩) (Nat.le_refl _) _
  have S1 := Lib.hid (blk_old (blk_set tl.blk 0 (.int .i64 (left - 1))) (.cells #[.int .i64 k, .int .i64 d, .string n, .slice A ks.length c] 30))
  have S2 := Lib.hid (blk_new_g (w := w.setCell ⟨W0.heap.size, 0, none⟩ (.int .i64 (left - 1))) (g := w.heap.size) (o := .cells #[.int .i64 k, .int .i64 d, .string n, .slice A ks.length c] 30) (by rw [sz_setCell]))
  have z3 : ((w.setCell ⟨W0.heap.size, 0, none⟩ (.int .i64 (left - 1))).alloc (.cells #[.int .i64 k, .int .i64 d, .string n, .slice A ks.length c] 30)).cell? ⟨w.heap.size, 3, none⟩ = some (.slice A ks.length c) := (blk_cell S2.out 3).trans rfl
  have c1 : ((w.setCell ⟨W0.heap.size, 0, none⟩ (.int .i64 (left - 1))).alloc (.cells #[.int .i64 k, .int .i64 d, .string n, .slice A ks.length c] 30)).cell? ⟨W0.heap.size, 0, none⟩ = some (.int .i64 (left - 1)) := (blk_cell S1.out 0).trans rfl
  have TL1 : Hid (Tl W0 (left - 1) ((w.setCell ⟨W0.heap.size, 0, none⟩ (.int .i64 (left - 1))).alloc (.cells #[.int .i64 k, .int .i64 d, .string n, .slice A ks.length c] 30))) := ⟨(tl.below.trans hw2).alloc (by rw [sz_setCell]; omega) _, S1.out⟩
  have BY1 : Hid (Beyond W0.heap.size w ((w.setCell ⟨W0.heap.size, 0, none⟩ (.int .i64 (left - 1))).alloc (.cells #[.int .i64 k, .int .i64 d, .string n, .slice A ks.length c] 30))) := ⟨by simp [sz_setCell], fun k h1 h2 => (Below.heap_alloc _ _ k (by rw [sz_setCell]; exact h2)).trans (Below.heap_setCell _ _ _ k (by simp; omega))⟩
  rw [Ty.lrg_none (.inl hk)]
  clear ih h hw1 hw2 hB h4 hk tl
  by_cases hb : left - 1 < 0 ∨ 200 < deep
  · rw [if_pos hb]
    go_enter Try.func82, Try.ntmps82
    rcases hb with hb | hb
    · go_wp2
      all_goals (go_ret; exact ⟨rfl, TL1.out, BY1.out⟩)
    · go_wp2
      all_goals (go_ret; exact ⟨rfl, TL1.out, BY1.out⟩)
  · rw [if_neg hb]
    have hb1 : 0 ≤ left - 1 := by omega
    have hb2 : deep ≤ 200 := by omega
    clear hb
    go_enter Try.func82, Try.ntmps82
    go_wp2_with fail
    generalize hW : (w.setCell ⟨W0.heap.size, 0, none⟩ (.int .i64 (left - 1))).alloc (.cells #[.int .i64 k, .int .i64 d, .string n, .slice A ks.length c] 30) = W at *
    have hWs : w.heap.size < W.heap.size := by rw [← hW]; simp [sz_setCell]
    clear hW c0 y0 z3 c1 S1
    go_loopw [10] (fun i wr => ∃ j : Nat, j ≤ ks.length ∧ i = .int .i64 j ∧ Hid (∃ l : Int, Tl W0 l wr ∧ Beyond W0.heap.size W wr ∧ 0 ≤ l ∧ l ≤ 20000 ∧ Hid (Ty.lrgs bs ks (deep + 1) (left - 1) = Ty.lrgs bs (ks.drop j) (deep + 1) l))) (fun i _ => ks.length - (intOf i).toNat)
    case atStart => exact ⟨0, Nat.zero_le _, rfl, Lib.hid ⟨left - 1, TL1.out, Beyond.refl _ _, by omega, by omega, rfl⟩⟩
    case round =>
      obtain ⟨j, hj, rfl, hrel⟩ := hrel
      obtain ⟨l, tlr, byr, hl0, hl1, hf⟩ := hrel.out
      have hbr : wr.heap[w.heap.size]? = some (.cells #[.int .i64 k, .int .i64 d, .string n, .slice A ks.length c] 30 (0, 0)) := (byr.2 _ hlt hWs).trans S2.out
      have z3 : wr.cell? ⟨w.heap.size, 3, none⟩ = some (.slice A ks.length c) := (blk_cell hbr 3).trans rfl
      by_cases hlt' : j < ks.length
      · obtain ⟨b, off, es, rfl, hcl, hrd, hc⟩ := H4.out.get (i := j) (x := ks[j].enc) (by simp [Ty.encs_map, List.getElem?_eq_getElem hlt'])
        obtain ⟨u0, u1, u2, u3, rfl⟩ := cells4 (hcl.trans rfl)
        have e0 : wr.cell? ⟨b, off + j * 4, none⟩ = some u0 := cell_below tlr.below (hc 0 _ rfl)
        have e1 : wr.cell? ⟨b, off + j * 4 + 1, none⟩ = some u1 := cell_below tlr.below (hc 1 _ rfl)
        have e2 : wr.cell? ⟨b, off + j * 4 + 2, none⟩ = some u2 := cell_below tlr.below (hc 2 _ rfl)
        have e3 : wr.cell? ⟨b, off + j * 4 + 3, none⟩ = some u3 := cell_below tlr.below (hc 3 _ rfl)
        have CAL := Lib.hid (IH.out _ (List.getElem_mem hlt') W0 wr A0 p0 _ (deep + 1) l HBS.out hrd tlr hl0 hl1 (by omega) (by omega))
        have SM := Lib.hid (hf.out.trans (Ty.lrgs_next hlt'))
        have LF := Lib.hid (Ty.lrg_left bs ks[j] (deep + 1) l)
        have BYR := Lib.hid byr
        clear hrd hcl hc hf byr tlr hbr hrel
        generalize ks[j].lrg bs (deep + 1) l = q at *
        obtain ⟨q, l'⟩ := q
        cases q with
        | false =>
          go_wp2_with fail
          refine CAL.out.mono ?_
          rintro e w1 ⟨rfl, tl1, by1⟩
          have TL2 := Lib.hid tl1
          have BY2 := Lib.hid (BYR.out.trans by1)
          clear tl1 by1 CAL
          go_wp2
          go_roundw
          case rel => exact ⟨j + 1, by omega, by go_num, Lib.hid ⟨l', TL2.out, BY2.out, (LF.out trivial).1, Int.le_trans (LF.out trivial).2 hl1, SM.out⟩⟩
          case measure => simp [intOf]; omega
        | true =>
          go_wp2_with fail
          refine CAL.out.mono ?_
          rintro e w1 ⟨rfl, tl1, by1⟩
          have TL2 := Lib.hid tl1
          have BY2 := Lib.hid (BYR.out.trans by1)
          clear tl1 by1 CAL
          go_wp2
          go_ret
          rw [SM.out]
          exact ⟨rfl, TL2.out, BY1.out.trans BY2.out⟩
      · obtain rfl : j = ks.length := by omega
        have TL2 := Lib.hid tlr
        have BY2 := Lib.hid byr
        have SM := Lib.hid hf
        clear tlr byr hf hrel
        go_wp2
        go_ret
        have h1 := SM.out.out
        rw [List.drop_length, Ty.lrgs] at h1
        rw [h1]
        exact ⟨rfl, TL2.out, BY1.out.trans BY2.out⟩

/-- Binds as they are read: not too many, each type in order. -/
structure BsOk (bs : List (Int × Ty)) : Prop where
  len : bs.length ≤ 1048576
  ok : ∀ p ∈ bs, p.2.ok
theorem SpecLrg_all (bs : List (Int × Ty)) (hb : BsOk bs) : ∀ (x : Ty), x.wf → x.size ≤ 1048576 → SpecLrg bs x :=
  Ty.induct fun k d n ks ih hw hl => by
    simp only [Ty.size] at hl
    have hlen := Ty.sizes_len ks
    have hw' := hw
    simp only [Ty.wf] at hw'
    by_cases hk : k = 1
    · subst hk
      have hks : ks = [] := by
        rcases hw' with ⟨_, _, _, h⟩ | ⟨h, _⟩
        · exact h
        · omega
      subst hks
      cases hg : bget bs d with
      | some y => exact SpecLrg_bound bs d n [] y hg hb.len hb.ok
      | none => exact SpecLrg_free bs d n hg hb.len
    · refine SpecLrg_con bs k d n ks (by omega) hk fun x hx => ih x hx ?_ (by have := Ty.size_mem hx; omega)
      rcases hw' with ⟨_, _, _, rfl⟩ | hw'
      · cases hx
      · exact Ty.wfs_mem hw'.2.2.2 x hx
theorem SpecApp_all (bs : List (Int × Ty)) (hb : bs.length ≤ 1048576) (hz : ∀ p ∈ bs, p.2.size ≤ 1048576) : ∀ (x : Ty), x.wf → x.size ≤ 1048576 → SpecApp bs x :=
  Ty.induct fun k d n ks ih hw hl => by
    simp only [Ty.size] at hl
    have hlen := Ty.sizes_len ks
    have hw' := hw
    simp only [Ty.wf] at hw'
    by_cases hk : k = 1
    · subst hk
      have hks : ks = [] := by
        rcases hw' with ⟨_, _, _, h⟩ | ⟨h, _⟩
        · exact h
        · omega
      subst hks
      exact SpecApp_var bs d n hb hz
    · refine SpecApp_con bs k d n ks (by omega) hk fun x hx => ih x hx ?_ (by have := Ty.size_mem hx; omega)
      rcases hw' with ⟨_, _, _, rfl⟩ | hw'
      · cases hx
      · exact Ty.wfs_mem hw'.2.2.2 x hx

/-- Are all types of binds without fault? -/
def bindsGood (bs : List (Int × Ty)) : Bool := bs.all fun p => !(p.2.fault 1 20000).1
theorem bindsGood_drop {bs : List (Int × Ty)} {j : Nat} (h : j < bs.length) : bindsGood (bs.drop j) = (!(bs[j].2.fault 1 20000).1 && bindsGood (bs.drop (j + 1))) := by
  rw [List.drop_eq_getElem_cons h, bindsGood, List.all_cons]; rfl
set_option maxRecDepth 100000 in
set_option maxHeartbeats 4000000 in
theorem specBinds (bs : List (Int × Ty)) (hb : BsOk bs) (w : World) (A0 : Option Addr) (p0 : Nat) (h : RdRow w 5 A0 (bindsD bs)) :
    Calls Try.prog 81 #[.slice A0 bs.length p0] w fun e w' => e = .returned (.bool (bindsGood bs)) ∧ Below w.heap.size w w' := by
  have HBS := Lib.hid h
  have HB := Lib.hid hb
  have hn := hb.len
  clear h hb
  go_enter Try.func81, Try.ntmps81
  go_wp2_with fail
  go_loopw [3] (fun i wr => ∃ j : Nat, j ≤ bs.length ∧ i = .int .i64 j ∧ Hid (Below w.heap.size w wr ∧ bindsGood bs = bindsGood (bs.drop j))) (fun i _ => bs.length - (intOf i).toNat)
  case atStart => exact ⟨0, Nat.zero_le _, rfl, Lib.hid ⟨Below.refl _ _, rfl⟩⟩
  case round =>
    obtain ⟨j, hj, rfl, hrel⟩ := hrel
    obtain ⟨hbr, hg⟩ := hrel.out
    have HBR := Lib.hid hbr
    have HG := Lib.hid hg
    clear hrel hbr hg
    by_cases hlj : j < bs.length
    · obtain ⟨b, off, u0, u1, u2, u3, rfl, hc, hrd⟩ := binds_get HBS.out hlj
      have HD := Lib.hid (bindsGood_drop hlj)
      have e0 : wr.cell? ⟨b, off + j * 5 + 1, none⟩ = some u0 := cell_below HBR.out (hc 1 _ rfl)
      have e1 : wr.cell? ⟨b, off + j * 5 + 2, none⟩ = some u1 := cell_below HBR.out (hc 2 _ rfl)
      have e2 : wr.cell? ⟨b, off + j * 5 + 3, none⟩ = some u2 := cell_below HBR.out (hc 3 _ rfl)
      have e3 : wr.cell? ⟨b, off + j * 5 + 4, none⟩ = some u3 := cell_below HBR.out (hc 4 _ rfl)
      have CAL := Lib.hid (specTypeFault bs[j].2 (HB.out.ok _ (List.getElem_mem hlj)) wr _ (hrd.below HBR.out))
      have i1 : (0 : Int) ≤ (j : Int) := Int.natCast_nonneg _
      have i2 : (j : Int) < (bs.length : Int) := by omega
      clear hc hrd
      generalize (bs[j].2.fault 1 20000).1 = q at *
      cases q with
      | true =>
        go_wp2_with fail
        refine CAL.out.mono ?_
        rintro e w1 ⟨rfl, hb1⟩
        have H1 := Lib.hid (HBR.out.trans (hb1.mono HBR.out.size))
        clear hb1 CAL
        go_wp2
        go_ret
        rw [HG.out, HD.out]
        exact ⟨rfl, H1.out⟩
      | false =>
        go_wp2_with fail
        refine CAL.out.mono ?_
        rintro e w1 ⟨rfl, hb1⟩
        have H1 := Lib.hid (HBR.out.trans (hb1.mono HBR.out.size))
        clear hb1 CAL
        go_wp2_with fail
        go_roundw
        case rel => exact ⟨j + 1, by omega, by go_num, Lib.hid ⟨H1.out, by rw [HG.out, HD.out]; rfl⟩⟩
        case measure => simp [intOf]; omega
    · obtain rfl : j = bs.length := by omega
      go_wp2
      go_ret
      rw [HG.out, List.drop_length]
      exact ⟨rfl, HBR.out⟩

end Go.Proofs.Ytbbpkjcmbakfeaa
