/- The reference's binds applied to a variable; no condition. -/
import Derived.Test.YtbbpkjcmbakfeaaAppS
namespace Go.Proofs.Ytbbpkjcmbakfeaa
open Go.RowKit
set_option linter.unusedVariables false
set_option linter.unusedSimpArgs false

theorem fr_leaf' (B : Nat) (w : World) (k d : Int) (n : ByteArray) (A : Option Addr) (c : Nat) (hc : c ≤ maxLen) : Fr B w (Ty.mk k d n []).enc [.int .i64 k, .int .i64 d, .string n, .slice A 0 c] := by
  simp only [Ty.enc, Ty.encs]
  rw [fr_struct]
  exact frF_int (frF_int (frF_str (frF_last (fr_nil _ _ 4 _ _ hc))))

theorem ty_cells {w : World} {x : Ty} {cs : List Value} (h : Rd w x.enc cs) : ∃ k d n A l c, cs = [.int .i64 k, .int .i64 d, .string n, .slice A l c] := by
  cases x with
  | mk k d n ks =>
    obtain ⟨A, c, rfl, _⟩ := Ty.open_ h
    exact ⟨k, d, n, A, ks.length, c, rfl⟩
/-- The answer's block, whole, with the four cells stored. -/
theorem fr_store4 {B g : Nat} {w : World} {x : D} {cs : List Value} (h : Fr B w x cs) (hg : g < B) (u0 u1 u2 u3 : Value) : Fr B ((((w.setCell ⟨g, 0, none⟩ u0).setCell ⟨g, 1, none⟩ u1).setCell ⟨g, 2, none⟩ u2).setCell ⟨g, 3, none⟩ u3) x cs :=
  (((h.set (p := ⟨g, 0, none⟩) hg u0).set (p := ⟨g, 1, none⟩) hg u1).set (p := ⟨g, 2, none⟩) hg u2).set (p := ⟨g, 3, none⟩) hg u3
theorem below_store4 {B g : Nat} {a w : World} (h : Below B a w) (hg : B ≤ g) (u0 u1 u2 u3 : Value) : Below B a ((((w.setCell ⟨g, 0, none⟩ u0).setCell ⟨g, 1, none⟩ u1).setCell ⟨g, 2, none⟩ u2).setCell ⟨g, 3, none⟩ u3) :=
  (((h.setCell (p := ⟨g, 0, none⟩) hg u0).setCell (p := ⟨g, 1, none⟩) hg u1).setCell (p := ⟨g, 2, none⟩) hg u2).setCell (p := ⟨g, 3, none⟩) hg u3

set_option maxRecDepth 100000 in
set_option maxHeartbeats 4000000 in
theorem SpecApp_var (bs : List (Int × Ty)) (d : Int) (n : ByteArray) (hn : bs.length ≤ 1048576) (hz : ∀ p ∈ bs, p.2.size ≤ 1048576) : SpecApp bs (.mk 1 d n []) := by
  intro w A0 p0 cs hB h
  obtain ⟨A, c, rfl, _, hcm, _⟩ := Ty.open_ h
  have HBS := Lib.hid hB
  have CM := Lib.hid hcm
  have HZ := Lib.hid hz
  have BX0 := Lib.hid (blk_old (blk_new w (.cells #[.int .i64 1, .int .i64 d, .string n, .slice A 0 c] 30)) (.cells #[.int .i64 0, .int .i64 0, .string ⟨#[]⟩, .slice none 0 0] 30))
  have BZ0 := Lib.hid (blk_new_g (w := w.alloc (.cells #[.int .i64 1, .int .i64 d, .string n, .slice A 0 c] 30)) (g := w.heap.size + 1) (o := .cells #[.int .i64 0, .int .i64 0, .string ⟨#[]⟩, .slice none 0 0] 30) (by simp))
  have HW0 : Hid (Below w.heap.size w ((w.alloc (.cells #[.int .i64 1, .int .i64 d, .string n, .slice A 0 c] 30)).alloc (.cells #[.int .i64 0, .int .i64 0, .string ⟨#[]⟩, .slice none 0 0] 30))) := (below_alloc1 _ _).alloc (by simp) _
  have SZ0 : Hid (w.heap.size + 1 < ((w.alloc (.cells #[.int .i64 1, .int .i64 d, .string n, .slice A 0 c] 30)).alloc (.cells #[.int .i64 0, .int .i64 0, .string ⟨#[]⟩, .slice none 0 0] 30)).heap.size) := (by show _ < _; simp)
  rw [Ty.app, if_pos rfl]
  clear h hB hcm hz
  go_enter Try.func83, Try.ntmps83
  go_wp2_with fail
  generalize hW : ((w.alloc (.cells #[.int .i64 1, .int .i64 d, .string n, .slice A 0 c] 30)).alloc (.cells #[.int .i64 0, .int .i64 0, .string ⟨#[]⟩, .slice none 0 0] 30)) = W at *
  clear hW
  go_loopw [5] (fun i wr => ∃ j : Nat, j ≤ bs.length ∧ i = .int .i64 j ∧ Hid (Below W.heap.size W wr ∧ bget bs d = bget (bs.drop j) d)) (fun i _ => bs.length - (intOf i).toNat)
  case atStart => exact ⟨0, Nat.zero_le _, rfl, Lib.hid ⟨Below.refl _ _, rfl⟩⟩
  case round =>
    obtain ⟨j, hj, rfl, hrel⟩ := hrel
    obtain ⟨hbr, hg⟩ := hrel.out
    have HBR := Lib.hid hbr
    have HG := Lib.hid hg
    clear hrel hbr hg
    by_cases hlt : j < bs.length
    · obtain ⟨b, off, u0, u1, u2, u3, rfl, hc, hrd⟩ := binds_get HBS.out hlt
      have HD := Lib.hid (bget_drop (d := d) hlt)
      have KEEP : Hid (∀ w', Below W.heap.size W w' → w'.cell? ⟨b, off + j * 5, none⟩ = some (.int .i64 bs[j].1) ∧ w'.cell? ⟨w.heap.size, 1, none⟩ = some (.int .i64 d)) := fun w' hb => ⟨cell_below (HW0.out.trans (hb.mono HW0.out.size)) (by simpa using hc 0 _ rfl), (blk_cell (blk_below BX0.out hb) 1).trans rfl⟩
      have KE : Hid (∀ w', Below W.heap.size W w' → w'.cell? ⟨b, off + j * 5 + 1, none⟩ = some u0 ∧ w'.cell? ⟨b, off + j * 5 + 2, none⟩ = some u1 ∧ w'.cell? ⟨b, off + j * 5 + 3, none⟩ = some u2 ∧ w'.cell? ⟨b, off + j * 5 + 4, none⟩ = some u3) := fun w' hb => ⟨cell_below (HW0.out.trans (hb.mono HW0.out.size)) (hc 1 _ rfl), cell_below (HW0.out.trans (hb.mono HW0.out.size)) (hc 2 _ rfl), cell_below (HW0.out.trans (hb.mono HW0.out.size)) (hc 3 _ rfl), cell_below (HW0.out.trans (hb.mono HW0.out.size)) (hc 4 _ rfl)⟩
      have RD := Lib.hid ((hrd.below HW0.out).below HBR.out)
      have CP := Lib.hid (specCopy bs[j].2 (HZ.out _ (List.getElem_mem hlt)))
      have i1 : (0 : Int) ≤ (j : Int) := Int.natCast_nonneg _
      have i2 : (j : Int) < (bs.length : Int) := by omega
      clear hc hrd
      by_cases hq : bs[j].1 = d
      · have hq' : (bs[j].1 == d) = true := beq_iff_eq.2 hq
        have HQ := Lib.hid hq
        obtain ⟨e0, e1, e2, e3⟩ := KE.out _ HBR.out
        clear hq
        go_wp2_with fail
        go_region_held3 (fun w' => w'.cell? ⟨b, off + j * 5, none⟩ = some (.int .i64 bs[j].1) ∧ w'.cell? ⟨w.heap.size, 1, none⟩ = some (.int .i64 d)) (first | exact KEEP.out _ HBR.out | exact KEEP.out _ HBR.out.drew) (first | fail)
        go_wp2_with (go_at_call 95; refine (CP.out _ _ (RD.out.below (by first | exact Below.refl _ _ | exact (Below.refl _ _).drew))).mono ?_; rintro e w1 ⟨cs', rfl, hfr, hb⟩; obtain ⟨k', d', n', A', l', c', rfl⟩ := ty_cells hfr.rd; have FR := Lib.hid hfr; have HB1 := Lib.hid (HBR.out.drew.trans (hb.mono HBR.out.drew.size)); have BZ := Lib.hid (blk_below BZ0.out HB1.out); have SZ1 : Hid (W.heap.size ≤ wr.drew.heap.size) := HBR.out.size; have zr0 : World.cell? w1 ⟨w.heap.size + 1, 0, none⟩ = some (.int .i64 0) := (blk_cell BZ.out 0).trans rfl; have zf0 := blk_frozen BZ.out 0; have zr1 : World.cell? w1 ⟨w.heap.size + 1, 1, none⟩ = some (.int .i64 0) := (blk_cell BZ.out 1).trans rfl; have zf1 := blk_frozen BZ.out 1; have zr2 : World.cell? w1 ⟨w.heap.size + 1, 2, none⟩ = some (.string ⟨#[]⟩) := (blk_cell BZ.out 2).trans rfl; have zf2 := blk_frozen BZ.out 2; have zr3 : World.cell? w1 ⟨w.heap.size + 1, 3, none⟩ = some (.slice none 0 0) := (blk_cell BZ.out 3).trans rfl; have zf3 := blk_frozen BZ.out 3; clear hfr hb)
        have hz1 : w.heap.size + 1 < wr.drew.heap.size := Nat.lt_of_lt_of_le SZ0.out SZ1.out
        refine bodyPost_ret (v := .agg #[.int .i64 k', .int .i64 d', .string n', .slice A' l' c']) (by simp [results, Try.results83, go_sem, zr0, zr1, zr2, zr3]) rfl ⟨[.int .i64 k', .int .i64 d', .string n', .slice A' l' c'], rfl, ?_, below_store4 (HW0.out.trans (HB1.out.mono HW0.out.size)) (by omega) _ _ _ _⟩
        rw [HG.out, HD.out, if_pos HQ.out]
        exact (fr_store4 FR.out hz1 _ _ _ _).lower (by omega)
      · have hq' : (bs[j].1 == d) = false := beq_eq_false_iff_ne.2 hq
        have HQ := Lib.hid hq
        clear hq
        go_wp2_with fail
        go_region_held3 (fun w' => w'.cell? ⟨b, off + j * 5, none⟩ = some (.int .i64 bs[j].1) ∧ w'.cell? ⟨w.heap.size, 1, none⟩ = some (.int .i64 d)) (first | exact KEEP.out _ HBR.out | exact KEEP.out _ HBR.out.drew) (first | fail)
        go_wp2_with fail
        go_roundw
        case rel => exact ⟨j + 1, by omega, by go_num, Lib.hid ⟨HBR.out.drew, by rw [HG.out, HD.out, if_neg HQ.out]⟩⟩
        case measure => simp [intOf]; omega
    · obtain rfl : j = bs.length := by omega
      have BX := Lib.hid (blk_below BX0.out HBR.out)
      have BZ := Lib.hid (blk_below BZ0.out HBR.out)
      have zr0 : World.cell? wr ⟨w.heap.size + 1, 0, none⟩ = some (.int .i64 0) := (blk_cell BZ.out 0).trans rfl
      have zf0 := blk_frozen BZ.out 0
      have zr1 : World.cell? wr ⟨w.heap.size + 1, 1, none⟩ = some (.int .i64 0) := (blk_cell BZ.out 1).trans rfl
      have zf1 := blk_frozen BZ.out 1
      have zr2 : World.cell? wr ⟨w.heap.size + 1, 2, none⟩ = some (.string ⟨#[]⟩) := (blk_cell BZ.out 2).trans rfl
      have zf2 := blk_frozen BZ.out 2
      have zr3 : World.cell? wr ⟨w.heap.size + 1, 3, none⟩ = some (.slice none 0 0) := (blk_cell BZ.out 3).trans rfl
      have zf3 := blk_frozen BZ.out 3
      have zb0 : World.cell? wr ⟨w.heap.size, 0, none⟩ = some (.int .i64 1) := (blk_cell BX.out 0).trans rfl
      have zb1 : World.cell? wr ⟨w.heap.size, 1, none⟩ = some (.int .i64 d) := (blk_cell BX.out 1).trans rfl
      have zb2 : World.cell? wr ⟨w.heap.size, 2, none⟩ = some (.string n) := (blk_cell BX.out 2).trans rfl
      have zb3 : World.cell? wr ⟨w.heap.size, 3, none⟩ = some (.slice A 0 c) := (blk_cell BX.out 3).trans rfl
      go_wp2
      refine bodyPost_ret (v := .agg #[.int .i64 1, .int .i64 d, .string n, .slice A 0 c]) (by simp [results, Try.results83, go_sem, zr0, zr1, zr2, zr3]) rfl ⟨[.int .i64 1, .int .i64 d, .string n, .slice A 0 c], rfl, ?_, below_store4 (HW0.out.trans (HBR.out.mono HW0.out.size)) (by omega) _ _ _ _⟩
      rw [HG.out, List.drop_length]
      exact fr_leaf' _ _ _ _ _ _ _ CM.out

end Go.Proofs.Ytbbpkjcmbakfeaa
