/- Would binds make a type too large? The reference; no condition. -/
import Derived.Test.YtbbpkjcmbakfeaaAppV
namespace Go.Proofs.Ytbbpkjcmbakfeaa
open Go.RowKit
set_option linter.unusedVariables false
set_option linter.unusedSimpArgs false

mutual
def Ty.lrg (bs : List (Int × Ty)) : Ty → Int → Int → Bool × Int
  | .mk k d n ks, deep, left =>
    match (if k = 1 then bget bs d else none) with
    | some y => y.fault deep left
    | none => if left - 1 < 0 ∨ 200 < deep then (true, left - 1) else Ty.lrgs bs ks (deep + 1) (left - 1)
def Ty.lrgs (bs : List (Int × Ty)) : List Ty → Int → Int → Bool × Int
  | [], _, left => (false, left)
  | x :: xs, deep, left => if (x.lrg bs deep left).1 = true then (true, (x.lrg bs deep left).2) else Ty.lrgs bs xs deep (x.lrg bs deep left).2
end
theorem Ty.lrgs_next {bs : List (Int × Ty)} {ks : List Ty} {j : Nat} {deep left : Int} (hj : j < ks.length) : Ty.lrgs bs (ks.drop j) deep left = if (ks[j].lrg bs deep left).1 = true then (true, (ks[j].lrg bs deep left).2) else Ty.lrgs bs (ks.drop (j + 1)) deep (ks[j].lrg bs deep left).2 := by
  rw [List.drop_eq_getElem_cons hj, Ty.lrgs]
theorem Ty.lrg_some {bs : List (Int × Ty)} {d deep left : Int} {n : ByteArray} {ks : List Ty} {y : Ty} (h : bget bs d = some y) : (Ty.mk 1 d n ks).lrg bs deep left = y.fault deep left := by
  rw [Ty.lrg, if_pos rfl, h]
theorem Ty.lrg_none {bs : List (Int × Ty)} {k d deep left : Int} {n : ByteArray} {ks : List Ty} (h : k ≠ 1 ∨ bget bs d = none) : (Ty.mk k d n ks).lrg bs deep left = if left - 1 < 0 ∨ 200 < deep then (true, left - 1) else Ty.lrgs bs ks (deep + 1) (left - 1) := by
  rw [Ty.lrg]
  rcases h with h | h
  · rw [if_neg h]
  · by_cases hk : k = 1
    · rw [if_pos hk, h]
    · rw [if_neg hk]
theorem Ty.lrgs_left {bs : List (Int × Ty)} : ∀ (xs : List Ty), (∀ x ∈ xs, ∀ deep left, (x.lrg bs deep left).1 = false → 0 ≤ (x.lrg bs deep left).2 ∧ (x.lrg bs deep left).2 ≤ left) →
    ∀ deep left, 0 ≤ left → (Ty.lrgs bs xs deep left).1 = false → 0 ≤ (Ty.lrgs bs xs deep left).2 ∧ (Ty.lrgs bs xs deep left).2 ≤ left
  | [], _, deep, left, h0, h => by
    simp only [Ty.lrgs]
    exact ⟨h0, Int.le_refl _⟩
  | x :: xs, ih, deep, left, h0, h => by
    rw [Ty.lrgs] at h ⊢
    by_cases hx : (x.lrg bs deep left).1 = true
    · rw [if_pos hx] at h
      simp at h
    · rw [if_neg hx] at h ⊢
      have h1 := ih x (by simp) deep left (by simpa using hx)
      have h2 := Ty.lrgs_left xs (fun y hy => ih y (by simp [hy])) deep _ h1.1 h
      omega
theorem Ty.lrg_left (bs : List (Int × Ty)) : ∀ (x : Ty) (deep left : Int), (x.lrg bs deep left).1 = false → 0 ≤ (x.lrg bs deep left).2 ∧ (x.lrg bs deep left).2 ≤ left :=
  Ty.induct fun k d n ks ih deep left h => by
    by_cases hc : k = 1 ∧ ∃ y, bget bs d = some y
    · obtain ⟨rfl, y, hy⟩ := hc
      rw [Ty.lrg_some hy] at h ⊢
      exact Ty.fault_left y deep left h
    · have hn : k ≠ 1 ∨ bget bs d = none := by
        by_cases hk : k = 1
        · right
          cases hb : bget bs d with
          | none => rfl
          | some y => exact absurd ⟨hk, y, hb⟩ hc
        · exact .inl hk
      rw [Ty.lrg_none hn] at h ⊢
      by_cases hb : left - 1 < 0 ∨ 200 < deep
      · rw [if_pos hb] at h
        simp at h
      · rw [if_neg hb] at h ⊢
        have := Ty.lrgs_left ks ih (deep + 1) (left - 1) (by omega) h
        omega

def SpecLrg (bs : List (Int × Ty)) (x : Ty) : Prop := ∀ (W0 w : World) (A0 : Option Addr) (p0 : Nat) (cs : List Value) (deep left : Int), RdRow W0 5 A0 (bindsD bs) → Rd W0 x.enc cs → Tl W0 left w → 0 ≤ left → left ≤ 20000 → 0 ≤ deep → deep ≤ 201 →
  Calls Try.prog 82 #[.slice A0 bs.length p0, .agg cs.toArray, .int .i64 deep, .pointer (some ⟨W0.heap.size, 0, none⟩)] w fun e w' =>
    e = .returned (.bool (x.lrg bs deep left).1) ∧ Tl W0 (x.lrg bs deep left).2 w' ∧ Beyond W0.heap.size w w'

theorem tl_drew {W0 w : World} {l : Int} (h : Tl W0 l w) : Tl W0 l w.drew := ⟨h.below.drew, h.blk⟩
theorem beyond_drew {C : Nat} {a w : World} (h : Beyond C a w) : Beyond C a w.drew := h
theorem Tl.beyond_below {W0 w w1 : World} {l : Int} (h : Tl W0 l w) (hb : Beyond W0.heap.size w w1) (ht : Below W0.heap.size W0 w1) {p : Addr} {v : Value} (hc : w.cell? p = some v) (hp : W0.heap.size < p.block) : w1.cell? p = some v :=
  (World.cell?_of_block (a := p) (hb.2 _ hp (cell_lt hc))).trans hc

set_option maxRecDepth 100000 in
set_option maxHeartbeats 4000000 in
/-- A variable that is bound: its type's size is asked. -/
theorem SpecLrg_bound (bs : List (Int × Ty)) (d : Int) (n : ByteArray) (ks : List Ty) (y : Ty) (hy : bget bs d = some y) (hn : bs.length ≤ 1048576) (hok : ∀ p ∈ bs, p.2.ok) : SpecLrg bs (.mk 1 d n ks) := by
  intro W0 w A0 p0 cs deep left hB h tl h0 h1 h2 h3
  obtain ⟨A, c, rfl, _, _, _⟩ := Ty.open_ h
  have HBS := Lib.hid hB
  have HOK := Lib.hid hok
  have HY := Lib.hid hy
  have TL0 : Hid (Tl W0 left (w.alloc (.cells #[.int .i64 1, .int .i64 d, .string n, .slice A ks.length c] 30))) := ⟨tl.below.alloc tl.below.size _, blk_old tl.blk _⟩
  have BY0 : Hid (Beyond W0.heap.size w (w.alloc (.cells #[.int .i64 1, .int .i64 d, .string n, .slice A ks.length c] 30))) := ⟨by simp, fun k _ hk => Below.heap_alloc _ _ k hk⟩
  have BX0 := Lib.hid (blk_new w (.cells #[.int .i64 1, .int .i64 d, .string n, .slice A ks.length c] 30))
  have hlt := blk_lt tl.blk
  rw [Ty.lrg_some hy]
  clear h hB tl hok hy
  go_enter Try.func82, Try.ntmps82
  go_wp2_with fail
  generalize hW : (w.alloc (.cells #[.int .i64 1, .int .i64 d, .string n, .slice A ks.length c] 30)) = W at *
  clear hW
  go_loopw [9] (fun i wr => ∃ j : Nat, j ≤ bs.length ∧ i = .int .i64 j ∧ Hid (Below W.heap.size W wr ∧ bget bs d = bget (bs.drop j) d)) (fun i _ => bs.length - (intOf i).toNat)
  case atStart => exact ⟨0, Nat.zero_le _, rfl, Lib.hid ⟨Below.refl _ _, rfl⟩⟩
  case round =>
    obtain ⟨j, hj, rfl, hrel⟩ := hrel
    obtain ⟨hbr, hg⟩ := hrel.out
    have HBR := Lib.hid hbr
    have HG := Lib.hid hg
    clear hrel hbr hg
    have hlj : j < bs.length := by
      apply Classical.byContradiction
      intro hc
      have h1 := HG.out
      rw [HY.out, List.drop_eq_nil_of_le (by omega)] at h1
      cases h1
    obtain ⟨b, off, u0, u1, u2, u3, rfl, hc, hrd⟩ := binds_get HBS.out hlj
    have HD := Lib.hid (bget_drop (d := d) hlj)
    have KEEP : Hid (∀ w', Below W.heap.size W w' → w'.cell? ⟨b, off + j * 5, none⟩ = some (.int .i64 bs[j].1) ∧ w'.cell? ⟨w.heap.size, 1, none⟩ = some (.int .i64 d)) := fun w' hb => ⟨cell_below (TL0.out.below.trans (hb.mono TL0.out.below.size)) (by simpa using hc 0 _ rfl), (blk_cell (blk_below BX0.out hb) 1).trans rfl⟩
    have KE : Hid (∀ w', Below W.heap.size W w' → w'.cell? ⟨b, off + j * 5 + 1, none⟩ = some u0 ∧ w'.cell? ⟨b, off + j * 5 + 2, none⟩ = some u1 ∧ w'.cell? ⟨b, off + j * 5 + 3, none⟩ = some u2 ∧ w'.cell? ⟨b, off + j * 5 + 4, none⟩ = some u3) := fun w' hb => ⟨cell_below (TL0.out.below.trans (hb.mono TL0.out.below.size)) (hc 1 _ rfl), cell_below (TL0.out.below.trans (hb.mono TL0.out.below.size)) (hc 2 _ rfl), cell_below (TL0.out.below.trans (hb.mono TL0.out.below.size)) (hc 3 _ rfl), cell_below (TL0.out.below.trans (hb.mono TL0.out.below.size)) (hc 4 _ rfl)⟩
    have RD := Lib.hid hrd
    have i1 : (0 : Int) ≤ (j : Int) := Int.natCast_nonneg _
    have i2 : (j : Int) < (bs.length : Int) := by omega
    clear hc hrd
    by_cases hq : bs[j].1 = d
    · have hq' : (bs[j].1 == d) = true := beq_iff_eq.2 hq
      have EY : Hid (bs[j].2 = y) := by
        have h1 := HG.out
        rw [HD.out, if_pos hq, HY.out] at h1
        injection h1 with h1
        exact h1.symm
      obtain ⟨e0, e1, e2, e3⟩ := KE.out _ HBR.out
      have TLR : Hid (Tl W0 left wr.drew) := ⟨(TL0.out.below.trans (HBR.out.mono TL0.out.below.size)).drew, blk_below TL0.out.blk HBR.out.drew⟩
      have CAL := Lib.hid (SpecTF_all bs[j].2 (HOK.out _ (List.getElem_mem hlj)) W0 wr.drew _ deep left RD.out TLR.out h0 h1 h2 h3)
      have BYR : Hid (Beyond W0.heap.size w wr.drew) := BY0.out.trans ⟨HBR.out.size, fun k _ hk => HBR.out.block k hk⟩
      clear hq
      go_wp2_with fail
      go_region_held3 (fun w' => w'.cell? ⟨b, off + j * 5, none⟩ = some (.int .i64 bs[j].1) ∧ w'.cell? ⟨w.heap.size, 1, none⟩ = some (.int .i64 d)) (first | exact KEEP.out _ HBR.out | exact KEEP.out _ HBR.out.drew) (first | fail)
      go_wp2_with fail
      refine CAL.out.mono ?_
      rintro e w1 ⟨rfl, tl1, by1⟩
      have T1 := Lib.hid tl1
      have B1 := Lib.hid (BYR.out.trans by1)
      clear tl1 by1 CAL
      go_wp2
      go_ret
      rw [← EY.out]
      exact ⟨rfl, T1.out, B1.out⟩
    · have hq' : (bs[j].1 == d) = false := beq_eq_false_iff_ne.2 hq
      have HQ := Lib.hid hq
      clear hq
      go_wp2_with fail
      go_region_held3 (fun w' => w'.cell? ⟨b, off + j * 5, none⟩ = some (.int .i64 bs[j].1) ∧ w'.cell? ⟨w.heap.size, 1, none⟩ = some (.int .i64 d)) (first | exact KEEP.out _ HBR.out | exact KEEP.out _ HBR.out.drew) (first | fail)
      go_wp2_with fail
      go_roundw
      case rel => exact ⟨j + 1, by omega, by go_num, Lib.hid ⟨HBR.out.drew, by rw [HG.out, HD.out, if_neg HQ.out]⟩⟩
      case measure => simp [intOf]; omega

set_option maxRecDepth 100000 in
set_option maxHeartbeats 4000000 in
/-- A variable that is not bound. -/
theorem SpecLrg_free (bs : List (Int × Ty)) (d : Int) (n : ByteArray) (hy : bget bs d = none) (hn : bs.length ≤ 1048576) : SpecLrg bs (.mk 1 d n []) := by
  intro W0 w A0 p0 cs deep left hB h tl h0 h1 h2 h3
  obtain ⟨A, c, rfl, _, _, _⟩ := Ty.open_ h
  have HBS := Lib.hid hB
  have HY := Lib.hid hy
  have TL0 : Hid (Tl W0 left (w.alloc (.cells #[.int .i64 1, .int .i64 d, .string n, .slice A 0 c] 30))) := ⟨tl.below.alloc tl.below.size _, blk_old tl.blk _⟩
  have BY0 : Hid (Beyond W0.heap.size w (w.alloc (.cells #[.int .i64 1, .int .i64 d, .string n, .slice A 0 c] 30))) := ⟨by simp, fun k _ hk => Below.heap_alloc _ _ k hk⟩
  have BX0 := Lib.hid (blk_new w (.cells #[.int .i64 1, .int .i64 d, .string n, .slice A 0 c] 30))
  have hlt := blk_lt tl.blk
  rw [Ty.lrg_none (.inr hy)]
  clear h hB tl hy
  go_enter Try.func82, Try.ntmps82
  go_wp2_with fail
  generalize hW : (w.alloc (.cells #[.int .i64 1, .int .i64 d, .string n, .slice A 0 c] 30)) = W at *
  clear hW
  go_loopw [9] (fun i wr => ∃ j : Nat, j ≤ bs.length ∧ i = .int .i64 j ∧ Hid (Below W.heap.size W wr ∧ bget bs d = bget (bs.drop j) d)) (fun i _ => bs.length - (intOf i).toNat)
  case atStart => exact ⟨0, Nat.zero_le _, rfl, Lib.hid ⟨Below.refl _ _, rfl⟩⟩
  case round =>
    obtain ⟨j, hj, rfl, hrel⟩ := hrel
    obtain ⟨hbr, hg⟩ := hrel.out
    have HBR := Lib.hid hbr
    have HG := Lib.hid hg
    clear hrel hbr hg
    by_cases hlj : j < bs.length
    · obtain ⟨b, off, u0, u1, u2, u3, rfl, hc, hrd⟩ := binds_get HBS.out hlj
      have HD := Lib.hid (bget_drop (d := d) hlj)
      have KEEP : Hid (∀ w', Below W.heap.size W w' → w'.cell? ⟨b, off + j * 5, none⟩ = some (.int .i64 bs[j].1) ∧ w'.cell? ⟨w.heap.size, 1, none⟩ = some (.int .i64 d)) := fun w' hb => ⟨cell_below (TL0.out.below.trans (hb.mono TL0.out.below.size)) (by simpa using hc 0 _ rfl), (blk_cell (blk_below BX0.out hb) 1).trans rfl⟩
      have i1 : (0 : Int) ≤ (j : Int) := Int.natCast_nonneg _
      have i2 : (j : Int) < (bs.length : Int) := by omega
      clear hc hrd
      have hq : bs[j].1 ≠ d := fun hq => by
        have h1 := HG.out
        rw [HD.out, if_pos hq, HY.out] at h1
        cases h1
      have hq' : (bs[j].1 == d) = false := beq_eq_false_iff_ne.2 hq
      have HQ := Lib.hid hq
      clear hq
      go_wp2_with fail
      go_region_held3 (fun w' => w'.cell? ⟨b, off + j * 5, none⟩ = some (.int .i64 bs[j].1) ∧ w'.cell? ⟨w.heap.size, 1, none⟩ = some (.int .i64 d)) (first | exact KEEP.out _ HBR.out | exact KEEP.out _ HBR.out.drew) (first | fail)
      go_wp2_with fail
      go_roundw
      case rel => exact ⟨j + 1, by omega, by go_num, Lib.hid ⟨HBR.out.drew, by rw [HG.out, HD.out, if_neg HQ.out]⟩⟩
      case measure => simp [intOf]; omega
    · obtain rfl : j = bs.length := by omega
      have TLR : Hid (Tl W0 left wr) := ⟨TL0.out.below.trans (HBR.out.mono TL0.out.below.size), blk_below TL0.out.blk HBR.out⟩
      have BYR : Hid (Beyond W0.heap.size w wr) := BY0.out.trans ⟨HBR.out.size, fun k _ hk => HBR.out.block k hk⟩
      have BX := Lib.hid (blk_below BX0.out HBR.out)
      have c0 : wr.cell? ⟨W0.heap.size, 0, none⟩ = some (.int .i64 left) := (blk_cell TLR.out.blk 0).trans rfl
      have y0 := blk_frozen TLR.out.blk 0
      have z3 : wr.cell? ⟨w.heap.size, 3, none⟩ = some (.slice A 0 c) := (blk_cell BX.out 3).trans rfl
      have T1 : Hid (Tl W0 (left - 1) (wr.setCell ⟨W0.heap.size, 0, none⟩ (.int .i64 (left - 1)))) := ⟨TLR.out.below.setCell (Nat.le_refl _) _, blk_set TLR.out.blk 0 _⟩
      have B1 : Hid (Beyond W0.heap.size w (wr.setCell ⟨W0.heap.size, 0, none⟩ (.int .i64 (left - 1)))) := BYR.out.trans ⟨by simp [sz_setCell], fun k h1 h2 => Below.heap_setCell _ _ _ k (by simp; omega)⟩
      have hne : ¬ (w.heap.size = W0.heap.size) := by omega
      by_cases hb : left - 1 < 0 ∨ 200 < deep
      · have HQ := Lib.hid hb
        rcases hb with hb | hb
        · go_wp2
          all_goals (go_ret; exact ⟨rfl, T1.out, B1.out⟩)
        · go_wp2
          all_goals (go_ret; exact ⟨rfl, T1.out, B1.out⟩)
      · have HQ := Lib.hid hb
        have hb1 : 0 ≤ left - 1 := by omega
        have hb2 : deep ≤ 200 := by omega
        clear hb
        go_wp2_with fail
        go_loop [10] (fun i => i = .int .i64 0) (fun _ => 0)
        case atStart => rfl
        case round =>
          obtain rfl := hrel
          go_wp2
          go_ret
          exact ⟨by simp [Ty.lrgs], by simpa [Ty.lrgs] using T1.out, B1.out⟩

end Go.Proofs.Ytbbpkjcmbakfeaa
