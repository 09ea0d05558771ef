/- What the laws' own helpers do with []uint32,Big; no condition. -/
import Derived.Test.YthidbmjdphfddaaHs
import Derived.Test.YthidbmjdphfddaaProg
namespace Go.Proofs.Ythidbmjdphfddaa
open Go.RowKit
set_option linter.unusedVariables false
set_option linter.unusedSimpArgs false

theorem szUint32S_of (xs : List D) (hn : xs.length ≤ 140737488351232) (hb : D.bulks xs = 0) : SzO Try.prog 114 (.slice 1 xs) := by
  intro w v left h h0 h1
  obtain ⟨A, c, rfl, _, _, _⟩ := rd_slice1 h
  have TOT := Lib.hid (show D.bulk (.slice 1 xs) = xs.length by simp only [D.bulk]; omega)
  clear h hb
  go_enter Try.func114, Try.ntmps114
  go_wp2_with fail
  · go_ret
    exact ⟨ret_int (szR_neg' (by rw [TOT.out]; omega)).symm, Below.refl _ _⟩
  · go_ret
    exact ⟨ret_int ((szR_fit (by rw [TOT.out]; omega)).trans (by rw [TOT.out])).symm, Below.refl _ _⟩

set_option maxRecDepth 100000 in
theorem eqUint32S_of (xs : List D) (hn : xs.length ≤ 140737488351232) (ih : ∀ x ∈ xs, ∃ n, x = D.int .u32 n) : EqO Try.prog 125 (.slice 1 xs) := by
  intro w v v' h h'
  obtain ⟨A, c, rfl, _, _, hrow⟩ := rd_slice1 h
  obtain ⟨A', c', rfl, _, _, hrow'⟩ := rd_slice1 h'
  have IH := Lib.hid ih
  have H := Lib.hid hrow
  have H' := Lib.hid hrow'
  clear ih h h' hrow hrow'
  go_enter Try.func125, Try.ntmps125
  go_wp2_with fail
  go_loopw [5] (fun i wr => ∃ j : Nat, j ≤ xs.length ∧ i = .int .i64 j ∧ Below w.heap.size w wr) (fun i _ => xs.length - (intOf i).toNat)
  case atStart => exact ⟨0, Nat.zero_le _, rfl, Below.refl _ _⟩
  case round =>
    obtain ⟨j, hj, rfl, hb⟩ := hrel
    by_cases hlt : j < xs.length
    · obtain ⟨b, off, cs, rfl, hcl, hrd, hc⟩ := (RdRow.below H.out (by omega) hb).get (List.getElem?_eq_getElem hlt)
      obtain ⟨b', off', cs', rfl, hcl', hrd', hc'⟩ := (RdRow.below H'.out (by omega) hb).get (List.getElem?_eq_getElem hlt)
      obtain ⟨u0, rfl⟩ := cells1 hcl
      obtain ⟨v0, rfl⟩ := cells1 hcl'
      have c0 : wr.cell? ⟨b, off + j, none⟩ = some u0 := by simpa using hc 0 _ rfl
      have d0 : wr.cell? ⟨b', off' + j, none⟩ = some v0 := by simpa using hc' 0 _ rfl
      obtain ⟨z, hz⟩ := IH.out _ (List.getElem_mem hlt)
      rw [hz] at hrd hrd'
      obtain rfl : u0 = .int .u32 z := by simpa using rd_int.1 hrd
      obtain rfl : v0 = .int .u32 z := by simpa using rd_int.1 hrd'
      have HB := Lib.hid hb
      clear hrd hcl hc hb hrd' hcl' hc' H H' hz
      have i0 : (0 : Int) ≤ (j : Int) := Int.natCast_nonneg _
      have i1 : (j : Int) < (xs.length : Int) := by omega
      go_wp2_with fail
      go_quiet (fail)
      go_wp2
      go_roundw
      case rel => exact ⟨j + 1, by omega, by go_num, drewN_below HB.out _⟩
      case measure => simp [intOf]; omega
    · obtain rfl : j = xs.length := by omega
      have HB := Lib.hid hb
      clear hb
      go_wp2
      go_ret
      exact ⟨rfl, HB.out⟩

theorem infoUint32S : (Try.prog.info? 230).map (fun i => (i.zero, i.size, i.bytes)) = some (some (.int .u32 0), 1, 4) := by kernel_rfl
set_option maxRecDepth 100000 in
theorem toUint32S_of (xs : List D) (hn : xs.length ≤ 1048576) (ih : ∀ x ∈ xs, ∃ n, x = D.int .u32 n) : ToO Try.prog 119 (.slice 1 xs) := by
  intro w v h
  obtain ⟨A, c, rfl, _, _, hrow⟩ := rd_slice1 h
  have IH := Lib.hid ih
  have H := Lib.hid hrow
  clear ih h hrow
  obtain ⟨i0, hi, hz0, hz1, hz2⟩ := info_parts infoUint32S
  have hmk := run_make (P := Try.prog) w 22 230 i0 _ Try.underlying22 hi hz0 .i64 .i64 (xs.length : Int) (xs.length : Int) (by omega) (by omega) (by rw [hz2]; omega) (by omega)
  rw [hz1, Int.toNat_natCast] at hmk
  clear hi hz0 hz1 hz2
  go_enter Try.func119, Try.ntmps119
  go_wp2_with fail
  go_loopw [4] (fun i wr => ∃ j : Nat, j ≤ xs.length ∧ i = .int .i64 j ∧ Below w.heap.size w wr ∧ Fill w.heap.size wr w.heap.size 230 1 xs.length (xs.take j)) (fun i _ => xs.length - (intOf i).toNat)
  case atStart => exact ⟨0, Nat.zero_le _, rfl, (Below.refl _ _).alloc (Nat.le_refl _) _, by rw [List.take_zero]; exact Fill.start (Nat.le_refl _) (by simp [size_madeCells])⟩
  case round =>
    obtain ⟨j, hj, rfl, hb, hf⟩ := hrel
    clear hmk
    by_cases hlt : j < xs.length
    · have hk : (xs.take j).length = j := by rw [List.length_take]; omega
      obtain ⟨b, off, cs, rfl, hcl, hrd, hc⟩ := (RdRow.below H.out (by omega) hb).get (List.getElem?_eq_getElem hlt)
      obtain ⟨u0, rfl⟩ := cells1 hcl
      obtain ⟨q, hq⟩ := IH.out _ (List.getElem_mem hlt)
      rw [hq] at hrd
      obtain rfl : u0 = .int .u32 q := by simpa using rd_int.1 hrd
      have c0 : wr.cell? ⟨b, off + j, none⟩ = some (.int .u32 q) := by simpa using hc 0 _ rfl
      have th := hf.there hlt
      obtain ⟨z, t0⟩ : ∃ z, wr.cell? ⟨w.heap.size, j, none⟩ = some z := by
        have := (th 0 (by omega)).1
        simp only [Nat.mul_one, Nat.add_zero] at this
        exact Option.isSome_iff_exists.1 this
      have t1 : wr.frozen? ⟨w.heap.size, j, none⟩ = false := by simpa using (th 0 (by omega)).2
      have hf1 := hf.store (Below.refl _ _) (fr_int _ _ _ _ : Fr wr.heap.size wr (.int .u32 q) [.int .u32 q]) rfl (by rw [hk]; exact hlt)
      rw [hk, ← hq] at hf1
      simp only [World.setCells, Nat.mul_one] at hf1
      have HF1 := Lib.hid hf1
      have HB1 := Lib.hid (hb.setCell (p := ⟨w.heap.size, j, none⟩) (Nat.le_refl _) (.int .u32 q))
      clear hrd hc hb hf H hcl hk th hf1 hq
      go_wp2
      go_roundw
      case rel =>
        refine ⟨j + 1, by omega, by go_num, HB1.out, ?_⟩
        rw [List.take_succ_eq_append_getElem hlt]
        exact HF1.out
      case measure => simp [intOf]; omega
    · obtain rfl : j = xs.length := by omega
      rw [List.take_length] at hf
      have HB := Lib.hid hb
      have HF := Lib.hid (hf.done rfl (by simp only [maxLen]; omega))
      clear hb hf H
      go_wp2
      go_ret
      exact ⟨_, rfl, HF.out, HB.out⟩

theorem openBig {bMinus : Bool} {xLimbs : List D} {w : World} {cs : List Value} (h : Rd w (.struct [.bool bMinus, .slice 1 xLimbs]) cs) : ∃ (ALimbs : Option Addr) (cLimbs : Nat), cs = [.bool bMinus, .slice ALimbs xLimbs.length cLimbs] ∧ Rd w (D.slice 1 xLimbs) [.slice ALimbs xLimbs.length cLimbs] := by
  rw [rd_struct] at h
  simp only [rdF_cons, rdF_nil, rd_int, rd_bool, rd_str] at h
  obtain ⟨e0, r0, rfl, rfl, e1, r1, rfl, hLimbs, rfl⟩ := h
  have kLimbs := hLimbs
  obtain ⟨ALimbs, cLimbs, rfl, _⟩ := rd_slice hLimbs
  exact ⟨ALimbs, cLimbs, by simp, kLimbs⟩

set_option maxRecDepth 100000 in
theorem szBig_of (bMinus : Bool) (xLimbs : List D) (ihLimbs : SzO Try.prog 114 (D.slice 1 xLimbs)) : SzA Try.prog 53 (.struct [.bool bMinus, .slice 1 xLimbs]) := by
  intro w cs left h h0 h1
  obtain ⟨ALimbs, cLimbs, rfl, rdLimbs⟩ := openBig h
  have TOT := Lib.hid (show D.bulk (.struct [.bool bMinus, .slice 1 xLimbs]) = (D.slice 1 xLimbs).bulk by simp only [D.bulk, D.bulks] <;> omega)
  have HB0 := Lib.hid ((Below.refl w.heap.size w).alloc (Nat.le_refl _) (.cells #[.bool bMinus, .slice ALimbs xLimbs.length cLimbs] 24))
  have BK0 := Lib.hid (blk_new w (.cells #[.bool bMinus, .slice ALimbs xLimbs.length cLimbs] 24))
  have RDLimbs := Lib.hid rdLimbs
  have IHLimbs := Lib.hid ihLimbs
  clear h rdLimbs ihLimbs
  go_enter Try.func53, Try.ntmps53
  go_wp2_with fail
  have hlLimbs : 0 ≤ left := by omega
  refine (IHLimbs.out _ _ (left) (RDLimbs.out.below HB0.out) hlLimbs (by omega)).mono ?_
  rintro e w1 ⟨rfl, hb⟩
  have HB1 := Lib.hid (HB0.out.trans (hb.mono HB0.out.size))
  have BK1 := Lib.hid (blk_below BK0.out hb)
  clear hb
  have z1_0 := blk_cell BK1.out 0
  have z1_1 := blk_cell BK1.out 1
  simp at z1_0 z1_1
  by_cases hzLimbs : left < ((D.slice 1 xLimbs).bulk : Int)
  · rw [szR_neg' hzLimbs]
    go_wp2
    go_ret
    exact ⟨ret_int (szR_neg' (by rw [TOT.out]; omega)).symm, HB1.out⟩
  · rw [szR_fit (by omega)]
    go_wp2_with fail
    go_ret
    exact ⟨ret_int ((szR_fit (by rw [TOT.out]; omega)).trans (by rw [TOT.out] <;> omega)).symm, HB1.out⟩

set_option maxRecDepth 100000 in
theorem eqBig_of (bMinus : Bool) (xLimbs : List D) (ihLimbs : EqO Try.prog 125 (D.slice 1 xLimbs)) : EqA Try.prog 66 (.struct [.bool bMinus, .slice 1 xLimbs]) := by
  intro w cs cs' h h'
  obtain ⟨ALimbs, cLimbs, rfl, rdLimbs⟩ := openBig h
  obtain ⟨ALimbs', cLimbs', rfl, rdLimbs'⟩ := openBig h'
  have HB0 := Lib.hid (((Below.refl w.heap.size w).alloc (Nat.le_refl _) (.cells #[.bool bMinus, .slice ALimbs xLimbs.length cLimbs] 32)).alloc (by simp) (.cells #[.bool bMinus, .slice ALimbs' xLimbs.length cLimbs'] 32))
  have BK0 := Lib.hid (blk_old (blk_new w (.cells #[.bool bMinus, .slice ALimbs xLimbs.length cLimbs] 32)) (.cells #[.bool bMinus, .slice ALimbs' xLimbs.length cLimbs'] 32))
  have BJ0 := Lib.hid (blk_new (w.alloc (.cells #[.bool bMinus, .slice ALimbs xLimbs.length cLimbs] 32)) (.cells #[.bool bMinus, .slice ALimbs' xLimbs.length cLimbs'] 32))
  have RDLimbs := Lib.hid rdLimbs
  have RDLimbs' := Lib.hid rdLimbs'
  have IHLimbs := Lib.hid ihLimbs
  clear h h' rdLimbs rdLimbs' ihLimbs
  go_enter Try.func66, Try.ntmps66
  go_wp2_with fail
  refine (IHLimbs.out _ _ _ (RDLimbs.out.below HB0.out) (RDLimbs'.out.below HB0.out)).mono ?_
  rintro e w1 ⟨rfl, hb⟩
  have HB1 := Lib.hid (HB0.out.trans (hb.mono HB0.out.size))
  have BK1 := Lib.hid (blk_below BK0.out hb)
  have BJ1 := Lib.hid (blk_below BJ0.out hb)
  clear hb
  have z1_0 := blk_cell BK1.out 0
  have z1_1 := blk_cell BK1.out 1
  have y1_0 := blk_cell BJ1.out 0
  have y1_1 := blk_cell BJ1.out 1
  simp at z1_0 z1_1 y1_0 y1_1
  go_wp2
  go_ret
  exact ⟨rfl, HB1.out⟩

set_option maxRecDepth 100000 in
theorem toBig_of (bMinus : Bool) (xLimbs : List D) (ihLimbs : ToO Try.prog 119 (D.slice 1 xLimbs)) : ToA Try.prog 59 (.struct [.bool bMinus, .slice 1 xLimbs]) := by
  intro w cs h
  obtain ⟨ALimbs, cLimbs, rfl, rdLimbs⟩ := openBig h
  have RDLimbs := Lib.hid rdLimbs
  have IHLimbs := Lib.hid ihLimbs
  clear h rdLimbs ihLimbs
  go_enter Try.func59, Try.ntmps59
  go_wp2_with fail
  have HB0 := Lib.hid ((((Below.refl w.heap.size w).alloc (Nat.le_refl _) (.cells #[.bool bMinus, .slice ALimbs xLimbs.length cLimbs] 24)).alloc (by simp) (.cells #[.bool false, .slice none 0 0] 32)).alloc (by simp; omega) (.cells #[.bool bMinus, .slice none 0 0] 32))
  have HS0 := Lib.hid (show (((w.alloc (.cells #[.bool bMinus, .slice ALimbs xLimbs.length cLimbs] 24)).alloc (.cells #[.bool false, .slice none 0 0] 32)).alloc (.cells #[.bool bMinus, .slice none 0 0] 32)).heap.size = w.heap.size + 3 by simp)
  have BA0 := Lib.hid (blk_old (blk_old (blk_new w (.cells #[.bool bMinus, .slice ALimbs xLimbs.length cLimbs] 24)) (.cells #[.bool false, .slice none 0 0] 32)) (.cells #[.bool bMinus, .slice none 0 0] 32))
  have BR0 := Lib.hid (blk_old (blk_new (w.alloc (.cells #[.bool bMinus, .slice ALimbs xLimbs.length cLimbs] 24)) (.cells #[.bool false, .slice none 0 0] 32)) (.cells #[.bool bMinus, .slice none 0 0] 32))
  have BO0 := Lib.hid (blk_new ((w.alloc (.cells #[.bool bMinus, .slice ALimbs xLimbs.length cLimbs] 24)).alloc (.cells #[.bool false, .slice none 0 0] 32)) (.cells #[.bool bMinus, .slice none 0 0] 32))
  refine (IHLimbs.out _ _ (RDLimbs.out.below HB0.out)).mono ?_
  rintro e w1 ⟨vLimbs, rfl, hfr, hb⟩
  obtain ⟨BLimbs, dLimbs, rfl, _, _, _⟩ := hfr.slice
  have hr := hfr.range
  have hsz := hb.size
  rw [HS0.out] at hr hsz
  have FRLimbs := Lib.hid hr
  have SY1 := Lib.hid hsz
  have SZ1 := Lib.hid (show w.heap.size + 3 ≤ w1.heap.size by omega)
  have HB1 := Lib.hid (HB0.out.trans (hb.mono HB0.out.size))
  have BA1 := Lib.hid (blk_below BA0.out hb)
  have BR1 := Lib.hid (blk_below BR0.out hb)
  have BO1 := Lib.hid (blk_below BO0.out hb)
  clear hb hfr hr hsz
  have za1_0 := blk_cell BA1.out 0
  have za1_1 := blk_cell BA1.out 1
  have zo1_0 := blk_cell BO1.out 0
  have zo1_f0 := blk_frozen BO1.out 0
  have zo1_1 := blk_cell BO1.out 1
  have zo1_f1 := blk_frozen BO1.out 1
  have zr1_0 := blk_cell BR1.out 0
  have zr1_f0 := blk_frozen BR1.out 0
  have zr1_1 := blk_cell BR1.out 1
  have zr1_f1 := blk_frozen BR1.out 1
  simp at za1_0 za1_1 zo1_0 zo1_f0 zo1_1 zo1_f1 zr1_0 zr1_f0 zr1_1 zr1_f1
  have HB1 := Lib.hid (HB1.out.setCell (p := ⟨w.heap.size + 2, 1, none⟩) (by simp) (.slice BLimbs xLimbs.length dLimbs))
  have BA1 := Lib.hid (blk_far BA1.out (p := ⟨w.heap.size + 2, 1, none⟩) (by simp) (.slice BLimbs xLimbs.length dLimbs))
  have BR1 := Lib.hid (blk_far BR1.out (p := ⟨w.heap.size + 2, 1, none⟩) (by simp) (.slice BLimbs xLimbs.length dLimbs))
  have BO1 := Lib.hid ((blk_set BO1.out 1 (.slice BLimbs xLimbs.length dLimbs)).trans (show _ = some (Obj.cells #[.bool bMinus, .slice BLimbs xLimbs.length dLimbs] 32 (0, 0)) from rfl))
  have FRLimbs := Lib.hid (FRLimbs.out.set (p := ⟨w.heap.size + 2, 1, none⟩) (by simp) (.slice BLimbs xLimbs.length dLimbs))
  go_wp2
  have HB1 := Lib.hid ((HB1.out.setCell (p := ⟨w.heap.size + 1, 0, none⟩) (by simp) (.bool bMinus)).setCell (p := ⟨w.heap.size + 1, 1, none⟩) (by simp) (.slice BLimbs xLimbs.length dLimbs))
  have FRLimbs := Lib.hid ((FRLimbs.out.set (p := ⟨w.heap.size + 1, 0, none⟩) (by simp) (.bool bMinus)).set (p := ⟨w.heap.size + 1, 1, none⟩) (by simp) (.slice BLimbs xLimbs.length dLimbs))
  refine bodyPost_ret (v := .agg #[.bool bMinus, .slice BLimbs xLimbs.length dLimbs]) (by simp [results, Try.results59, go_sem, zr1_0, zr1_1]) rfl ⟨[.bool bMinus, .slice BLimbs xLimbs.length dLimbs], rfl, ?_, HB1.out⟩
  rw [fr_struct]
  have sy1 := SY1.out
  exact FrFR.fr (B := w.heap.size + 3) (frFR_bool (frFR_cons (B2 := w1.heap.size) (C := w1.heap.size) FRLimbs.out (frFR_nil w1.heap.size w1.heap.size _) (Nat.le_refl _) (by omega) (by omega))) (by omega)

end Go.Proofs.Ythidbmjdphfddaa
