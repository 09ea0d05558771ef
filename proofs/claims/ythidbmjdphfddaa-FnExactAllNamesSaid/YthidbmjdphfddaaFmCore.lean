/- What the laws' helpers that mark and look for marks do with []string,[]Core,[]CoreAlt,Core; no condition. -/
import Derived.Test.YthidbmjdphfddaaMkT
import Derived.Test.YthidbmjdphfddaaHf
import Derived.Test.YthidbmjdphfddaaFmU32
import Derived.Test.YthidbmjdphfddaaProg
import Derived.Deep.RegionHeld3
namespace Go.Proofs.Ythidbmjdphfddaa
open Go.RowKit
set_option linter.unusedVariables false
set_option linter.unusedSimpArgs false

theorem modB {z : Int} {k : Nat} (h : z = (k : Int)) : (z % 3 == 0) = (k % 3 == 0) := by
  subst h
  rw [Bool.eq_iff_iff, beq_iff_eq, beq_iff_eq]
  omega
theorem n_StringS {xs : List D} (ih : ∀ x ∈ xs, ∃ (sX : ByteArray), x = (.str sX : D)) : ∀ x ∈ xs, x.n = 1 := fun x hx => by
  obtain ⟨sX, rfl⟩ := ih x hx
  rfl
theorem n'_StringS {xs : List D} (ih : ∀ x ∈ xs, ∃ (sX : ByteArray), x = (.str sX : D)) : ∀ x ∈ xs, x.n = 1 := fun x hx => by
  obtain ⟨sX, rfl⟩ := ih x hx
  rfl
set_option maxRecDepth 100000 in
set_option maxHeartbeats 2000000 in
theorem markStringS_of (xs : List D) (hn : xs.length ≤ 140737488351232) (ih : ∀ x ∈ xs, ∃ (sX : ByteArray), x = (.str sX : D)) : MkO Try.prog 17 (.slice 1 xs) := by
  intro w v fp k h hnd hl hk
  simp only [D.K] at h
  obtain ⟨A, c, he, h2, h3, h4⟩ := h
  obtain rfl : v = .slice A xs.length c := by simpa using he
  simp only [D.tcnt] at hk ⊢
  have hsz := n_StringS ih
  rcases h4 with ⟨rfl, rfl⟩ | ⟨b, off, f, rfl, h6, rfl, h8⟩
  · clear he hsz ih
    go_enter Try.func17, Try.ntmps17
    go_wp2_with fail
    go_loop [1, 5] (fun q i => i = .int .i64 0 ∧ q = .int .i64 k) (fun _ _ => 0)
    case atStart => exact ⟨rfl, rfl⟩
    case round =>
      obtain ⟨rfl, rfl⟩ := hrel
      go_wp2_with fail
      go_ret
      exact ⟨by first | rfl | exact ret_int (by simp [D.cnts]), by simp only [D.top, D.marks, D.K]; exact ⟨A, c, rfl, h2, h3, .inl ⟨True.intro, True.intro⟩⟩, TouchF.refl _ _⟩
  · rw [D.Row_flats hsz] at h8
    have IH := Lib.hid ih
    have HSZ := Lib.hid hsz
    have HL := Lib.hid hl
    have HN := Lib.hid hnd
    have H8 := Lib.hid h8
    have H2 := Lib.hid h2
    have H3 := Lib.hid h3
    have HB := Lib.hid (List.nodup_cons.1 hnd).1
    clear he ih hl hnd h8 h2 h3 hsz
    go_enter Try.func17, Try.ntmps17
    go_wp2_with fail
    go_loopw [1, 5] (fun q i wr => ∃ j n : Nat, j ≤ xs.length ∧ i = .int .i64 j ∧ q = .int .i64 n ∧ n ≤ 1125899906842624 ∧ Hid (n = k + D.cnts (xs.take j)) ∧ Hid (D.Row wr b off 1 (D.flats (D.marks (xs.take j) k) ++ D.flats (xs.drop j)) f ∧ TouchF (b :: f) w wr)) (fun _ i _ => xs.length - (intOf i).toNat)
    case atStart => exact ⟨0, k, Nat.zero_le _, rfl, rfl, by omega, Lib.hid (by simp [D.cnts]), Lib.hid ⟨by simpa [D.marks, D.flats] using H8.out, TouchF.refl _ _⟩⟩
    case round =>
      obtain ⟨j, n, hj, rfl, rfl, hnb, hnn, hrel⟩ := hrel
      obtain ⟨row0, ht⟩ := hrel.out
      have NN := Lib.hid hnn.out
      clear hrel hnn
      by_cases hlt : j < xs.length
      · obtain ⟨sX, hx⟩ := IH.out _ (List.getElem_mem hlt)
        have hlen := marks_len HSZ.out k j hj
        rw [marks_at hlt, hx] at row0
        have hct := cnt_take hlt
        have hcl := cnts_take_le xs (j + 1)
        have hmn := marks_next hlt k
        rw [hx] at hct hmn
        have nb := NN.out
        rw [← nb] at hmn
        have CT : Hid (n + (.str sX : D).cnt = k + D.cnts (xs.take (j + 1))) := by show _ = _; omega
        have CB : Hid (k + D.cnts (xs.take (j + 1)) ≤ 1125899906842624) := by show _ ≤ _; omega
        have MN := Lib.hid hmn
        generalize hM : D.flats (D.marks (xs.take j) k) = M at row0 hlen
        generalize hR : D.flats (xs.drop (j + 1)) = R at row0
        have HLEN := Lib.hid hlen
        have HM := Lib.hid hM
        have HR := Lib.hid hR
        simp only [D.flat, D.flats, List.cons_append, List.nil_append, List.append_assoc] at row0
        have T0 := Lib.hid ht
        have cb := CB.out
        have ct := CT.out
        simp only [D.cnt, D.cnts, Nat.add_zero] at ct
        have ROW0 := Lib.hid row0
        clear hlen hct hcl hmn nb ht hM hR hx
        go_wp2_with (first
          | (go_at_call 72; (with_reducible refine (markText_at _ (n) (by omega) (by omega) _).mono ?_); rintro e y0 ⟨rfl, hb⟩; have ROW1 := Lib.hid (row_below ROW0.out hb); have T1 := Lib.hid (T0.out.trans (TouchF.of_below hb)); clear hb)
          | (refine wpl_leaf_str rfl _ _ _ rfl (b := b) (off := off) (fp := f) (rs := (R)) (m := sX) (ms := (M ++ [])) (p := off + j) rfl rfl (by kernel_rfl) (by have h_ := HLEN.out; simp only [List.length_append, List.length_cons, List.length_nil]; omega) (row := (by simpa using ROW1.out)) HB.out (Row_live T1.out (HL.out b (by simp))) ?_; intro x0 row ht; have ROW2 := Lib.hid row; have T2 := Lib.hid (T1.out.trans ht); clear ROW1; clear row ht))
        go_roundw
        case rel =>
          refine ⟨j + 1, n + 1, by omega, by go_num, by go_num, by omega, Lib.hid (by have h_ := CT.out; simp only [D.cnt, D.cnts, Nat.add_zero] at h_; omega), Lib.hid ⟨?_, T2.out⟩⟩
          rw [← MN_eq MN.out HM.out HR.out]
          have hr := ROW2.out
          simpa [D.mark, D.marks, D.flat, D.flats, D.top, D.cnt, D.cnts, Nat.add_assoc] using hr
        case measure => simp [intOf]; omega
      · obtain rfl : j = xs.length := by omega
        rw [List.drop_length, D.flats, List.append_nil, List.take_length] at row0
        have ROW := Lib.hid ((D.Row_flats (D.marks_mem_n HSZ.out k)).2 row0)
        have HT := Lib.hid ht
        have nb := NN.out
        rw [List.take_length] at nb
        have NB := Lib.hid nb
        clear row0 ht nb
        go_wp2_with fail
        go_ret
        exact ⟨ret_int (by have := NB.out; omega), by simp only [D.top, D.K]; exact ⟨_, c, by rw [D.marks_length], by rw [D.marks_length]; exact H2.out, H3.out, .inr ⟨b, off, f, rfl, Nat.lt_of_lt_of_le h6 HT.out.size, rfl, ROW.out⟩⟩, HT.out⟩
set_option maxRecDepth 100000 in
set_option maxHeartbeats 2000000 in
theorem heldStringS_of (xs : List D) (hn : xs.length ≤ 140737488351232) (ih : ∀ x ∈ xs, ∃ (sX : ByteArray), x = (.str sX : D)) : HdO Try.prog 18 (.slice 1 xs) := by
  intro w v k h hk
  simp only [D.top] at h
  obtain ⟨A, c, rfl, _, _, hrow⟩ := rd_slice1 h
  simp only [D.tcnt] at hk ⊢
  rw [D.marks_length]
  have IH := Lib.hid ih
  have H := Lib.hid hrow
  clear ih h hrow
  go_enter Try.func18, Try.ntmps18
  go_wp2_with fail
  go_loopw [1, 5] (fun q i wr => ∃ j n : Nat, j ≤ xs.length ∧ i = .int .i64 j ∧ q = .int .i64 n ∧ n ≤ 1125899906842624 ∧ Hid (n = k + D.cnts (xs.take j)) ∧ Hid (Below w.heap.size w wr)) (fun _ i _ => xs.length - (intOf i).toNat)
  case atStart => exact ⟨0, k, Nat.zero_le _, rfl, rfl, by omega, Lib.hid (by simp [D.cnts]), Lib.hid (Below.refl _ _)⟩
  case round =>
    obtain ⟨j, n, hj, rfl, rfl, hnb, hnn, hrel⟩ := hrel
    have HB := Lib.hid hrel.out
    have NN := Lib.hid hnn.out
    clear hrel hnn
    by_cases hlt : j < xs.length
    · obtain ⟨sX, hx⟩ := IH.out _ (List.getElem_mem hlt)
      have hget := marks_get hlt k
      have hct := cnt_take hlt
      have hcl := cnts_take_le xs (j + 1)
      have nb := NN.out
      rw [← nb, hx] at hget
      rw [hx] at hct
      have ct : n + (.str sX : D).cnt = k + D.cnts (xs.take (j + 1)) := by omega
      have CB : Hid (k + D.cnts (xs.take (j + 1)) ≤ 1125899906842624) := by show _ ≤ _; omega
      have CT := Lib.hid ct
      have cb := CB.out
      simp only [D.cnt, D.cnts, Nat.add_zero] at ct
      obtain ⟨b, off, cs, rfl, hcl2, hrd0, hc⟩ := (RdRow.below H.out (by omega) HB.out).get hget
      have hrd : RdF wr [.str (markT (n))] cs := by
        have h1 := rd_flat.1 hrd0
        simpa [D.mark, D.marks, D.flat, D.flats, D.top, D.cnt, D.cnts, Nat.add_assoc, Nat.add_comm, Nat.add_left_comm] using h1
      simp only [rdF_cons, rdF_nil, rd_int, rd_bool, rd_str] at hrd
      obtain ⟨q0, s0, rfl, rfl, rfl⟩ := hrd
      have C0 : Hid (∀ w', Below wr.heap.size wr w' → w'.cell? ⟨b, off + j, none⟩ = some (.string (markT (n)))) := fun w' hb => (fun h0 : wr.cell? ⟨b, off + j, none⟩ = some (.string (markT (n))) => (hb.cell (World.block_lt_of_cell? wr _ h0)).trans h0) (by simpa using hc 0 _ rfl)
      have W0 := Lib.hid (Below.refl wr.heap.size wr)
      clear hct hcl nb hx hget hrd0 hcl2 hc
      have z0 : World.cell? _ ⟨b, off + j, none⟩ = some (.string (markT (n))) := (C0.out _ W0.out).trans (congrArg (fun q => some (Value.string (markT q))) (by omega))
      go_wp2_with fail
      go_region_held3 (fun w' => w'.cell? ⟨b, off + j, none⟩ = some (.string (markT (n))))
        (first | exact z0 | exact (C0.out _ W1.out).trans (congrArg (fun q => some (Value.string (markT q))) (by omega)))
        (first
          | (go_at_call 72; (with_reducible refine (markText_at _ (n) (by omega) (by omega) _).mono ?_); rintro e y0 ⟨rfl, hb⟩; have W1 := Lib.hid (W0.out.drew.trans (hb.mono W0.out.drew.size)); clear hb))
      clear z0
      go_wp2_with fail
      go_roundw
      case rel =>
        exact ⟨j + 1, n + 1, by omega, by go_num, by go_num, by omega, Lib.hid (by have h_ := CT.out; simp only [D.cnt, D.cnts, Nat.add_zero] at h_; omega), Lib.hid (HB.out.trans (W1.out.mono HB.out.size))⟩
      case measure => simp [intOf]; omega
    · obtain rfl : j = xs.length := by omega
      have nb := NN.out
      rw [List.take_length] at nb
      have NB := Lib.hid nb
      clear nb
      go_wp2_with fail
      go_ret
      exact ⟨ret_int (by have := NB.out; omega), HB.out⟩

theorem n_CoreS {xs : List D} (ih : ∀ x ∈ xs, ∃ (iKind : Int) (sName : ByteArray) (bBigMinus : Bool) (xBigLimbs : List D) (xNames : List D) (xKids : List D) (xAlts : List D), x = (.struct [.int .i64 iKind, .str sName, .struct [.bool bBigMinus, .slice 1 xBigLimbs], .slice 1 xNames, .slice 7 xKids, .slice 9 xAlts] : D) ∧ MkO Try.prog 127 (D.slice 1 xBigLimbs) ∧ MkO Try.prog 17 (D.slice 1 xNames) ∧ MkO Try.prog 70 (D.slice 7 xKids) ∧ MkO Try.prog 71 (D.slice 9 xAlts)) : ∀ x ∈ xs, x.n = 7 := fun x hx => by
  obtain ⟨iKind, sName, bBigMinus, xBigLimbs, xNames, xKids, xAlts, rfl, _, _, _, _⟩ := ih x hx
  rfl
set_option maxRecDepth 100000 in
set_option maxHeartbeats 2000000 in
theorem markCoreS_of (xs : List D) (hn : xs.length ≤ 140737488351232) (ih : ∀ x ∈ xs, ∃ (iKind : Int) (sName : ByteArray) (bBigMinus : Bool) (xBigLimbs : List D) (xNames : List D) (xKids : List D) (xAlts : List D), x = (.struct [.int .i64 iKind, .str sName, .struct [.bool bBigMinus, .slice 1 xBigLimbs], .slice 1 xNames, .slice 7 xKids, .slice 9 xAlts] : D) ∧ MkO Try.prog 127 (D.slice 1 xBigLimbs) ∧ MkO Try.prog 17 (D.slice 1 xNames) ∧ MkO Try.prog 70 (D.slice 7 xKids) ∧ MkO Try.prog 71 (D.slice 9 xAlts)) : MkO Try.prog 70 (.slice 7 xs) := by
  intro w v fp k h hnd hl hk
  simp only [D.K] at h
  obtain ⟨A, c, he, h2, h3, h4⟩ := h
  obtain rfl : v = .slice A xs.length c := by simpa using he
  simp only [D.tcnt] at hk ⊢
  have hsz := n_CoreS ih
  rcases h4 with ⟨rfl, rfl⟩ | ⟨b, off, f, rfl, h6, rfl, h8⟩
  · clear he hsz ih
    go_enter Try.func70, Try.ntmps70
    go_wp2_with fail
    go_loop [1, 5] (fun q i => i = .int .i64 0 ∧ q = .int .i64 k) (fun _ _ => 0)
    case atStart => exact ⟨rfl, rfl⟩
    case round =>
      obtain ⟨rfl, rfl⟩ := hrel
      go_wp2_with fail
      go_ret
      exact ⟨by first | rfl | exact ret_int (by simp [D.cnts]), by simp only [D.top, D.marks, D.K]; exact ⟨A, c, rfl, h2, h3, .inl ⟨True.intro, True.intro⟩⟩, TouchF.refl _ _⟩
  · rw [D.Row_flats hsz] at h8
    have IH := Lib.hid ih
    have HSZ := Lib.hid hsz
    have HL := Lib.hid hl
    have HN := Lib.hid hnd
    have H8 := Lib.hid h8
    have H2 := Lib.hid h2
    have H3 := Lib.hid h3
    have HB := Lib.hid (List.nodup_cons.1 hnd).1
    clear he ih hl hnd h8 h2 h3 hsz
    go_enter Try.func70, Try.ntmps70
    go_wp2_with fail
    go_loopw [1, 5] (fun q i wr => ∃ j n : Nat, j ≤ xs.length ∧ i = .int .i64 j ∧ q = .int .i64 n ∧ n ≤ 1125899906842624 ∧ Hid (n = k + D.cnts (xs.take j)) ∧ Hid (D.Row wr b off 1 (D.flats (D.marks (xs.take j) k) ++ D.flats (xs.drop j)) f ∧ TouchF (b :: f) w wr)) (fun _ i _ => xs.length - (intOf i).toNat)
    case atStart => exact ⟨0, k, Nat.zero_le _, rfl, rfl, by omega, Lib.hid (by simp [D.cnts]), Lib.hid ⟨by simpa [D.marks, D.flats] using H8.out, TouchF.refl _ _⟩⟩
    case round =>
      obtain ⟨j, n, hj, rfl, rfl, hnb, hnn, hrel⟩ := hrel
      obtain ⟨row0, ht⟩ := hrel.out
      have NN := Lib.hid hnn.out
      clear hrel hnn
      by_cases hlt : j < xs.length
      · obtain ⟨iKind, sName, bBigMinus, xBigLimbs, xNames, xKids, xAlts, hx, m0, m1, m2, m3⟩ := IH.out _ (List.getElem_mem hlt)
        have hlen := marks_len HSZ.out k j hj
        rw [marks_at hlt, hx] at row0
        have hct := cnt_take hlt
        have hcl := cnts_take_le xs (j + 1)
        have hmn := marks_next hlt k
        rw [hx] at hct hmn
        have nb := NN.out
        rw [← nb] at hmn
        have CT : Hid (n + (.struct [.int .i64 iKind, .str sName, .struct [.bool bBigMinus, .slice 1 xBigLimbs], .slice 1 xNames, .slice 7 xKids, .slice 9 xAlts] : D).cnt = k + D.cnts (xs.take (j + 1))) := by show _ = _; omega
        have CB : Hid (k + D.cnts (xs.take (j + 1)) ≤ 1125899906842624) := by show _ ≤ _; omega
        have MN := Lib.hid hmn
        generalize hM : D.flats (D.marks (xs.take j) k) = M at row0 hlen
        generalize hR : D.flats (xs.drop (j + 1)) = R at row0
        have HLEN := Lib.hid hlen
        have HM := Lib.hid hM
        have HR := Lib.hid hR
        simp only [D.flat, D.flats, List.cons_append, List.nil_append, List.append_assoc] at row0
        have T0 := Lib.hid ht
        have cb := CB.out
        have ct := CT.out
        simp only [D.cnt, D.cnts, Nat.add_zero] at ct
        have ROW0 := Lib.hid row0
        clear hlen hct hcl hmn nb ht hM hR hx
        go_wp2_with (first
          | (refine wpl_leaf_int rfl _ _ _ rfl (b := b) (off := off) (fp := f) (rs := ((D.str sName) :: (D.bool bBigMinus) :: (D.slice 1 xBigLimbs) :: (D.slice 1 xNames) :: (D.slice 7 xKids) :: (D.slice 9 xAlts) :: R)) (m := iKind) (ms := (M ++ [])) (p := off + j * 7) rfl rfl (by kernel_rfl) (by have h_ := HLEN.out; simp only [List.length_append, List.length_cons, List.length_nil]; omega) (row := (by simpa using ROW0.out)) HB.out (Row_live T0.out (HL.out b (by simp))) ?_; intro x0 row ht; have ROW1 := Lib.hid row; have T1 := Lib.hid (T0.out.trans ht); clear ROW0; clear row ht)
          | (go_at_call 72; (with_reducible refine (markText_at _ (n + 1) (by omega) (by omega) _).mono ?_); rintro e y1 ⟨rfl, hb⟩; have ROW2 := Lib.hid (row_below ROW1.out hb); have T2 := Lib.hid (T1.out.trans (TouchF.of_below hb)); clear hb)
          | (refine wpl_leaf_str rfl _ _ _ rfl (b := b) (off := off) (fp := f) (rs := ((D.bool bBigMinus) :: (D.slice 1 xBigLimbs) :: (D.slice 1 xNames) :: (D.slice 7 xKids) :: (D.slice 9 xAlts) :: R)) (m := sName) (ms := (M ++ [(.int .i64 ((n : Int)))])) (p := off + j * 7 + 1) rfl rfl (by kernel_rfl) (by have h_ := HLEN.out; simp only [List.length_append, List.length_cons, List.length_nil]; omega) (row := (by simpa using ROW2.out)) HB.out (Row_live T2.out (HL.out b (by simp))) ?_; intro x1 row ht; have ROW3 := Lib.hid row; have T3 := Lib.hid (T2.out.trans ht); clear ROW2; clear row ht)
          | (refine wpl_leaf_bool rfl _ _ _ rfl (b := b) (off := off) (fp := f) (rs := ((D.slice 1 xBigLimbs) :: (D.slice 1 xNames) :: (D.slice 7 xKids) :: (D.slice 9 xAlts) :: R)) (m := bBigMinus) (ms := (M ++ [(.int .i64 ((n : Int))), (.str (markT (n + 1)))])) (p := off + j * 7 + 2) rfl rfl (by kernel_rfl) (by have h_ := HLEN.out; simp only [List.length_append, List.length_cons, List.length_nil]; omega) (row := (by simpa using ROW3.out)) HB.out (Row_live T3.out (HL.out b (by simp))) ?_; intro x2 row ht; rw [modB (show (n : Int) + 1 + 1 = ((n + 2 : Nat) : Int) by omega)] at row; have ROW4 := Lib.hid row; have T4 := Lib.hid (T3.out.trans ht); clear ROW3; clear row ht; obtain ⟨A3, c3, z3⟩ := row_slice (b := b) (off := off) (fp := f) (xs := xBigLimbs) (sz := 1) (rs := ((D.slice 1 xNames) :: (D.slice 7 xKids) :: (D.slice 9 xAlts) :: R)) (ms := (M ++ [(.int .i64 ((n : Int))), (.str (markT (n + 1))), (.bool ((n + 2) % 3 == 0))])) (by simpa using ROW4.out) (p := off + j * 7 + 3) (by have h_ := HLEN.out; simp only [List.length_append, List.length_cons, List.length_nil]; omega))
          | (go_at_call 127; obtain ⟨f2, hk2, hnd2, hsub2, put2⟩ := D.Row_call' (a := (D.slice 1 xBigLimbs)) (b := b) (off := off) (fp := f) (rs := ((D.slice 1 xNames) :: (D.slice 7 xKids) :: (D.slice 9 xAlts) :: R)) (ms := (M ++ [(.int .i64 ((n : Int))), (.str (markT (n + 1))), (.bool ((n + 2) % 3 == 0))])) (by simpa using ROW4.out) HN.out (p := off + j * 7 + 3) (by have h_ := HLEN.out; simp only [List.length_append, List.length_cons, List.length_nil]; omega) z3; (with_reducible refine (m0.atz _ (n + 3) (by omega) hk2 hnd2 (fun q hq => T4.out.live q (by simp [hsub2 q hq]) (HL.out q (by simp [hsub2 q hq]))) (by simp only [D.tcnt]; omega)).mono ?_); rintro e y3 ⟨n1, hn1, rfl, hk3, ht3⟩; simp only [D.tcnt] at hn1; have row := put2 _ _ hk3 ht3; have ht := ht3.mono (fun q hq => List.mem_cons_of_mem b (hsub2 q hq)); have ROW5 := Lib.hid row; have T5 := Lib.hid (T4.out.trans ht); clear ROW4; have N1 := Lib.hid hn1; have nb1 : n1 + 0 + D.cnts xNames + D.cnts xKids + D.cnts xAlts ≤ 1125899906842624 := (by omega); clear row ht hk2 hnd2 hsub2 put2 hk3 ht3 hn1; obtain ⟨A4, c4, z4⟩ := row_slice (b := b) (off := off) (fp := f) (xs := xNames) (sz := 1) (rs := ((D.slice 7 xKids) :: (D.slice 9 xAlts) :: R)) (ms := (M ++ [(.int .i64 ((n : Int))), (.str (markT (n + 1))), (.bool ((n + 2) % 3 == 0)), ((D.slice 1 xBigLimbs : D).top (n + 3))])) (by simpa using ROW5.out) (p := off + j * 7 + 4) (by have h_ := HLEN.out; simp only [List.length_append, List.length_cons, List.length_nil]; omega))
          | (go_at_call 17; obtain ⟨f2, hk2, hnd2, hsub2, put2⟩ := D.Row_call' (a := (D.slice 1 xNames)) (b := b) (off := off) (fp := f) (rs := ((D.slice 7 xKids) :: (D.slice 9 xAlts) :: R)) (ms := (M ++ [(.int .i64 ((n : Int))), (.str (markT (n + 1))), (.bool ((n + 2) % 3 == 0)), ((D.slice 1 xBigLimbs : D).top (n + 3))])) (by simpa using ROW5.out) HN.out (p := off + j * 7 + 4) (by have h_ := HLEN.out; simp only [List.length_append, List.length_cons, List.length_nil]; omega) z4; (with_reducible refine (m1.atz _ (n1) (by omega) hk2 hnd2 (fun q hq => T5.out.live q (by simp [hsub2 q hq]) (HL.out q (by simp [hsub2 q hq]))) (by simp only [D.tcnt]; omega)).mono ?_); rintro e y4 ⟨n2, hn2, rfl, hk3, ht3⟩; simp only [D.tcnt] at hn2; have row := put2 _ _ hk3 ht3; have ht := ht3.mono (fun q hq => List.mem_cons_of_mem b (hsub2 q hq)); have ROW6 := Lib.hid row; have T6 := Lib.hid (T5.out.trans ht); clear ROW5; have N2 := Lib.hid hn2; have nb2 : n2 + 0 + D.cnts xKids + D.cnts xAlts ≤ 1125899906842624 := (by omega); clear row ht hk2 hnd2 hsub2 put2 hk3 ht3 hn2; obtain ⟨A5, c5, z5⟩ := row_slice (b := b) (off := off) (fp := f) (xs := xKids) (sz := 7) (rs := ((D.slice 9 xAlts) :: R)) (ms := (M ++ [(.int .i64 ((n : Int))), (.str (markT (n + 1))), (.bool ((n + 2) % 3 == 0)), ((D.slice 1 xBigLimbs : D).top (n + 3)), ((D.slice 1 xNames : D).top (n1))])) (by simpa using ROW6.out) (p := off + j * 7 + 5) (by have h_ := HLEN.out; simp only [List.length_append, List.length_cons, List.length_nil]; omega))
          | (go_at_call 70; obtain ⟨f2, hk2, hnd2, hsub2, put2⟩ := D.Row_call' (a := (D.slice 7 xKids)) (b := b) (off := off) (fp := f) (rs := ((D.slice 9 xAlts) :: R)) (ms := (M ++ [(.int .i64 ((n : Int))), (.str (markT (n + 1))), (.bool ((n + 2) % 3 == 0)), ((D.slice 1 xBigLimbs : D).top (n + 3)), ((D.slice 1 xNames : D).top (n1))])) (by simpa using ROW6.out) HN.out (p := off + j * 7 + 5) (by have h_ := HLEN.out; simp only [List.length_append, List.length_cons, List.length_nil]; omega) z5; (with_reducible refine (m2.atz _ (n2) (by omega) hk2 hnd2 (fun q hq => T6.out.live q (by simp [hsub2 q hq]) (HL.out q (by simp [hsub2 q hq]))) (by simp only [D.tcnt]; omega)).mono ?_); rintro e y5 ⟨n3, hn3, rfl, hk3, ht3⟩; simp only [D.tcnt] at hn3; have row := put2 _ _ hk3 ht3; have ht := ht3.mono (fun q hq => List.mem_cons_of_mem b (hsub2 q hq)); have ROW7 := Lib.hid row; have T7 := Lib.hid (T6.out.trans ht); clear ROW6; have N3 := Lib.hid hn3; have nb3 : n3 + 0 + D.cnts xAlts ≤ 1125899906842624 := (by omega); clear row ht hk2 hnd2 hsub2 put2 hk3 ht3 hn3; obtain ⟨A6, c6, z6⟩ := row_slice (b := b) (off := off) (fp := f) (xs := xAlts) (sz := 9) (rs := (R)) (ms := (M ++ [(.int .i64 ((n : Int))), (.str (markT (n + 1))), (.bool ((n + 2) % 3 == 0)), ((D.slice 1 xBigLimbs : D).top (n + 3)), ((D.slice 1 xNames : D).top (n1)), ((D.slice 7 xKids : D).top (n2))])) (by simpa using ROW7.out) (p := off + j * 7 + 6) (by have h_ := HLEN.out; simp only [List.length_append, List.length_cons, List.length_nil]; omega))
          | (go_at_call 71; obtain ⟨f2, hk2, hnd2, hsub2, put2⟩ := D.Row_call' (a := (D.slice 9 xAlts)) (b := b) (off := off) (fp := f) (rs := (R)) (ms := (M ++ [(.int .i64 ((n : Int))), (.str (markT (n + 1))), (.bool ((n + 2) % 3 == 0)), ((D.slice 1 xBigLimbs : D).top (n + 3)), ((D.slice 1 xNames : D).top (n1)), ((D.slice 7 xKids : D).top (n2))])) (by simpa using ROW7.out) HN.out (p := off + j * 7 + 6) (by have h_ := HLEN.out; simp only [List.length_append, List.length_cons, List.length_nil]; omega) z6; (with_reducible refine (m3.atz _ (n3) (by omega) hk2 hnd2 (fun q hq => T7.out.live q (by simp [hsub2 q hq]) (HL.out q (by simp [hsub2 q hq]))) (by simp only [D.tcnt]; omega)).mono ?_); rintro e y6 ⟨n4, hn4, rfl, hk3, ht3⟩; simp only [D.tcnt] at hn4; have row := put2 _ _ hk3 ht3; have ht := ht3.mono (fun q hq => List.mem_cons_of_mem b (hsub2 q hq)); have ROW8 := Lib.hid row; have T8 := Lib.hid (T7.out.trans ht); clear ROW7; have N4 := Lib.hid hn4; have nb4 : n4 + 0 ≤ 1125899906842624 := (by omega); clear row ht hk2 hnd2 hsub2 put2 hk3 ht3 hn4))
        go_roundw
        case rel =>
          have e1 := N1.out; have e2 := N2.out; have e3 := N3.out; have e4 := N4.out; refine ⟨j + 1, n4, by omega, by go_num, by go_num, by omega, Lib.hid (by have h_ := CT.out; simp only [D.cnt, D.cnts, Nat.add_zero] at h_; omega), Lib.hid ⟨?_, T8.out⟩⟩
          rw [← MN_eq MN.out HM.out HR.out]
          have hr := ROW8.out
          have v0 : IntKind.i64.wrap ((n : Int)) = (n : Int) := i64_p _ (by omega) (by omega)
          subst e1
          subst e2
          subst e3
          subst e4
          refine Eq.mp (congrArg (fun L => D.Row _ b off 1 L f) ?_) hr
          simp (disch := omega) [D.mark, D.marks, D.flat, D.flats, D.top, D.cnt, D.cnts, i64_p]
          repeat' (first | (apply And.intro) | omega | exact congrArg markT (by omega) | exact congrArg (D.marks _) (by omega))
        case measure => simp [intOf]; omega
      · obtain rfl : j = xs.length := by omega
        rw [List.drop_length, D.flats, List.append_nil, List.take_length] at row0
        have ROW := Lib.hid ((D.Row_flats (D.marks_mem_n HSZ.out k)).2 row0)
        have HT := Lib.hid ht
        have nb := NN.out
        rw [List.take_length] at nb
        have NB := Lib.hid nb
        clear row0 ht nb
        go_wp2_with fail
        go_ret
        exact ⟨ret_int (by have := NB.out; omega), by simp only [D.top, D.K]; exact ⟨_, c, by rw [D.marks_length], by rw [D.marks_length]; exact H2.out, H3.out, .inr ⟨b, off, f, rfl, Nat.lt_of_lt_of_le h6 HT.out.size, rfl, ROW.out⟩⟩, HT.out⟩
theorem n_CoreAltS {xs : List D} (ih : ∀ x ∈ xs, ∃ (sCon : ByteArray) (xNames : List D) (iBodyKind : Int) (sBodyName : ByteArray) (bBodyBigMinus : Bool) (xBodyBigLimbs : List D) (xBodyNames : List D) (xBodyKids : List D) (xBodyAlts : List D), x = (.struct [.str sCon, .slice 1 xNames, .struct [.int .i64 iBodyKind, .str sBodyName, .struct [.bool bBodyBigMinus, .slice 1 xBodyBigLimbs], .slice 1 xBodyNames, .slice 7 xBodyKids, .slice 9 xBodyAlts]] : D) ∧ MkO Try.prog 17 (D.slice 1 xNames) ∧ MkO Try.prog 127 (D.slice 1 xBodyBigLimbs) ∧ MkO Try.prog 17 (D.slice 1 xBodyNames) ∧ MkO Try.prog 70 (D.slice 7 xBodyKids) ∧ MkO Try.prog 71 (D.slice 9 xBodyAlts)) : ∀ x ∈ xs, x.n = 9 := fun x hx => by
  obtain ⟨sCon, xNames, iBodyKind, sBodyName, bBodyBigMinus, xBodyBigLimbs, xBodyNames, xBodyKids, xBodyAlts, rfl, _, _, _, _, _⟩ := ih x hx
  rfl
set_option maxRecDepth 100000 in
set_option maxHeartbeats 2000000 in
theorem markCoreAltS_of (xs : List D) (hn : xs.length ≤ 140737488351232) (ih : ∀ x ∈ xs, ∃ (sCon : ByteArray) (xNames : List D) (iBodyKind : Int) (sBodyName : ByteArray) (bBodyBigMinus : Bool) (xBodyBigLimbs : List D) (xBodyNames : List D) (xBodyKids : List D) (xBodyAlts : List D), x = (.struct [.str sCon, .slice 1 xNames, .struct [.int .i64 iBodyKind, .str sBodyName, .struct [.bool bBodyBigMinus, .slice 1 xBodyBigLimbs], .slice 1 xBodyNames, .slice 7 xBodyKids, .slice 9 xBodyAlts]] : D) ∧ MkO Try.prog 17 (D.slice 1 xNames) ∧ MkO Try.prog 127 (D.slice 1 xBodyBigLimbs) ∧ MkO Try.prog 17 (D.slice 1 xBodyNames) ∧ MkO Try.prog 70 (D.slice 7 xBodyKids) ∧ MkO Try.prog 71 (D.slice 9 xBodyAlts)) : MkO Try.prog 71 (.slice 9 xs) := by
  intro w v fp k h hnd hl hk
  simp only [D.K] at h
  obtain ⟨A, c, he, h2, h3, h4⟩ := h
  obtain rfl : v = .slice A xs.length c := by simpa using he
  simp only [D.tcnt] at hk ⊢
  have hsz := n_CoreAltS ih
  rcases h4 with ⟨rfl, rfl⟩ | ⟨b, off, f, rfl, h6, rfl, h8⟩
  · clear he hsz ih
    go_enter Try.func71, Try.ntmps71
    go_wp2_with fail
    go_loop [1, 5] (fun q i => i = .int .i64 0 ∧ q = .int .i64 k) (fun _ _ => 0)
    case atStart => exact ⟨rfl, rfl⟩
    case round =>
      obtain ⟨rfl, rfl⟩ := hrel
      go_wp2_with fail
      go_ret
      exact ⟨by first | rfl | exact ret_int (by simp [D.cnts]), by simp only [D.top, D.marks, D.K]; exact ⟨A, c, rfl, h2, h3, .inl ⟨True.intro, True.intro⟩⟩, TouchF.refl _ _⟩
  · rw [D.Row_flats hsz] at h8
    have IH := Lib.hid ih
    have HSZ := Lib.hid hsz
    have HL := Lib.hid hl
    have HN := Lib.hid hnd
    have H8 := Lib.hid h8
    have H2 := Lib.hid h2
    have H3 := Lib.hid h3
    have HB := Lib.hid (List.nodup_cons.1 hnd).1
    clear he ih hl hnd h8 h2 h3 hsz
    go_enter Try.func71, Try.ntmps71
    go_wp2_with fail
    go_loopw [1, 5] (fun q i wr => ∃ j n : Nat, j ≤ xs.length ∧ i = .int .i64 j ∧ q = .int .i64 n ∧ n ≤ 1125899906842624 ∧ Hid (n = k + D.cnts (xs.take j)) ∧ Hid (D.Row wr b off 1 (D.flats (D.marks (xs.take j) k) ++ D.flats (xs.drop j)) f ∧ TouchF (b :: f) w wr)) (fun _ i _ => xs.length - (intOf i).toNat)
    case atStart => exact ⟨0, k, Nat.zero_le _, rfl, rfl, by omega, Lib.hid (by simp [D.cnts]), Lib.hid ⟨by simpa [D.marks, D.flats] using H8.out, TouchF.refl _ _⟩⟩
    case round =>
      obtain ⟨j, n, hj, rfl, rfl, hnb, hnn, hrel⟩ := hrel
      obtain ⟨row0, ht⟩ := hrel.out
      have NN := Lib.hid hnn.out
      clear hrel hnn
      by_cases hlt : j < xs.length
      · obtain ⟨sCon, xNames, iBodyKind, sBodyName, bBodyBigMinus, xBodyBigLimbs, xBodyNames, xBodyKids, xBodyAlts, hx, m0, m1, m2, m3, m4⟩ := IH.out _ (List.getElem_mem hlt)
        have hlen := marks_len HSZ.out k j hj
        rw [marks_at hlt, hx] at row0
        have hct := cnt_take hlt
        have hcl := cnts_take_le xs (j + 1)
        have hmn := marks_next hlt k
        rw [hx] at hct hmn
        have nb := NN.out
        rw [← nb] at hmn
        have CT : Hid (n + (.struct [.str sCon, .slice 1 xNames, .struct [.int .i64 iBodyKind, .str sBodyName, .struct [.bool bBodyBigMinus, .slice 1 xBodyBigLimbs], .slice 1 xBodyNames, .slice 7 xBodyKids, .slice 9 xBodyAlts]] : D).cnt = k + D.cnts (xs.take (j + 1))) := by show _ = _; omega
        have CB : Hid (k + D.cnts (xs.take (j + 1)) ≤ 1125899906842624) := by show _ ≤ _; omega
        have MN := Lib.hid hmn
        generalize hM : D.flats (D.marks (xs.take j) k) = M at row0 hlen
        generalize hR : D.flats (xs.drop (j + 1)) = R at row0
        have HLEN := Lib.hid hlen
        have HM := Lib.hid hM
        have HR := Lib.hid hR
        simp only [D.flat, D.flats, List.cons_append, List.nil_append, List.append_assoc] at row0
        have T0 := Lib.hid ht
        have cb := CB.out
        have ct := CT.out
        simp only [D.cnt, D.cnts, Nat.add_zero] at ct
        have ROW0 := Lib.hid row0
        clear hlen hct hcl hmn nb ht hM hR hx
        go_wp2_with (first
          | (go_at_call 72; (with_reducible refine (markText_at _ (n) (by omega) (by omega) _).mono ?_); rintro e y0 ⟨rfl, hb⟩; have ROW1 := Lib.hid (row_below ROW0.out hb); have T1 := Lib.hid (T0.out.trans (TouchF.of_below hb)); clear hb)
          | (refine wpl_leaf_str rfl _ _ _ rfl (b := b) (off := off) (fp := f) (rs := ((D.slice 1 xNames) :: (D.int .i64 iBodyKind) :: (D.str sBodyName) :: (D.bool bBodyBigMinus) :: (D.slice 1 xBodyBigLimbs) :: (D.slice 1 xBodyNames) :: (D.slice 7 xBodyKids) :: (D.slice 9 xBodyAlts) :: R)) (m := sCon) (ms := (M ++ [])) (p := off + j * 9) rfl rfl (by kernel_rfl) (by have h_ := HLEN.out; simp only [List.length_append, List.length_cons, List.length_nil]; omega) (row := (by simpa using ROW1.out)) HB.out (Row_live T1.out (HL.out b (by simp))) ?_; intro x0 row ht; have ROW2 := Lib.hid row; have T2 := Lib.hid (T1.out.trans ht); clear ROW1; clear row ht; obtain ⟨A1, c1, z1⟩ := row_slice (b := b) (off := off) (fp := f) (xs := xNames) (sz := 1) (rs := ((D.int .i64 iBodyKind) :: (D.str sBodyName) :: (D.bool bBodyBigMinus) :: (D.slice 1 xBodyBigLimbs) :: (D.slice 1 xBodyNames) :: (D.slice 7 xBodyKids) :: (D.slice 9 xBodyAlts) :: R)) (ms := (M ++ [(.str (markT (n)))])) (by simpa using ROW2.out) (p := off + j * 9 + 1) (by have h_ := HLEN.out; simp only [List.length_append, List.length_cons, List.length_nil]; omega))
          | (go_at_call 17; obtain ⟨f2, hk2, hnd2, hsub2, put2⟩ := D.Row_call' (a := (D.slice 1 xNames)) (b := b) (off := off) (fp := f) (rs := ((D.int .i64 iBodyKind) :: (D.str sBodyName) :: (D.bool bBodyBigMinus) :: (D.slice 1 xBodyBigLimbs) :: (D.slice 1 xBodyNames) :: (D.slice 7 xBodyKids) :: (D.slice 9 xBodyAlts) :: R)) (ms := (M ++ [(.str (markT (n)))])) (by simpa using ROW2.out) HN.out (p := off + j * 9 + 1) (by have h_ := HLEN.out; simp only [List.length_append, List.length_cons, List.length_nil]; omega) z1; (with_reducible refine (m0.atz _ (n + 1) (by omega) hk2 hnd2 (fun q hq => T2.out.live q (by simp [hsub2 q hq]) (HL.out q (by simp [hsub2 q hq]))) (by simp only [D.tcnt]; omega)).mono ?_); rintro e y1 ⟨n1, hn1, rfl, hk3, ht3⟩; simp only [D.tcnt] at hn1; have row := put2 _ _ hk3 ht3; have ht := ht3.mono (fun q hq => List.mem_cons_of_mem b (hsub2 q hq)); have ROW3 := Lib.hid row; have T3 := Lib.hid (T2.out.trans ht); clear ROW2; have N1 := Lib.hid hn1; have nb1 : n1 + 3 + D.cnts xBodyBigLimbs + D.cnts xBodyNames + D.cnts xBodyKids + D.cnts xBodyAlts ≤ 1125899906842624 := (by omega); clear row ht hk2 hnd2 hsub2 put2 hk3 ht3 hn1)
          | (refine wpl_leaf_int rfl _ _ _ rfl (b := b) (off := off) (fp := f) (rs := ((D.str sBodyName) :: (D.bool bBodyBigMinus) :: (D.slice 1 xBodyBigLimbs) :: (D.slice 1 xBodyNames) :: (D.slice 7 xBodyKids) :: (D.slice 9 xBodyAlts) :: R)) (m := iBodyKind) (ms := (M ++ [(.str (markT (n))), ((D.slice 1 xNames : D).top (n + 1))])) (p := off + j * 9 + 2) rfl rfl (by kernel_rfl) (by have h_ := HLEN.out; simp only [List.length_append, List.length_cons, List.length_nil]; omega) (row := (by simpa using ROW3.out)) HB.out (Row_live T3.out (HL.out b (by simp))) ?_; intro x2 row ht; have ROW4 := Lib.hid row; have T4 := Lib.hid (T3.out.trans ht); clear ROW3; clear row ht)
          | (go_at_call 72; (with_reducible refine (markText_at _ (n1 + 1) (by omega) (by omega) _).mono ?_); rintro e y3 ⟨rfl, hb⟩; have ROW5 := Lib.hid (row_below ROW4.out hb); have T5 := Lib.hid (T4.out.trans (TouchF.of_below hb)); clear hb)
          | (refine wpl_leaf_str rfl _ _ _ rfl (b := b) (off := off) (fp := f) (rs := ((D.bool bBodyBigMinus) :: (D.slice 1 xBodyBigLimbs) :: (D.slice 1 xBodyNames) :: (D.slice 7 xBodyKids) :: (D.slice 9 xBodyAlts) :: R)) (m := sBodyName) (ms := (M ++ [(.str (markT (n))), ((D.slice 1 xNames : D).top (n + 1)), (.int .i64 ((n1 : Int)))])) (p := off + j * 9 + 3) rfl rfl (by kernel_rfl) (by have h_ := HLEN.out; simp only [List.length_append, List.length_cons, List.length_nil]; omega) (row := (by simpa using ROW5.out)) HB.out (Row_live T5.out (HL.out b (by simp))) ?_; intro x3 row ht; have ROW6 := Lib.hid row; have T6 := Lib.hid (T5.out.trans ht); clear ROW5; clear row ht)
          | (refine wpl_leaf_bool rfl _ _ _ rfl (b := b) (off := off) (fp := f) (rs := ((D.slice 1 xBodyBigLimbs) :: (D.slice 1 xBodyNames) :: (D.slice 7 xBodyKids) :: (D.slice 9 xBodyAlts) :: R)) (m := bBodyBigMinus) (ms := (M ++ [(.str (markT (n))), ((D.slice 1 xNames : D).top (n + 1)), (.int .i64 ((n1 : Int))), (.str (markT (n1 + 1)))])) (p := off + j * 9 + 4) rfl rfl (by kernel_rfl) (by have h_ := HLEN.out; simp only [List.length_append, List.length_cons, List.length_nil]; omega) (row := (by simpa using ROW6.out)) HB.out (Row_live T6.out (HL.out b (by simp))) ?_; intro x4 row ht; rw [modB (show (n1 : Int) + 1 + 1 = ((n1 + 2 : Nat) : Int) by omega)] at row; have ROW7 := Lib.hid row; have T7 := Lib.hid (T6.out.trans ht); clear ROW6; clear row ht; obtain ⟨A5, c5, z5⟩ := row_slice (b := b) (off := off) (fp := f) (xs := xBodyBigLimbs) (sz := 1) (rs := ((D.slice 1 xBodyNames) :: (D.slice 7 xBodyKids) :: (D.slice 9 xBodyAlts) :: R)) (ms := (M ++ [(.str (markT (n))), ((D.slice 1 xNames : D).top (n + 1)), (.int .i64 ((n1 : Int))), (.str (markT (n1 + 1))), (.bool ((n1 + 2) % 3 == 0))])) (by simpa using ROW7.out) (p := off + j * 9 + 5) (by have h_ := HLEN.out; simp only [List.length_append, List.length_cons, List.length_nil]; omega))
          | (go_at_call 127; obtain ⟨f2, hk2, hnd2, hsub2, put2⟩ := D.Row_call' (a := (D.slice 1 xBodyBigLimbs)) (b := b) (off := off) (fp := f) (rs := ((D.slice 1 xBodyNames) :: (D.slice 7 xBodyKids) :: (D.slice 9 xBodyAlts) :: R)) (ms := (M ++ [(.str (markT (n))), ((D.slice 1 xNames : D).top (n + 1)), (.int .i64 ((n1 : Int))), (.str (markT (n1 + 1))), (.bool ((n1 + 2) % 3 == 0))])) (by simpa using ROW7.out) HN.out (p := off + j * 9 + 5) (by have h_ := HLEN.out; simp only [List.length_append, List.length_cons, List.length_nil]; omega) z5; (with_reducible refine (m1.atz _ (n1 + 3) (by omega) hk2 hnd2 (fun q hq => T7.out.live q (by simp [hsub2 q hq]) (HL.out q (by simp [hsub2 q hq]))) (by simp only [D.tcnt]; omega)).mono ?_); rintro e y5 ⟨n2, hn2, rfl, hk3, ht3⟩; simp only [D.tcnt] at hn2; have row := put2 _ _ hk3 ht3; have ht := ht3.mono (fun q hq => List.mem_cons_of_mem b (hsub2 q hq)); have ROW8 := Lib.hid row; have T8 := Lib.hid (T7.out.trans ht); clear ROW7; have N2 := Lib.hid hn2; have nb2 : n2 + 0 + D.cnts xBodyNames + D.cnts xBodyKids + D.cnts xBodyAlts ≤ 1125899906842624 := (by omega); clear row ht hk2 hnd2 hsub2 put2 hk3 ht3 hn2; obtain ⟨A6, c6, z6⟩ := row_slice (b := b) (off := off) (fp := f) (xs := xBodyNames) (sz := 1) (rs := ((D.slice 7 xBodyKids) :: (D.slice 9 xBodyAlts) :: R)) (ms := (M ++ [(.str (markT (n))), ((D.slice 1 xNames : D).top (n + 1)), (.int .i64 ((n1 : Int))), (.str (markT (n1 + 1))), (.bool ((n1 + 2) % 3 == 0)), ((D.slice 1 xBodyBigLimbs : D).top (n1 + 3))])) (by simpa using ROW8.out) (p := off + j * 9 + 6) (by have h_ := HLEN.out; simp only [List.length_append, List.length_cons, List.length_nil]; omega))
          | (go_at_call 17; obtain ⟨f2, hk2, hnd2, hsub2, put2⟩ := D.Row_call' (a := (D.slice 1 xBodyNames)) (b := b) (off := off) (fp := f) (rs := ((D.slice 7 xBodyKids) :: (D.slice 9 xBodyAlts) :: R)) (ms := (M ++ [(.str (markT (n))), ((D.slice 1 xNames : D).top (n + 1)), (.int .i64 ((n1 : Int))), (.str (markT (n1 + 1))), (.bool ((n1 + 2) % 3 == 0)), ((D.slice 1 xBodyBigLimbs : D).top (n1 + 3))])) (by simpa using ROW8.out) HN.out (p := off + j * 9 + 6) (by have h_ := HLEN.out; simp only [List.length_append, List.length_cons, List.length_nil]; omega) z6; (with_reducible refine (m2.atz _ (n2) (by omega) hk2 hnd2 (fun q hq => T8.out.live q (by simp [hsub2 q hq]) (HL.out q (by simp [hsub2 q hq]))) (by simp only [D.tcnt]; omega)).mono ?_); rintro e y6 ⟨n3, hn3, rfl, hk3, ht3⟩; simp only [D.tcnt] at hn3; have row := put2 _ _ hk3 ht3; have ht := ht3.mono (fun q hq => List.mem_cons_of_mem b (hsub2 q hq)); have ROW9 := Lib.hid row; have T9 := Lib.hid (T8.out.trans ht); clear ROW8; have N3 := Lib.hid hn3; have nb3 : n3 + 0 + D.cnts xBodyKids + D.cnts xBodyAlts ≤ 1125899906842624 := (by omega); clear row ht hk2 hnd2 hsub2 put2 hk3 ht3 hn3; obtain ⟨A7, c7, z7⟩ := row_slice (b := b) (off := off) (fp := f) (xs := xBodyKids) (sz := 7) (rs := ((D.slice 9 xBodyAlts) :: R)) (ms := (M ++ [(.str (markT (n))), ((D.slice 1 xNames : D).top (n + 1)), (.int .i64 ((n1 : Int))), (.str (markT (n1 + 1))), (.bool ((n1 + 2) % 3 == 0)), ((D.slice 1 xBodyBigLimbs : D).top (n1 + 3)), ((D.slice 1 xBodyNames : D).top (n2))])) (by simpa using ROW9.out) (p := off + j * 9 + 7) (by have h_ := HLEN.out; simp only [List.length_append, List.length_cons, List.length_nil]; omega))
          | (go_at_call 70; obtain ⟨f2, hk2, hnd2, hsub2, put2⟩ := D.Row_call' (a := (D.slice 7 xBodyKids)) (b := b) (off := off) (fp := f) (rs := ((D.slice 9 xBodyAlts) :: R)) (ms := (M ++ [(.str (markT (n))), ((D.slice 1 xNames : D).top (n + 1)), (.int .i64 ((n1 : Int))), (.str (markT (n1 + 1))), (.bool ((n1 + 2) % 3 == 0)), ((D.slice 1 xBodyBigLimbs : D).top (n1 + 3)), ((D.slice 1 xBodyNames : D).top (n2))])) (by simpa using ROW9.out) HN.out (p := off + j * 9 + 7) (by have h_ := HLEN.out; simp only [List.length_append, List.length_cons, List.length_nil]; omega) z7; (with_reducible refine (m3.atz _ (n3) (by omega) hk2 hnd2 (fun q hq => T9.out.live q (by simp [hsub2 q hq]) (HL.out q (by simp [hsub2 q hq]))) (by simp only [D.tcnt]; omega)).mono ?_); rintro e y7 ⟨n4, hn4, rfl, hk3, ht3⟩; simp only [D.tcnt] at hn4; have row := put2 _ _ hk3 ht3; have ht := ht3.mono (fun q hq => List.mem_cons_of_mem b (hsub2 q hq)); have ROW10 := Lib.hid row; have T10 := Lib.hid (T9.out.trans ht); clear ROW9; have N4 := Lib.hid hn4; have nb4 : n4 + 0 + D.cnts xBodyAlts ≤ 1125899906842624 := (by omega); clear row ht hk2 hnd2 hsub2 put2 hk3 ht3 hn4; obtain ⟨A8, c8, z8⟩ := row_slice (b := b) (off := off) (fp := f) (xs := xBodyAlts) (sz := 9) (rs := (R)) (ms := (M ++ [(.str (markT (n))), ((D.slice 1 xNames : D).top (n + 1)), (.int .i64 ((n1 : Int))), (.str (markT (n1 + 1))), (.bool ((n1 + 2) % 3 == 0)), ((D.slice 1 xBodyBigLimbs : D).top (n1 + 3)), ((D.slice 1 xBodyNames : D).top (n2)), ((D.slice 7 xBodyKids : D).top (n3))])) (by simpa using ROW10.out) (p := off + j * 9 + 8) (by have h_ := HLEN.out; simp only [List.length_append, List.length_cons, List.length_nil]; omega))
          | (go_at_call 71; obtain ⟨f2, hk2, hnd2, hsub2, put2⟩ := D.Row_call' (a := (D.slice 9 xBodyAlts)) (b := b) (off := off) (fp := f) (rs := (R)) (ms := (M ++ [(.str (markT (n))), ((D.slice 1 xNames : D).top (n + 1)), (.int .i64 ((n1 : Int))), (.str (markT (n1 + 1))), (.bool ((n1 + 2) % 3 == 0)), ((D.slice 1 xBodyBigLimbs : D).top (n1 + 3)), ((D.slice 1 xBodyNames : D).top (n2)), ((D.slice 7 xBodyKids : D).top (n3))])) (by simpa using ROW10.out) HN.out (p := off + j * 9 + 8) (by have h_ := HLEN.out; simp only [List.length_append, List.length_cons, List.length_nil]; omega) z8; (with_reducible refine (m4.atz _ (n4) (by omega) hk2 hnd2 (fun q hq => T10.out.live q (by simp [hsub2 q hq]) (HL.out q (by simp [hsub2 q hq]))) (by simp only [D.tcnt]; omega)).mono ?_); rintro e y8 ⟨n5, hn5, rfl, hk3, ht3⟩; simp only [D.tcnt] at hn5; have row := put2 _ _ hk3 ht3; have ht := ht3.mono (fun q hq => List.mem_cons_of_mem b (hsub2 q hq)); have ROW11 := Lib.hid row; have T11 := Lib.hid (T10.out.trans ht); clear ROW10; have N5 := Lib.hid hn5; have nb5 : n5 + 0 ≤ 1125899906842624 := (by omega); clear row ht hk2 hnd2 hsub2 put2 hk3 ht3 hn5))
        go_roundw
        case rel =>
          have e1 := N1.out; have e2 := N2.out; have e3 := N3.out; have e4 := N4.out; have e5 := N5.out; refine ⟨j + 1, n5, by omega, by go_num, by go_num, by omega, Lib.hid (by have h_ := CT.out; simp only [D.cnt, D.cnts, Nat.add_zero] at h_; omega), Lib.hid ⟨?_, T11.out⟩⟩
          rw [← MN_eq MN.out HM.out HR.out]
          have hr := ROW11.out
          have v0 : IntKind.i64.wrap ((n1 : Int)) = (n1 : Int) := i64_p _ (by omega) (by omega)
          subst e1
          subst e2
          subst e3
          subst e4
          subst e5
          refine Eq.mp (congrArg (fun L => D.Row _ b off 1 L f) ?_) hr
          simp (disch := omega) [D.mark, D.marks, D.flat, D.flats, D.top, D.cnt, D.cnts, i64_p]
          repeat' (first | (apply And.intro) | omega | exact congrArg markT (by omega) | exact congrArg (D.marks _) (by omega))
        case measure => simp [intOf]; omega
      · obtain rfl : j = xs.length := by omega
        rw [List.drop_length, D.flats, List.append_nil, List.take_length] at row0
        have ROW := Lib.hid ((D.Row_flats (D.marks_mem_n HSZ.out k)).2 row0)
        have HT := Lib.hid ht
        have nb := NN.out
        rw [List.take_length] at nb
        have NB := Lib.hid nb
        clear row0 ht nb
        go_wp2_with fail
        go_ret
        exact ⟨ret_int (by have := NB.out; omega), by simp only [D.top, D.K]; exact ⟨_, c, by rw [D.marks_length], by rw [D.marks_length]; exact H2.out, H3.out, .inr ⟨b, off, f, rfl, Nat.lt_of_lt_of_le h6 HT.out.size, rfl, ROW.out⟩⟩, HT.out⟩
set_option maxRecDepth 100000 in
theorem markCore_of (iKind : Int) (sName : ByteArray) (bBigMinus : Bool) (xBigLimbs : List D) (xNames : List D) (xKids : List D) (xAlts : List D) (mkBig : MkA Try.prog 69 (D.struct [.bool bBigMinus, .slice 1 xBigLimbs])) (mkNames : MkO Try.prog 17 (D.slice 1 xNames)) (mkKids : MkO Try.prog 70 (D.slice 7 xKids)) (mkAlts : MkO Try.prog 71 (D.slice 9 xAlts)) : MkA Try.prog 16 (.struct [.int .i64 iKind, .str sName, .struct [.bool bBigMinus, .slice 1 xBigLimbs], .slice 1 xNames, .slice 7 xKids, .slice 9 xAlts]) := by
  intro w cs fp k h hnd hl hk
  obtain ⟨u0, u1, u2, u3, u4, u5, u6, rfl⟩ := cells7 (D.K_len _ h)
  have h0 := D.K_struct.1 h
  have hlt := D.Fields_lt _ h0
  have hb := (Below.refl w.heap.size w).alloc (Nat.le_refl _) (.cells #[u0, u1, u2, u3, u4, u5, u6] 36)
  have hF := D.Fields_below h0 hb
  have BK := Lib.hid (blk_new w (.cells #[u0, u1, u2, u3, u4, u5, u6] 36))
  have T0 := Lib.hid (TouchF.of_below (fp := fp) hb)
  have GN : Hid (w.heap.size ∉ fp) := fun hm => by have := hlt _ hm; omega
  have HL := Lib.hid hl
  have HND := Lib.hid hnd
  have HF := Lib.hid hF
  have TC : Hid (D.tcnt (.struct [.int .i64 iKind, .str sName, .struct [.bool bBigMinus, .slice 1 xBigLimbs], .slice 1 xNames, .slice 7 xKids, .slice 9 xAlts]) = (D.struct [.bool bBigMinus, .slice 1 xBigLimbs]).tcnt + (D.slice 1 xNames).tcnt + (D.slice 7 xKids).tcnt + (D.slice 9 xAlts).tcnt) := by show _ = _; simp only [D.tcnt, D.tcnts]; omega
  rw [TC.out] at hk
  clear h h0 hlt hb hF hl hnd
  have MKBig := Lib.hid mkBig
  clear mkBig
  have MKNames := Lib.hid mkNames
  clear mkNames
  have MKKids := Lib.hid mkKids
  clear mkKids
  have MKAlts := Lib.hid mkAlts
  clear mkAlts
  go_enter Try.func16, Try.ntmps16
  go_wp2_with fail
  obtain ⟨g0, nd0, sub0, kk0, put0⟩ := D.Fields_at (ms := [(D.int .i64 iKind), (D.str sName)]) (a := (D.struct [.bool bBigMinus, .slice 1 xBigLimbs])) (rs := [(D.slice 1 xNames), (D.slice 7 xKids), (D.slice 9 xAlts)]) (n1 := 2) (n2 := 2) HF.out HND.out (by rfl) (by rfl)
  have CAL := MKBig.out _ [u2, u3] g0 (k) kk0 nd0 (fun j hj => T0.out.live j (sub0 j hj) (HL.out j (sub0 j hj))) (by omega)
  refine CAL.mono ?_
  clear CAL
  rintro e w1 ⟨rfl, kn, tn⟩
  have HF := Lib.hid (put0 _ _ tn kn)
  have T0 := Lib.hid (T0.out.trans (tn.mono sub0))
  have BK := Lib.hid (cells_touch BK.out tn (fun hm => GN.out (sub0 _ hm)))
  clear kn tn put0 kk0 nd0 sub0
  have z_0 := blk_cell BK.out 0
  have z_1 := blk_cell BK.out 1
  have z_2 := blk_cell BK.out 2
  have z_3 := blk_cell BK.out 3
  have z_4 := blk_cell BK.out 4
  have z_5 := blk_cell BK.out 5
  have z_6 := blk_cell BK.out 6
  simp at z_0 z_1 z_2 z_3 z_4 z_5 z_6
  go_wp2_with fail
  obtain ⟨g1, nd1, sub1, kk1, put1⟩ := D.Fields_at (ms := [(D.int .i64 iKind), (D.str sName), ((D.struct [.bool bBigMinus, .slice 1 xBigLimbs]).top (k))]) (a := (D.slice 1 xNames)) (rs := [(D.slice 7 xKids), (D.slice 9 xAlts)]) (n1 := 4) (n2 := 1) HF.out HND.out (by rfl) (by rfl)
  have CAL := MKNames.out _ _ g1 (k + (D.struct [.bool bBigMinus, .slice 1 xBigLimbs]).tcnt) kk1 nd1 (fun j hj => T0.out.live j (sub1 j hj) (HL.out j (sub1 j hj))) (by omega)
  refine CAL.mono ?_
  clear CAL
  rintro e w2 ⟨rfl, kn, tn⟩
  have HF := Lib.hid (put1 _ _ tn kn)
  have T0 := Lib.hid (T0.out.trans (tn.mono sub1))
  have BK := Lib.hid (cells_touch BK.out tn (fun hm => GN.out (sub1 _ hm)))
  clear kn tn put1 kk1 nd1 sub1
  have z_0 := blk_cell BK.out 0
  have z_1 := blk_cell BK.out 1
  have z_2 := blk_cell BK.out 2
  have z_3 := blk_cell BK.out 3
  have z_4 := blk_cell BK.out 4
  have z_5 := blk_cell BK.out 5
  have z_6 := blk_cell BK.out 6
  simp at z_0 z_1 z_2 z_3 z_4 z_5 z_6
  go_wp2_with fail
  obtain ⟨g2, nd2, sub2, kk2, put2⟩ := D.Fields_at (ms := [(D.int .i64 iKind), (D.str sName), ((D.struct [.bool bBigMinus, .slice 1 xBigLimbs]).top (k)), ((D.slice 1 xNames).top (k + (D.struct [.bool bBigMinus, .slice 1 xBigLimbs]).tcnt))]) (a := (D.slice 7 xKids)) (rs := [(D.slice 9 xAlts)]) (n1 := 5) (n2 := 1) HF.out HND.out (by rfl) (by rfl)
  have CAL := MKKids.out _ _ g2 (k + (D.struct [.bool bBigMinus, .slice 1 xBigLimbs]).tcnt + (D.slice 1 xNames).tcnt) kk2 nd2 (fun j hj => T0.out.live j (sub2 j hj) (HL.out j (sub2 j hj))) (by omega)
  refine CAL.mono ?_
  clear CAL
  rintro e w3 ⟨rfl, kn, tn⟩
  have HF := Lib.hid (put2 _ _ tn kn)
  have T0 := Lib.hid (T0.out.trans (tn.mono sub2))
  have BK := Lib.hid (cells_touch BK.out tn (fun hm => GN.out (sub2 _ hm)))
  clear kn tn put2 kk2 nd2 sub2
  have z_0 := blk_cell BK.out 0
  have z_1 := blk_cell BK.out 1
  have z_2 := blk_cell BK.out 2
  have z_3 := blk_cell BK.out 3
  have z_4 := blk_cell BK.out 4
  have z_5 := blk_cell BK.out 5
  have z_6 := blk_cell BK.out 6
  simp at z_0 z_1 z_2 z_3 z_4 z_5 z_6
  go_wp2_with fail
  obtain ⟨g3, nd3, sub3, kk3, put3⟩ := D.Fields_at (ms := [(D.int .i64 iKind), (D.str sName), ((D.struct [.bool bBigMinus, .slice 1 xBigLimbs]).top (k)), ((D.slice 1 xNames).top (k + (D.struct [.bool bBigMinus, .slice 1 xBigLimbs]).tcnt)), ((D.slice 7 xKids).top (k + (D.struct [.bool bBigMinus, .slice 1 xBigLimbs]).tcnt + (D.slice 1 xNames).tcnt))]) (a := (D.slice 9 xAlts)) (rs := []) (n1 := 6) (n2 := 1) HF.out HND.out (by rfl) (by rfl)
  have CAL := MKAlts.out _ _ g3 (k + (D.struct [.bool bBigMinus, .slice 1 xBigLimbs]).tcnt + (D.slice 1 xNames).tcnt + (D.slice 7 xKids).tcnt) kk3 nd3 (fun j hj => T0.out.live j (sub3 j hj) (HL.out j (sub3 j hj))) (by omega)
  refine CAL.mono ?_
  clear CAL
  rintro e w4 ⟨rfl, kn, tn⟩
  have HF := Lib.hid (put3 _ _ tn kn)
  have T0 := Lib.hid (T0.out.trans (tn.mono sub3))
  have BK := Lib.hid (cells_touch BK.out tn (fun hm => GN.out (sub3 _ hm)))
  clear kn tn put3 kk3 nd3 sub3
  go_wp2
  go_ret
  exact ⟨ret_int (by rw [TC.out]; omega), D.K_struct.2 (by simpa only [D.tops, D.top, D.tcnt, D.tcnts, Nat.add_zero, Nat.zero_add, Nat.add_assoc, List.cons_append, List.nil_append] using HF.out), T0.out⟩

end Go.Proofs.Ythidbmjdphfddaa
