/- What the laws' helpers that mark and look for marks do with []Token,LexResult; no condition. -/
import Derived.Test.YtifmnijdaboenaaDoorMkT
import Derived.Test.YtifmnijdaboenaaDoorHf
import Derived.Test.YtifmnijdaboenaaDoorProg
import Derived.Deep.RegionHeld3
namespace Go.Proofs.YtifmnijdaboenaaDoor
open Go.RowKit
set_option linter.unusedVariables false
set_option linter.unusedSimpArgs false

theorem n_TokenS {xs : List D} (ih : ∀ x ∈ xs, ∃ (iKind : Int) (sText : ByteArray) (iLine : Int) (iCol : Int), x = (.struct [.int .i64 iKind, .str sText, .int .i64 iLine, .int .i64 iCol] : D)) : ∀ x ∈ xs, x.n = 4 := fun x hx => by
  obtain ⟨iKind, sText, iLine, iCol, rfl⟩ := ih x hx
  rfl
theorem n'_TokenS {xs : List D} (ih : ∀ x ∈ xs, ∃ (iKind : Int) (sText : ByteArray) (iLine : Int) (iCol : Int), x = (.struct [.int .i64 iKind, .str sText, .int .i64 iLine, .int .i64 iCol] : D)) : ∀ x ∈ xs, x.n = 4 := fun x hx => by
  obtain ⟨iKind, sText, iLine, iCol, rfl⟩ := ih x hx
  rfl
set_option maxRecDepth 100000 in
set_option maxHeartbeats 2000000 in
theorem markTokenS_of (xs : List D) (hn : xs.length ≤ 140737488351232) (ih : ∀ x ∈ xs, ∃ (iKind : Int) (sText : ByteArray) (iLine : Int) (iCol : Int), x = (.struct [.int .i64 iKind, .str sText, .int .i64 iLine, .int .i64 iCol] : D)) : MkO Tryd.prog 27 (.slice 4 xs) := by
  intro w v fp k h hnd hl hk
  simp only [D.K] at h
  obtain ⟨A, c, he, h2, h3, h4⟩ := h
  obtain rfl : v = .slice A xs.length c := by simpa using he
  simp only [D.tcnt] at hk ⊢
  have hsz := n_TokenS ih
  rcases h4 with ⟨rfl, rfl⟩ | ⟨b, off, f, rfl, h6, rfl, h8⟩
  · clear he hsz ih
    go_enter Tryd.func27, Tryd.ntmps27
    go_wp2_with fail
    go_loop [1, 5] (fun q i => i = .int .i64 0 ∧ q = .int .i64 k) (fun _ _ => 0)
    case atStart => exact ⟨rfl, rfl⟩
    case round =>
      obtain ⟨rfl, rfl⟩ := hrel
      go_wp2_with fail
      go_ret
      exact ⟨by first | rfl | exact ret_int (by simp [D.cnts]), by simp only [D.top, D.marks, D.K]; exact ⟨A, c, rfl, h2, h3, .inl ⟨True.intro, True.intro⟩⟩, TouchF.refl _ _⟩
  · rw [D.Row_flats hsz] at h8
    have IH := Lib.hid ih
    have HSZ := Lib.hid hsz
    have HL := Lib.hid hl
    have HN := Lib.hid hnd
    have H8 := Lib.hid h8
    have H2 := Lib.hid h2
    have H3 := Lib.hid h3
    have HB := Lib.hid (List.nodup_cons.1 hnd).1
    clear he ih hl hnd h8 h2 h3 hsz
    go_enter Tryd.func27, Tryd.ntmps27
    go_wp2_with fail
    go_loopw [1, 5] (fun q i wr => ∃ j n : Nat, j ≤ xs.length ∧ i = .int .i64 j ∧ q = .int .i64 n ∧ n ≤ 1125899906842624 ∧ Hid (n = k + D.cnts (xs.take j)) ∧ Hid (D.Row wr b off 1 (D.flats (D.marks (xs.take j) k) ++ D.flats (xs.drop j)) f ∧ TouchF (b :: f) w wr)) (fun _ i _ => xs.length - (intOf i).toNat)
    case atStart => exact ⟨0, k, Nat.zero_le _, rfl, rfl, by omega, Lib.hid (by simp [D.cnts]), Lib.hid ⟨by simpa [D.marks, D.flats] using H8.out, TouchF.refl _ _⟩⟩
    case round =>
      obtain ⟨j, n, hj, rfl, rfl, hnb, hnn, hrel⟩ := hrel
      obtain ⟨row0, ht⟩ := hrel.out
      have NN := Lib.hid hnn.out
      clear hrel hnn
      by_cases hlt : j < xs.length
      · obtain ⟨iKind, sText, iLine, iCol, hx⟩ := IH.out _ (List.getElem_mem hlt)
        have hlen := marks_len HSZ.out k j hj
        rw [marks_at hlt, hx] at row0
        have hct := cnt_take hlt
        have hcl := cnts_take_le xs (j + 1)
        have hmn := marks_next hlt k
        rw [hx] at hct hmn
        have nb := NN.out
        rw [← nb] at hmn
        have CT : Hid (n + (.struct [.int .i64 iKind, .str sText, .int .i64 iLine, .int .i64 iCol] : D).cnt = k + D.cnts (xs.take (j + 1))) := by show _ = _; omega
        have CB : Hid (k + D.cnts (xs.take (j + 1)) ≤ 1125899906842624) := by show _ ≤ _; omega
        have MN := Lib.hid hmn
        generalize hM : D.flats (D.marks (xs.take j) k) = M at row0 hlen
        generalize hR : D.flats (xs.drop (j + 1)) = R at row0
        have HLEN := Lib.hid hlen
        have HM := Lib.hid hM
        have HR := Lib.hid hR
        simp only [D.flat, D.flats, List.cons_append, List.nil_append, List.append_assoc] at row0
        have T0 := Lib.hid ht
        have cb := CB.out
        have ct := CT.out
        simp only [D.cnt, D.cnts, Nat.add_zero] at ct
        have ROW0 := Lib.hid row0
        clear hlen hct hcl hmn nb ht hM hR hx
        go_wp2_with (first
          | (refine wpl_leaf_int rfl _ _ _ rfl (b := b) (off := off) (fp := f) (rs := ((D.str sText) :: (D.int .i64 iLine) :: (D.int .i64 iCol) :: R)) (m := iKind) (ms := (M ++ [])) (p := off + j * 4) rfl rfl (by kernel_rfl) (by have h_ := HLEN.out; simp only [List.length_append, List.length_cons, List.length_nil]; omega) (row := (by simpa using ROW0.out)) HB.out (Row_live T0.out (HL.out b (by simp))) ?_; intro x0 row ht; have ROW1 := Lib.hid row; have T1 := Lib.hid (T0.out.trans ht); clear ROW0; clear row ht)
          | (go_at_call 64; (with_reducible refine (markText_at _ (n + 1) (by omega) (by omega) _).mono ?_); rintro e y1 ⟨rfl, hb⟩; have ROW2 := Lib.hid (row_below ROW1.out hb); have T2 := Lib.hid (T1.out.trans (TouchF.of_below hb)); clear hb)
          | (refine wpl_leaf_str rfl _ _ _ rfl (b := b) (off := off) (fp := f) (rs := ((D.int .i64 iLine) :: (D.int .i64 iCol) :: R)) (m := sText) (ms := (M ++ [(.int .i64 ((n : Int)))])) (p := off + j * 4 + 1) rfl rfl (by kernel_rfl) (by have h_ := HLEN.out; simp only [List.length_append, List.length_cons, List.length_nil]; omega) (row := (by simpa using ROW2.out)) HB.out (Row_live T2.out (HL.out b (by simp))) ?_; intro x1 row ht; have ROW3 := Lib.hid row; have T3 := Lib.hid (T2.out.trans ht); clear ROW2; clear row ht)
          | (refine wpl_leaf_int rfl _ _ _ rfl (b := b) (off := off) (fp := f) (rs := ((D.int .i64 iCol) :: R)) (m := iLine) (ms := (M ++ [(.int .i64 ((n : Int))), (.str (markT (n + 1)))])) (p := off + j * 4 + 2) rfl rfl (by kernel_rfl) (by have h_ := HLEN.out; simp only [List.length_append, List.length_cons, List.length_nil]; omega) (row := (by simpa using ROW3.out)) HB.out (Row_live T3.out (HL.out b (by simp))) ?_; intro x2 row ht; have ROW4 := Lib.hid row; have T4 := Lib.hid (T3.out.trans ht); clear ROW3; clear row ht)
          | (refine wpl_leaf_int rfl _ _ _ rfl (b := b) (off := off) (fp := f) (rs := (R)) (m := iCol) (ms := (M ++ [(.int .i64 ((n : Int))), (.str (markT (n + 1))), (.int .i64 ((n : Int) + 1 + 1))])) (p := off + j * 4 + 3) rfl rfl (by kernel_rfl) (by have h_ := HLEN.out; simp only [List.length_append, List.length_cons, List.length_nil]; omega) (row := (by simpa using ROW4.out)) HB.out (Row_live T4.out (HL.out b (by simp))) ?_; intro x3 row ht; have ROW5 := Lib.hid row; have T5 := Lib.hid (T4.out.trans ht); clear ROW4; clear row ht))
        go_roundw
        case rel =>
          refine ⟨j + 1, n + 4, by omega, by go_num, by go_num, by omega, Lib.hid (by have h_ := CT.out; simp only [D.cnt, D.cnts, Nat.add_zero] at h_; omega), Lib.hid ⟨?_, T5.out⟩⟩
          rw [← MN_eq MN.out HM.out HR.out]
          have hr := ROW5.out
          have v0 : IntKind.i64.wrap ((n : Int)) = (n : Int) := i64_p _ (by omega) (by omega)
          have v1 : IntKind.i64.wrap (((n : Int) + 2)) = (n : Int) + 1 + 1 := i64_p _ (by omega) (by omega)
          have v2 : IntKind.i64.wrap (((n : Int) + 3)) = (n : Int) + 1 + 1 + 1 := i64_p _ (by omega) (by omega)
          simpa [D.mark, D.marks, D.flat, D.flats, D.top, D.cnt, D.cnts, Nat.add_assoc, v0, v1, v2] using hr
        case measure => simp [intOf]; omega
      · obtain rfl : j = xs.length := by omega
        rw [List.drop_length, D.flats, List.append_nil, List.take_length] at row0
        have ROW := Lib.hid ((D.Row_flats (D.marks_mem_n HSZ.out k)).2 row0)
        have HT := Lib.hid ht
        have nb := NN.out
        rw [List.take_length] at nb
        have NB := Lib.hid nb
        clear row0 ht nb
        go_wp2_with fail
        go_ret
        exact ⟨ret_int (by have := NB.out; omega), by simp only [D.top, D.K]; exact ⟨_, c, by rw [D.marks_length], by rw [D.marks_length]; exact H2.out, H3.out, .inr ⟨b, off, f, rfl, Nat.lt_of_lt_of_le h6 HT.out.size, rfl, ROW.out⟩⟩, HT.out⟩
set_option maxRecDepth 100000 in
set_option maxHeartbeats 2000000 in
theorem heldTokenS_of (xs : List D) (hn : xs.length ≤ 140737488351232) (ih : ∀ x ∈ xs, ∃ (iKind : Int) (sText : ByteArray) (iLine : Int) (iCol : Int), x = (.struct [.int .i64 iKind, .str sText, .int .i64 iLine, .int .i64 iCol] : D)) : HdO Tryd.prog 28 (.slice 4 xs) := by
  intro w v k h hk
  simp only [D.top] at h
  obtain ⟨A, c, rfl, _, _, hrow⟩ := rd_slice1 h
  simp only [D.tcnt] at hk ⊢
  rw [D.marks_length]
  have IH := Lib.hid ih
  have H := Lib.hid hrow
  clear ih h hrow
  go_enter Tryd.func28, Tryd.ntmps28
  go_wp2_with fail
  go_loopw [1, 5] (fun q i wr => ∃ j n : Nat, j ≤ xs.length ∧ i = .int .i64 j ∧ q = .int .i64 n ∧ n ≤ 1125899906842624 ∧ Hid (n = k + D.cnts (xs.take j)) ∧ Hid (Below w.heap.size w wr)) (fun _ i _ => xs.length - (intOf i).toNat)
  case atStart => exact ⟨0, k, Nat.zero_le _, rfl, rfl, by omega, Lib.hid (by simp [D.cnts]), Lib.hid (Below.refl _ _)⟩
  case round =>
    obtain ⟨j, n, hj, rfl, rfl, hnb, hnn, hrel⟩ := hrel
    have HB := Lib.hid hrel.out
    have NN := Lib.hid hnn.out
    clear hrel hnn
    by_cases hlt : j < xs.length
    · obtain ⟨iKind, sText, iLine, iCol, hx⟩ := IH.out _ (List.getElem_mem hlt)
      have hget := marks_get hlt k
      have hct := cnt_take hlt
      have hcl := cnts_take_le xs (j + 1)
      have nb := NN.out
      rw [← nb, hx] at hget
      rw [hx] at hct
      have ct : n + (.struct [.int .i64 iKind, .str sText, .int .i64 iLine, .int .i64 iCol] : D).cnt = k + D.cnts (xs.take (j + 1)) := by omega
      have CB : Hid (k + D.cnts (xs.take (j + 1)) ≤ 1125899906842624) := by show _ ≤ _; omega
      have CT := Lib.hid ct
      have cb := CB.out
      simp only [D.cnt, D.cnts, Nat.add_zero] at ct
      obtain ⟨b, off, cs, rfl, hcl2, hrd0, hc⟩ := (RdRow.below H.out (by omega) HB.out).get hget
      have hrd : RdF wr [.int .i64 ((n : Int)), .str (markT (n + 1)), .int .i64 ((n : Int) + 2), .int .i64 ((n : Int) + 3)] cs := by
        have h1 := rd_flat.1 hrd0
        have v0 : IntKind.i64.wrap ((n : Int)) = ((n : Int)) := i64_p _ (by omega) (by omega)
        have v2 : IntKind.i64.wrap ((n : Int) + 2) = ((n : Int) + 2) := i64_p _ (by omega) (by omega)
        have v3 : IntKind.i64.wrap ((n : Int) + 3) = ((n : Int) + 3) := i64_p _ (by omega) (by omega)
        simpa [D.mark, D.marks, D.flat, D.flats, D.top, D.cnt, D.cnts, Nat.add_assoc, Nat.add_comm, Nat.add_left_comm, v0, v2, v3] using h1
      simp only [rdF_cons, rdF_nil, rd_int, rd_bool, rd_str] at hrd
      obtain ⟨q0, s0, rfl, rfl, q1, s1, rfl, rfl, q2, s2, rfl, rfl, q3, s3, rfl, rfl, rfl⟩ := hrd
      have C0 : Hid (∀ w', Below wr.heap.size wr w' → w'.cell? ⟨b, off + j * 4, none⟩ = some (.int .i64 ((n : Int)))) := fun w' hb => (fun h0 : wr.cell? ⟨b, off + j * 4, none⟩ = some (.int .i64 ((n : Int))) => (hb.cell (World.block_lt_of_cell? wr _ h0)).trans h0) (by simpa using hc 0 _ rfl)
      have C1 : Hid (∀ w', Below wr.heap.size wr w' → w'.cell? ⟨b, off + j * 4 + 1, none⟩ = some (.string (markT (n + 1)))) := fun w' hb => (fun h0 : wr.cell? ⟨b, off + j * 4 + 1, none⟩ = some (.string (markT (n + 1))) => (hb.cell (World.block_lt_of_cell? wr _ h0)).trans h0) (by simpa using hc 1 _ rfl)
      have C2 : Hid (∀ w', Below wr.heap.size wr w' → w'.cell? ⟨b, off + j * 4 + 2, none⟩ = some (.int .i64 ((n : Int) + 2))) := fun w' hb => (fun h0 : wr.cell? ⟨b, off + j * 4 + 2, none⟩ = some (.int .i64 ((n : Int) + 2)) => (hb.cell (World.block_lt_of_cell? wr _ h0)).trans h0) (by simpa using hc 2 _ rfl)
      have C3 : Hid (∀ w', Below wr.heap.size wr w' → w'.cell? ⟨b, off + j * 4 + 3, none⟩ = some (.int .i64 ((n : Int) + 3))) := fun w' hb => (fun h0 : wr.cell? ⟨b, off + j * 4 + 3, none⟩ = some (.int .i64 ((n : Int) + 3)) => (hb.cell (World.block_lt_of_cell? wr _ h0)).trans h0) (by simpa using hc 3 _ rfl)
      have W0 := Lib.hid (Below.refl wr.heap.size wr)
      clear hct hcl nb hx hget hrd0 hcl2 hc
      have z0 : World.cell? _ ⟨b, off + j * 4, none⟩ = some (.int .i64 ((n : Int))) := (C0.out _ W0.out).trans (congrArg some (congrArg (Value.int .i64) (by omega)))
      have z1 : World.cell? _ ⟨b, off + j * 4 + 1, none⟩ = some (.string (markT (n + 1))) := (C1.out _ W0.out).trans (congrArg (fun q => some (Value.string (markT q))) (by omega))
      have z2 : World.cell? _ ⟨b, off + j * 4 + 2, none⟩ = some (.int .i64 ((n : Int) + 1 + 1)) := (C2.out _ W0.out).trans (congrArg some (congrArg (Value.int .i64) (by omega)))
      have z3 : World.cell? _ ⟨b, off + j * 4 + 3, none⟩ = some (.int .i64 ((n : Int) + 1 + 1 + 1)) := (C3.out _ W0.out).trans (congrArg some (congrArg (Value.int .i64) (by omega)))
      go_wp2_with fail
      go_region_held3 (fun w' => w'.cell? ⟨b, off + j * 4 + 1, none⟩ = some (.string (markT (n + 1))))
        (first | exact z1 | exact (C1.out _ W1.out).trans (congrArg (fun q => some (Value.string (markT q))) (by omega)))
        (first
          | (go_at_call 64; (with_reducible refine (markText_at _ (n + 1) (by omega) (by omega) _).mono ?_); rintro e y1 ⟨rfl, hb⟩; have W1 := Lib.hid (W0.out.drew.trans (hb.mono W0.out.drew.size)); clear hb))
      clear z0 z1 z2 z3
      have z2 : World.cell? _ ⟨b, off + j * 4 + 2, none⟩ = some (.int .i64 ((n : Int) + 1 + 1)) := (C2.out _ W1.out).trans (congrArg some (congrArg (Value.int .i64) (by omega)))
      have z3 : World.cell? _ ⟨b, off + j * 4 + 3, none⟩ = some (.int .i64 ((n : Int) + 1 + 1 + 1)) := (C3.out _ W1.out).trans (congrArg some (congrArg (Value.int .i64) (by omega)))
      go_wp2_with fail
      go_roundw
      case rel =>
        exact ⟨j + 1, n + 4, by omega, by go_num, by go_num, by omega, Lib.hid (by have h_ := CT.out; simp only [D.cnt, D.cnts, Nat.add_zero] at h_; omega), Lib.hid (HB.out.trans (W1.out.mono HB.out.size))⟩
      case measure => simp [intOf]; omega
    · obtain rfl : j = xs.length := by omega
      have nb := NN.out
      rw [List.take_length] at nb
      have NB := Lib.hid nb
      clear nb
      go_wp2_with fail
      go_ret
      exact ⟨ret_int (by have := NB.out; omega), HB.out⟩

set_option maxRecDepth 100000 in
theorem markLexResult_of (iCode : Int) (iLine : Int) (iCol : Int) (xTokens : List D) (mkTokens : MkO Tryd.prog 27 (D.slice 4 xTokens)) : MkA Tryd.prog 10 (.struct [.int .i64 iCode, .int .i64 iLine, .int .i64 iCol, .slice 4 xTokens]) := by
  intro w cs fp k h hnd hl hk
  obtain ⟨u0, u1, u2, u3, rfl⟩ := cells4 (D.K_len _ h)
  have h0 := D.K_struct.1 h
  have hlt := D.Fields_lt _ h0
  have hb := (Below.refl w.heap.size w).alloc (Nat.le_refl _) (.cells #[u0, u1, u2, u3] 24)
  have hF := D.Fields_below h0 hb
  have BK := Lib.hid (blk_new w (.cells #[u0, u1, u2, u3] 24))
  have T0 := Lib.hid (TouchF.of_below (fp := fp) hb)
  have GN : Hid (w.heap.size ∉ fp) := fun hm => by have := hlt _ hm; omega
  have HL := Lib.hid hl
  have HND := Lib.hid hnd
  have HF := Lib.hid hF
  have TC : Hid (D.tcnt (.struct [.int .i64 iCode, .int .i64 iLine, .int .i64 iCol, .slice 4 xTokens]) = (D.slice 4 xTokens).tcnt) := by show _ = _; simp only [D.tcnt, D.tcnts]; omega
  rw [TC.out] at hk
  clear h h0 hlt hb hF hl hnd
  have MKTokens := Lib.hid mkTokens
  clear mkTokens
  go_enter Tryd.func10, Tryd.ntmps10
  go_wp2_with fail
  obtain ⟨g0, nd0, sub0, kk0, put0⟩ := D.Fields_at (ms := [(D.int .i64 iCode), (D.int .i64 iLine), (D.int .i64 iCol)]) (a := (D.slice 4 xTokens)) (rs := []) (n1 := 3) (n2 := 1) HF.out HND.out (by rfl) (by rfl)
  have CAL := MKTokens.out _ _ g0 (k) kk0 nd0 (fun j hj => T0.out.live j (sub0 j hj) (HL.out j (sub0 j hj))) (by omega)
  refine CAL.mono ?_
  clear CAL
  rintro e w1 ⟨rfl, kn, tn⟩
  have HF := Lib.hid (put0 _ _ tn kn)
  have T0 := Lib.hid (T0.out.trans (tn.mono sub0))
  have BK := Lib.hid (cells_touch BK.out tn (fun hm => GN.out (sub0 _ hm)))
  clear kn tn put0 kk0 nd0 sub0
  go_wp2
  go_ret
  exact ⟨ret_int (by rw [TC.out]; omega), D.K_struct.2 (by simpa only [D.tops, D.top, D.tcnt, D.tcnts, Nat.add_zero, Nat.zero_add, Nat.add_assoc, List.cons_append, List.nil_append] using HF.out), T0.out⟩

set_option maxRecDepth 100000 in
theorem heldLexResult_of (iCode : Int) (iLine : Int) (iCol : Int) (xTokens : List D) (hdTokens : HdO Tryd.prog 28 (D.slice 4 xTokens)) : HdA Tryd.prog 11 (.struct [.int .i64 iCode, .int .i64 iLine, .int .i64 iCol, .slice 4 xTokens]) := by
  intro w cs k h hk
  obtain ⟨u0, u1, u2, u3, rfl⟩ := cells4 (show cs.length = 4 from h.len.trans (by simp only [D.top, D.tops, D.n, D.nAll]))
  have h0 := rd_struct.1 h
  have HB := Lib.hid ((Below.refl w.heap.size w).alloc (Nat.le_refl _) (.cells #[u0, u1, u2, u3] 24))
  have BK := Lib.hid (blk_new w (.cells #[u0, u1, u2, u3] 24))
  have TC : Hid (D.tcnt (.struct [.int .i64 iCode, .int .i64 iLine, .int .i64 iCol, .slice 4 xTokens]) = (D.slice 4 xTokens).tcnt) := by show _ = _; simp only [D.tcnt, D.tcnts]; omega
  rw [TC.out] at hk
  have rTokens := RdF_at (ms := [(D.int .i64 iCode), (D.int .i64 iLine), (D.int .i64 iCol)]) (a := ((D.slice 4 xTokens).top (k))) (rs := []) (n1 := 3) (n2 := 1) (by simpa only [D.tops, D.top, D.tcnt, D.tcnts, Nat.add_zero, Nat.zero_add, Nat.add_assoc, List.cons_append, List.nil_append] using h0) (by rfl) (by rfl)
  have RTokens := Lib.hid rTokens
  have HDTokens := Lib.hid hdTokens
  clear hdTokens rTokens
  clear h h0
  go_enter Tryd.func11, Tryd.ntmps11
  go_wp2_with fail
  have CAL := HDTokens.out _ _ (k) (RTokens.out.below HB.out) (by omega)
  refine CAL.mono ?_
  clear CAL
  rintro e w1 ⟨rfl, hb⟩
  have HB := Lib.hid (HB.out.trans (hb.mono HB.out.size))
  have BK := Lib.hid (blk_below BK.out hb)
  clear hb
  have hng : decide ((((k + (D.slice 4 xTokens).tcnt : Nat)) : Int) < 0) = false := decide_eq_false (by omega)
  go_wp2
  go_ret
  exact ⟨ret_int (by rw [TC.out]; omega), HB.out⟩

end Go.Proofs.YtifmnijdaboenaaDoor
