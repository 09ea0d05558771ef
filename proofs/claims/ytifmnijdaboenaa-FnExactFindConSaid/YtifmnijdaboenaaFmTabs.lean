/- What the laws' helpers that mark and look for marks do with []string,[]ConInfo,[]DataInfo,[]MethodInfo,[]ClassInfo,[]InstInfo,Tables,ConInfo,InstInfo; no condition. -/
import Derived.Test.YtifmnijdaboenaaMkT
import Derived.Test.YtifmnijdaboenaaHf
import Derived.Test.YtifmnijdaboenaaFmTyS
import Derived.Test.YtifmnijdaboenaaFmPred
import Derived.Test.YtifmnijdaboenaaProg
import Derived.Deep.RegionHeld3
namespace Go.Proofs.Ytifmnijdaboenaa
open Go.RowKit
set_option linter.unusedVariables false
set_option linter.unusedSimpArgs false

theorem n_StringS {xs : List D} (ih : ∀ x ∈ xs, ∃ (sX : ByteArray), x = (.str sX : D)) : ∀ x ∈ xs, x.n = 1 := fun x hx => by
  obtain ⟨sX, rfl⟩ := ih x hx
  rfl
theorem n'_StringS {xs : List D} (ih : ∀ x ∈ xs, ∃ (sX : ByteArray), x = (.str sX : D)) : ∀ x ∈ xs, x.n = 1 := fun x hx => by
  obtain ⟨sX, rfl⟩ := ih x hx
  rfl
set_option maxRecDepth 100000 in
set_option maxHeartbeats 2000000 in
theorem markStringS_of (xs : List D) (hn : xs.length ≤ 140737488351232) (ih : ∀ x ∈ xs, ∃ (sX : ByteArray), x = (.str sX : D)) : MkO Try.prog 38 (.slice 1 xs) := by
  intro w v fp k h hnd hl hk
  simp only [D.K] at h
  obtain ⟨A, c, he, h2, h3, h4⟩ := h
  obtain rfl : v = .slice A xs.length c := by simpa using he
  simp only [D.tcnt] at hk ⊢
  have hsz := n_StringS ih
  rcases h4 with ⟨rfl, rfl⟩ | ⟨b, off, f, rfl, h6, rfl, h8⟩
  · clear he hsz ih
    go_enter Try.func38, Try.ntmps38
    go_wp2_with fail
    go_loop [1, 5] (fun q i => i = .int .i64 0 ∧ q = .int .i64 k) (fun _ _ => 0)
    case atStart => exact ⟨rfl, rfl⟩
    case round =>
      obtain ⟨rfl, rfl⟩ := hrel
      go_wp2_with fail
      go_ret
      exact ⟨by first | rfl | exact ret_int (by simp [D.cnts]), by simp only [D.top, D.marks, D.K]; exact ⟨A, c, rfl, h2, h3, .inl ⟨True.intro, True.intro⟩⟩, TouchF.refl _ _⟩
  · rw [D.Row_flats hsz] at h8
    have IH := Lib.hid ih
    have HSZ := Lib.hid hsz
    have HL := Lib.hid hl
    have HN := Lib.hid hnd
    have H8 := Lib.hid h8
    have H2 := Lib.hid h2
    have H3 := Lib.hid h3
    have HB := Lib.hid (List.nodup_cons.1 hnd).1
    clear he ih hl hnd h8 h2 h3 hsz
    go_enter Try.func38, Try.ntmps38
    go_wp2_with fail
    go_loopw [1, 5] (fun q i wr => ∃ j n : Nat, j ≤ xs.length ∧ i = .int .i64 j ∧ q = .int .i64 n ∧ n ≤ 1125899906842624 ∧ Hid (n = k + D.cnts (xs.take j)) ∧ Hid (D.Row wr b off 1 (D.flats (D.marks (xs.take j) k) ++ D.flats (xs.drop j)) f ∧ TouchF (b :: f) w wr)) (fun _ i _ => xs.length - (intOf i).toNat)
    case atStart => exact ⟨0, k, Nat.zero_le _, rfl, rfl, by omega, Lib.hid (by simp [D.cnts]), Lib.hid ⟨by simpa [D.marks, D.flats] using H8.out, TouchF.refl _ _⟩⟩
    case round =>
      obtain ⟨j, n, hj, rfl, rfl, hnb, hnn, hrel⟩ := hrel
      obtain ⟨row0, ht⟩ := hrel.out
      have NN := Lib.hid hnn.out
      clear hrel hnn
      by_cases hlt : j < xs.length
      · obtain ⟨sX, hx⟩ := IH.out _ (List.getElem_mem hlt)
        have hlen := marks_len HSZ.out k j hj
        rw [marks_at hlt, hx] at row0
        have hct := cnt_take hlt
        have hcl := cnts_take_le xs (j + 1)
        have hmn := marks_next hlt k
        rw [hx] at hct hmn
        have nb := NN.out
        rw [← nb] at hmn
        have CT : Hid (n + (.str sX : D).cnt = k + D.cnts (xs.take (j + 1))) := by show _ = _; omega
        have CB : Hid (k + D.cnts (xs.take (j + 1)) ≤ 1125899906842624) := by show _ ≤ _; omega
        have MN := Lib.hid hmn
        generalize hM : D.flats (D.marks (xs.take j) k) = M at row0 hlen
        generalize hR : D.flats (xs.drop (j + 1)) = R at row0
        have HLEN := Lib.hid hlen
        have HM := Lib.hid hM
        have HR := Lib.hid hR
        simp only [D.flat, D.flats, List.cons_append, List.nil_append, List.append_assoc] at row0
        have T0 := Lib.hid ht
        have cb := CB.out
        have ct := CT.out
        simp only [D.cnt, D.cnts, Nat.add_zero] at ct
        have ROW0 := Lib.hid row0
        clear hlen hct hcl hmn nb ht hM hR hx
        go_wp2_with (first
          | (go_at_call 100; (with_reducible refine (markText_at _ (n) (by omega) (by omega) _).mono ?_); rintro e y0 ⟨rfl, hb⟩; have ROW1 := Lib.hid (row_below ROW0.out hb); have T1 := Lib.hid (T0.out.trans (TouchF.of_below hb)); clear hb)
          | (refine wpl_leaf_str rfl _ _ _ rfl (b := b) (off := off) (fp := f) (rs := (R)) (m := sX) (ms := (M ++ [])) (p := off + j) rfl rfl (by kernel_rfl) (by have h_ := HLEN.out; simp only [List.length_append, List.length_cons, List.length_nil]; omega) (row := (by simpa using ROW1.out)) HB.out (Row_live T1.out (HL.out b (by simp))) ?_; intro x0 row ht; have ROW2 := Lib.hid row; have T2 := Lib.hid (T1.out.trans ht); clear ROW1; clear row ht))
        go_roundw
        case rel =>
          refine ⟨j + 1, n + 1, by omega, by go_num, by go_num, by omega, Lib.hid (by have h_ := CT.out; simp only [D.cnt, D.cnts, Nat.add_zero] at h_; omega), Lib.hid ⟨?_, T2.out⟩⟩
          rw [← MN_eq MN.out HM.out HR.out]
          have hr := ROW2.out
          simpa [D.mark, D.marks, D.flat, D.flats, D.top, D.cnt, D.cnts, Nat.add_assoc] using hr
        case measure => simp [intOf]; omega
      · obtain rfl : j = xs.length := by omega
        rw [List.drop_length, D.flats, List.append_nil, List.take_length] at row0
        have ROW := Lib.hid ((D.Row_flats (D.marks_mem_n HSZ.out k)).2 row0)
        have HT := Lib.hid ht
        have nb := NN.out
        rw [List.take_length] at nb
        have NB := Lib.hid nb
        clear row0 ht nb
        go_wp2_with fail
        go_ret
        exact ⟨ret_int (by have := NB.out; omega), by simp only [D.top, D.K]; exact ⟨_, c, by rw [D.marks_length], by rw [D.marks_length]; exact H2.out, H3.out, .inr ⟨b, off, f, rfl, Nat.lt_of_lt_of_le h6 HT.out.size, rfl, ROW.out⟩⟩, HT.out⟩
set_option maxRecDepth 100000 in
set_option maxHeartbeats 2000000 in
theorem heldStringS_of (xs : List D) (hn : xs.length ≤ 140737488351232) (ih : ∀ x ∈ xs, ∃ (sX : ByteArray), x = (.str sX : D)) : HdO Try.prog 39 (.slice 1 xs) := by
  intro w v k h hk
  simp only [D.top] at h
  obtain ⟨A, c, rfl, _, _, hrow⟩ := rd_slice1 h
  simp only [D.tcnt] at hk ⊢
  rw [D.marks_length]
  have IH := Lib.hid ih
  have H := Lib.hid hrow
  clear ih h hrow
  go_enter Try.func39, Try.ntmps39
  go_wp2_with fail
  go_loopw [1, 5] (fun q i wr => ∃ j n : Nat, j ≤ xs.length ∧ i = .int .i64 j ∧ q = .int .i64 n ∧ n ≤ 1125899906842624 ∧ Hid (n = k + D.cnts (xs.take j)) ∧ Hid (Below w.heap.size w wr)) (fun _ i _ => xs.length - (intOf i).toNat)
  case atStart => exact ⟨0, k, Nat.zero_le _, rfl, rfl, by omega, Lib.hid (by simp [D.cnts]), Lib.hid (Below.refl _ _)⟩
  case round =>
    obtain ⟨j, n, hj, rfl, rfl, hnb, hnn, hrel⟩ := hrel
    have HB := Lib.hid hrel.out
    have NN := Lib.hid hnn.out
    clear hrel hnn
    by_cases hlt : j < xs.length
    · obtain ⟨sX, hx⟩ := IH.out _ (List.getElem_mem hlt)
      have hget := marks_get hlt k
      have hct := cnt_take hlt
      have hcl := cnts_take_le xs (j + 1)
      have nb := NN.out
      rw [← nb, hx] at hget
      rw [hx] at hct
      have ct : n + (.str sX : D).cnt = k + D.cnts (xs.take (j + 1)) := by omega
      have CB : Hid (k + D.cnts (xs.take (j + 1)) ≤ 1125899906842624) := by show _ ≤ _; omega
      have CT := Lib.hid ct
      have cb := CB.out
      simp only [D.cnt, D.cnts, Nat.add_zero] at ct
      obtain ⟨b, off, cs, rfl, hcl2, hrd0, hc⟩ := (RdRow.below H.out (by omega) HB.out).get hget
      have hrd : RdF wr [.str (markT (n))] cs := by
        have h1 := rd_flat.1 hrd0
        simpa [D.mark, D.marks, D.flat, D.flats, D.top, D.cnt, D.cnts, Nat.add_assoc, Nat.add_comm, Nat.add_left_comm] using h1
      simp only [rdF_cons, rdF_nil, rd_int, rd_bool, rd_str] at hrd
      obtain ⟨q0, s0, rfl, rfl, rfl⟩ := hrd
      have C0 : Hid (∀ w', Below wr.heap.size wr w' → w'.cell? ⟨b, off + j, none⟩ = some (.string (markT (n)))) := fun w' hb => (fun h0 : wr.cell? ⟨b, off + j, none⟩ = some (.string (markT (n))) => (hb.cell (World.block_lt_of_cell? wr _ h0)).trans h0) (by simpa using hc 0 _ rfl)
      have W0 := Lib.hid (Below.refl wr.heap.size wr)
      clear hct hcl nb hx hget hrd0 hcl2 hc
      have z0 : World.cell? _ ⟨b, off + j, none⟩ = some (.string (markT (n))) := (C0.out _ W0.out).trans (congrArg (fun q => some (Value.string (markT q))) (by omega))
      go_wp2_with fail
      go_region_held3 (fun w' => w'.cell? ⟨b, off + j, none⟩ = some (.string (markT (n))))
        (first | exact z0 | exact (C0.out _ W1.out).trans (congrArg (fun q => some (Value.string (markT q))) (by omega)))
        (first
          | (go_at_call 100; (with_reducible refine (markText_at _ (n) (by omega) (by omega) _).mono ?_); rintro e y0 ⟨rfl, hb⟩; have W1 := Lib.hid (W0.out.drew.trans (hb.mono W0.out.drew.size)); clear hb))
      clear z0
      go_wp2_with fail
      go_roundw
      case rel =>
        exact ⟨j + 1, n + 1, by omega, by go_num, by go_num, by omega, Lib.hid (by have h_ := CT.out; simp only [D.cnt, D.cnts, Nat.add_zero] at h_; omega), Lib.hid (HB.out.trans (W1.out.mono HB.out.size))⟩
      case measure => simp [intOf]; omega
    · obtain rfl : j = xs.length := by omega
      have nb := NN.out
      rw [List.take_length] at nb
      have NB := Lib.hid nb
      clear nb
      go_wp2_with fail
      go_ret
      exact ⟨ret_int (by have := NB.out; omega), HB.out⟩

theorem n_ConInfoS {xs : List D} (ih : ∀ x ∈ xs, ∃ (sName : ByteArray) (sData : ByteArray) (iTag : Int) (iVars : Int) (xFields : List D), x = (.struct [.str sName, .str sData, .int .i64 iTag, .int .i64 iVars, .slice 4 xFields] : D) ∧ MkO Try.prog 93 (D.slice 4 xFields)) : ∀ x ∈ xs, x.n = 5 := fun x hx => by
  obtain ⟨sName, sData, iTag, iVars, xFields, rfl, _⟩ := ih x hx
  rfl
theorem n'_ConInfoS {xs : List D} (ih : ∀ x ∈ xs, ∃ (sName : ByteArray) (sData : ByteArray) (iTag : Int) (iVars : Int) (xFields : List D), x = (.struct [.str sName, .str sData, .int .i64 iTag, .int .i64 iVars, .slice 4 xFields] : D) ∧ HdO Try.prog 94 (D.slice 4 xFields)) : ∀ x ∈ xs, x.n = 5 := fun x hx => by
  obtain ⟨sName, sData, iTag, iVars, xFields, rfl, _⟩ := ih x hx
  rfl
set_option maxRecDepth 100000 in
set_option maxHeartbeats 2000000 in
theorem markConInfoS_of (xs : List D) (hn : xs.length ≤ 140737488351232) (ih : ∀ x ∈ xs, ∃ (sName : ByteArray) (sData : ByteArray) (iTag : Int) (iVars : Int) (xFields : List D), x = (.struct [.str sName, .str sData, .int .i64 iTag, .int .i64 iVars, .slice 4 xFields] : D) ∧ MkO Try.prog 93 (D.slice 4 xFields)) : MkO Try.prog 67 (.slice 5 xs) := by
  intro w v fp k h hnd hl hk
  simp only [D.K] at h
  obtain ⟨A, c, he, h2, h3, h4⟩ := h
  obtain rfl : v = .slice A xs.length c := by simpa using he
  simp only [D.tcnt] at hk ⊢
  have hsz := n_ConInfoS ih
  rcases h4 with ⟨rfl, rfl⟩ | ⟨b, off, f, rfl, h6, rfl, h8⟩
  · clear he hsz ih
    go_enter Try.func67, Try.ntmps67
    go_wp2_with fail
    go_loop [1, 5] (fun q i => i = .int .i64 0 ∧ q = .int .i64 k) (fun _ _ => 0)
    case atStart => exact ⟨rfl, rfl⟩
    case round =>
      obtain ⟨rfl, rfl⟩ := hrel
      go_wp2_with fail
      go_ret
      exact ⟨by first | rfl | exact ret_int (by simp [D.cnts]), by simp only [D.top, D.marks, D.K]; exact ⟨A, c, rfl, h2, h3, .inl ⟨True.intro, True.intro⟩⟩, TouchF.refl _ _⟩
  · rw [D.Row_flats hsz] at h8
    have IH := Lib.hid ih
    have HSZ := Lib.hid hsz
    have HL := Lib.hid hl
    have HN := Lib.hid hnd
    have H8 := Lib.hid h8
    have H2 := Lib.hid h2
    have H3 := Lib.hid h3
    have HB := Lib.hid (List.nodup_cons.1 hnd).1
    clear he ih hl hnd h8 h2 h3 hsz
    go_enter Try.func67, Try.ntmps67
    go_wp2_with fail
    go_loopw [1, 5] (fun q i wr => ∃ j n : Nat, j ≤ xs.length ∧ i = .int .i64 j ∧ q = .int .i64 n ∧ n ≤ 1125899906842624 ∧ Hid (n = k + D.cnts (xs.take j)) ∧ Hid (D.Row wr b off 1 (D.flats (D.marks (xs.take j) k) ++ D.flats (xs.drop j)) f ∧ TouchF (b :: f) w wr)) (fun _ i _ => xs.length - (intOf i).toNat)
    case atStart => exact ⟨0, k, Nat.zero_le _, rfl, rfl, by omega, Lib.hid (by simp [D.cnts]), Lib.hid ⟨by simpa [D.marks, D.flats] using H8.out, TouchF.refl _ _⟩⟩
    case round =>
      obtain ⟨j, n, hj, rfl, rfl, hnb, hnn, hrel⟩ := hrel
      obtain ⟨row0, ht⟩ := hrel.out
      have NN := Lib.hid hnn.out
      clear hrel hnn
      by_cases hlt : j < xs.length
      · obtain ⟨sName, sData, iTag, iVars, xFields, hx, m0⟩ := IH.out _ (List.getElem_mem hlt)
        have hlen := marks_len HSZ.out k j hj
        rw [marks_at hlt, hx] at row0
        have hct := cnt_take hlt
        have hcl := cnts_take_le xs (j + 1)
        have hmn := marks_next hlt k
        rw [hx] at hct hmn
        have nb := NN.out
        rw [← nb] at hmn
        have CT : Hid (n + (.struct [.str sName, .str sData, .int .i64 iTag, .int .i64 iVars, .slice 4 xFields] : D).cnt = k + D.cnts (xs.take (j + 1))) := by show _ = _; omega
        have CB : Hid (k + D.cnts (xs.take (j + 1)) ≤ 1125899906842624) := by show _ ≤ _; omega
        have MN := Lib.hid hmn
        generalize hM : D.flats (D.marks (xs.take j) k) = M at row0 hlen
        generalize hR : D.flats (xs.drop (j + 1)) = R at row0
        have HLEN := Lib.hid hlen
        have HM := Lib.hid hM
        have HR := Lib.hid hR
        simp only [D.flat, D.flats, List.cons_append, List.nil_append, List.append_assoc] at row0
        have T0 := Lib.hid ht
        have cb := CB.out
        have ct := CT.out
        simp only [D.cnt, D.cnts, Nat.add_zero] at ct
        have ROW0 := Lib.hid row0
        clear hlen hct hcl hmn nb ht hM hR hx
        go_wp2_with (first
          | (go_at_call 100; (with_reducible refine (markText_at _ (n) (by omega) (by omega) _).mono ?_); rintro e y0 ⟨rfl, hb⟩; have ROW1 := Lib.hid (row_below ROW0.out hb); have T1 := Lib.hid (T0.out.trans (TouchF.of_below hb)); clear hb)
          | (refine wpl_leaf_str rfl _ _ _ rfl (b := b) (off := off) (fp := f) (rs := ((D.str sData) :: (D.int .i64 iTag) :: (D.int .i64 iVars) :: (D.slice 4 xFields) :: R)) (m := sName) (ms := (M ++ [])) (p := off + j * 5) rfl rfl (by kernel_rfl) (by have h_ := HLEN.out; simp only [List.length_append, List.length_cons, List.length_nil]; omega) (row := (by simpa using ROW1.out)) HB.out (Row_live T1.out (HL.out b (by simp))) ?_; intro x0 row ht; have ROW2 := Lib.hid row; have T2 := Lib.hid (T1.out.trans ht); clear ROW1; clear row ht)
          | (go_at_call 100; (with_reducible refine (markText_at _ (n + 1) (by omega) (by omega) _).mono ?_); rintro e y1 ⟨rfl, hb⟩; have ROW3 := Lib.hid (row_below ROW2.out hb); have T3 := Lib.hid (T2.out.trans (TouchF.of_below hb)); clear hb)
          | (refine wpl_leaf_str rfl _ _ _ rfl (b := b) (off := off) (fp := f) (rs := ((D.int .i64 iTag) :: (D.int .i64 iVars) :: (D.slice 4 xFields) :: R)) (m := sData) (ms := (M ++ [(.str (markT (n)))])) (p := off + j * 5 + 1) rfl rfl (by kernel_rfl) (by have h_ := HLEN.out; simp only [List.length_append, List.length_cons, List.length_nil]; omega) (row := (by simpa using ROW3.out)) HB.out (Row_live T3.out (HL.out b (by simp))) ?_; intro x1 row ht; have ROW4 := Lib.hid row; have T4 := Lib.hid (T3.out.trans ht); clear ROW3; clear row ht)
          | (refine wpl_leaf_int rfl _ _ _ rfl (b := b) (off := off) (fp := f) (rs := ((D.int .i64 iVars) :: (D.slice 4 xFields) :: R)) (m := iTag) (ms := (M ++ [(.str (markT (n))), (.str (markT (n + 1)))])) (p := off + j * 5 + 2) rfl rfl (by kernel_rfl) (by have h_ := HLEN.out; simp only [List.length_append, List.length_cons, List.length_nil]; omega) (row := (by simpa using ROW4.out)) HB.out (Row_live T4.out (HL.out b (by simp))) ?_; intro x2 row ht; have ROW5 := Lib.hid row; have T5 := Lib.hid (T4.out.trans ht); clear ROW4; clear row ht)
          | (refine wpl_leaf_int rfl _ _ _ rfl (b := b) (off := off) (fp := f) (rs := ((D.slice 4 xFields) :: R)) (m := iVars) (ms := (M ++ [(.str (markT (n))), (.str (markT (n + 1))), (.int .i64 ((n : Int) + 1 + 1))])) (p := off + j * 5 + 3) rfl rfl (by kernel_rfl) (by have h_ := HLEN.out; simp only [List.length_append, List.length_cons, List.length_nil]; omega) (row := (by simpa using ROW5.out)) HB.out (Row_live T5.out (HL.out b (by simp))) ?_; intro x3 row ht; have ROW6 := Lib.hid row; have T6 := Lib.hid (T5.out.trans ht); clear ROW5; clear row ht; obtain ⟨A4, c4, z4⟩ := row_slice (b := b) (off := off) (fp := f) (xs := xFields) (sz := 4) (rs := (R)) (ms := (M ++ [(.str (markT (n))), (.str (markT (n + 1))), (.int .i64 ((n : Int) + 1 + 1)), (.int .i64 ((n : Int) + 1 + 1 + 1))])) (by simpa using ROW6.out) (p := off + j * 5 + 4) (by have h_ := HLEN.out; simp only [List.length_append, List.length_cons, List.length_nil]; omega))
          | (go_at_call 93; obtain ⟨f2, hk2, hnd2, hsub2, put2⟩ := D.Row_call' (a := (D.slice 4 xFields)) (b := b) (off := off) (fp := f) (rs := (R)) (ms := (M ++ [(.str (markT (n))), (.str (markT (n + 1))), (.int .i64 ((n : Int) + 1 + 1)), (.int .i64 ((n : Int) + 1 + 1 + 1))])) (by simpa using ROW6.out) HN.out (p := off + j * 5 + 4) (by have h_ := HLEN.out; simp only [List.length_append, List.length_cons, List.length_nil]; omega) z4; (with_reducible refine (m0.atz _ (n + 4) (by omega) hk2 hnd2 (fun q hq => T6.out.live q (by simp [hsub2 q hq]) (HL.out q (by simp [hsub2 q hq]))) (by simp only [D.tcnt]; omega)).mono ?_); rintro e y4 ⟨n1, hn1, rfl, hk3, ht3⟩; simp only [D.tcnt] at hn1; have row := put2 _ _ hk3 ht3; have ht := ht3.mono (fun q hq => List.mem_cons_of_mem b (hsub2 q hq)); have ROW7 := Lib.hid row; have T7 := Lib.hid (T6.out.trans ht); clear ROW6; have N1 := Lib.hid hn1; have nb1 : n1 + 0 ≤ 1125899906842624 := (by omega); clear row ht hk2 hnd2 hsub2 put2 hk3 ht3 hn1))
        go_roundw
        case rel =>
          have e1 := N1.out; refine ⟨j + 1, n1, by omega, by go_num, by go_num, by omega, Lib.hid (by have h_ := CT.out; simp only [D.cnt, D.cnts, Nat.add_zero] at h_; omega), Lib.hid ⟨?_, T7.out⟩⟩
          rw [← MN_eq MN.out HM.out HR.out]
          have hr := ROW7.out
          have v0 : IntKind.i64.wrap (((n : Int) + 2)) = (n : Int) + 1 + 1 := i64_p _ (by omega) (by omega)
          have v1 : IntKind.i64.wrap (((n : Int) + 3)) = (n : Int) + 1 + 1 + 1 := i64_p _ (by omega) (by omega)
          simpa [D.mark, D.marks, D.flat, D.flats, D.top, D.cnt, D.cnts, Nat.add_assoc, v0, v1] using hr
        case measure => simp [intOf]; omega
      · obtain rfl : j = xs.length := by omega
        rw [List.drop_length, D.flats, List.append_nil, List.take_length] at row0
        have ROW := Lib.hid ((D.Row_flats (D.marks_mem_n HSZ.out k)).2 row0)
        have HT := Lib.hid ht
        have nb := NN.out
        rw [List.take_length] at nb
        have NB := Lib.hid nb
        clear row0 ht nb
        go_wp2_with fail
        go_ret
        exact ⟨ret_int (by have := NB.out; omega), by simp only [D.top, D.K]; exact ⟨_, c, by rw [D.marks_length], by rw [D.marks_length]; exact H2.out, H3.out, .inr ⟨b, off, f, rfl, Nat.lt_of_lt_of_le h6 HT.out.size, rfl, ROW.out⟩⟩, HT.out⟩
set_option maxRecDepth 100000 in
set_option maxHeartbeats 2000000 in
theorem heldConInfoS_of (xs : List D) (hn : xs.length ≤ 140737488351232) (ih : ∀ x ∈ xs, ∃ (sName : ByteArray) (sData : ByteArray) (iTag : Int) (iVars : Int) (xFields : List D), x = (.struct [.str sName, .str sData, .int .i64 iTag, .int .i64 iVars, .slice 4 xFields] : D) ∧ HdO Try.prog 94 (D.slice 4 xFields)) : HdO Try.prog 72 (.slice 5 xs) := by
  intro w v k h hk
  simp only [D.top] at h
  obtain ⟨A, c, rfl, _, _, hrow⟩ := rd_slice1 h
  simp only [D.tcnt] at hk ⊢
  rw [D.marks_length]
  have IH := Lib.hid ih
  have H := Lib.hid hrow
  clear ih h hrow
  go_enter Try.func72, Try.ntmps72
  go_wp2_with fail
  go_loopw [1, 5] (fun q i wr => ∃ j n : Nat, j ≤ xs.length ∧ i = .int .i64 j ∧ q = .int .i64 n ∧ n ≤ 1125899906842624 ∧ Hid (n = k + D.cnts (xs.take j)) ∧ Hid (Below w.heap.size w wr)) (fun _ i _ => xs.length - (intOf i).toNat)
  case atStart => exact ⟨0, k, Nat.zero_le _, rfl, rfl, by omega, Lib.hid (by simp [D.cnts]), Lib.hid (Below.refl _ _)⟩
  case round =>
    obtain ⟨j, n, hj, rfl, rfl, hnb, hnn, hrel⟩ := hrel
    have HB := Lib.hid hrel.out
    have NN := Lib.hid hnn.out
    clear hrel hnn
    by_cases hlt : j < xs.length
    · obtain ⟨sName, sData, iTag, iVars, xFields, hx, m0⟩ := IH.out _ (List.getElem_mem hlt)
      have hget := marks_get hlt k
      have hct := cnt_take hlt
      have hcl := cnts_take_le xs (j + 1)
      have nb := NN.out
      rw [← nb, hx] at hget
      rw [hx] at hct
      have ct : n + (.struct [.str sName, .str sData, .int .i64 iTag, .int .i64 iVars, .slice 4 xFields] : D).cnt = k + D.cnts (xs.take (j + 1)) := by omega
      have CB : Hid (k + D.cnts (xs.take (j + 1)) ≤ 1125899906842624) := by show _ ≤ _; omega
      have CT := Lib.hid ct
      have cb := CB.out
      simp only [D.cnt, D.cnts, Nat.add_zero] at ct
      obtain ⟨b, off, cs, rfl, hcl2, hrd0, hc⟩ := (RdRow.below H.out (by omega) HB.out).get hget
      have hrd : RdF wr [.str (markT (n)), .str (markT (n + 1)), .int .i64 ((n : Int) + 2), .int .i64 ((n : Int) + 3), (D.slice 4 xFields).top (n + 4)] cs := by
        have h1 := rd_flat.1 hrd0
        have v2 : IntKind.i64.wrap ((n : Int) + 2) = ((n : Int) + 2) := i64_p _ (by omega) (by omega)
        have v3 : IntKind.i64.wrap ((n : Int) + 3) = ((n : Int) + 3) := i64_p _ (by omega) (by omega)
        simpa [D.mark, D.marks, D.flat, D.flats, D.top, D.cnt, D.cnts, Nat.add_assoc, Nat.add_comm, Nat.add_left_comm, v2, v3] using h1
      simp only [rdF_cons, rdF_nil, rd_int, rd_bool, rd_str] at hrd
      obtain ⟨q0, s0, rfl, rfl, q1, s1, rfl, rfl, q2, s2, rfl, rfl, q3, s3, rfl, rfl, q4, s4, rfl, r4, rfl⟩ := hrd
      obtain ⟨A4, c4, rfl⟩ := rd_top_slice r4
      have R4 := Lib.hid r4
      have C0 : Hid (∀ w', Below wr.heap.size wr w' → w'.cell? ⟨b, off + j * 5, none⟩ = some (.string (markT (n)))) := fun w' hb => (fun h0 : wr.cell? ⟨b, off + j * 5, none⟩ = some (.string (markT (n))) => (hb.cell (World.block_lt_of_cell? wr _ h0)).trans h0) (by simpa using hc 0 _ rfl)
      have C1 : Hid (∀ w', Below wr.heap.size wr w' → w'.cell? ⟨b, off + j * 5 + 1, none⟩ = some (.string (markT (n + 1)))) := fun w' hb => (fun h0 : wr.cell? ⟨b, off + j * 5 + 1, none⟩ = some (.string (markT (n + 1))) => (hb.cell (World.block_lt_of_cell? wr _ h0)).trans h0) (by simpa using hc 1 _ rfl)
      have C2 : Hid (∀ w', Below wr.heap.size wr w' → w'.cell? ⟨b, off + j * 5 + 2, none⟩ = some (.int .i64 ((n : Int) + 2))) := fun w' hb => (fun h0 : wr.cell? ⟨b, off + j * 5 + 2, none⟩ = some (.int .i64 ((n : Int) + 2)) => (hb.cell (World.block_lt_of_cell? wr _ h0)).trans h0) (by simpa using hc 2 _ rfl)
      have C3 : Hid (∀ w', Below wr.heap.size wr w' → w'.cell? ⟨b, off + j * 5 + 3, none⟩ = some (.int .i64 ((n : Int) + 3))) := fun w' hb => (fun h0 : wr.cell? ⟨b, off + j * 5 + 3, none⟩ = some (.int .i64 ((n : Int) + 3)) => (hb.cell (World.block_lt_of_cell? wr _ h0)).trans h0) (by simpa using hc 3 _ rfl)
      have C4 : Hid (∀ w', Below wr.heap.size wr w' → w'.cell? ⟨b, off + j * 5 + 4, none⟩ = some (.slice A4 xFields.length c4)) := fun w' hb => (fun h0 : wr.cell? ⟨b, off + j * 5 + 4, none⟩ = some (.slice A4 xFields.length c4) => (hb.cell (World.block_lt_of_cell? wr _ h0)).trans h0) (by simpa using hc 4 _ rfl)
      have W0 := Lib.hid (Below.refl wr.heap.size wr)
      clear hct hcl nb hx hget hrd0 hcl2 hc r4
      have z0 : World.cell? _ ⟨b, off + j * 5, none⟩ = some (.string (markT (n))) := (C0.out _ W0.out).trans (congrArg (fun q => some (Value.string (markT q))) (by omega))
      have z1 : World.cell? _ ⟨b, off + j * 5 + 1, none⟩ = some (.string (markT (n + 1))) := (C1.out _ W0.out).trans (congrArg (fun q => some (Value.string (markT q))) (by omega))
      have z2 : World.cell? _ ⟨b, off + j * 5 + 2, none⟩ = some (.int .i64 ((n : Int) + 1 + 1)) := (C2.out _ W0.out).trans (congrArg some (congrArg (Value.int .i64) (by omega)))
      have z3 : World.cell? _ ⟨b, off + j * 5 + 3, none⟩ = some (.int .i64 ((n : Int) + 1 + 1 + 1)) := (C3.out _ W0.out).trans (congrArg some (congrArg (Value.int .i64) (by omega)))
      have z4 := C4.out _ W0.out
      go_wp2_with fail
      go_region_held3 (fun w' => w'.cell? ⟨b, off + j * 5, none⟩ = some (.string (markT (n))))
        (first | exact z0 | exact (C0.out _ W1.out).trans (congrArg (fun q => some (Value.string (markT q))) (by omega)))
        (first
          | (go_at_call 100; (with_reducible refine (markText_at _ (n) (by omega) (by omega) _).mono ?_); rintro e y0 ⟨rfl, hb⟩; have W1 := Lib.hid (W0.out.drew.trans (hb.mono W0.out.drew.size)); clear hb))
      clear z0 z1 z2 z3 z4
      have z1 : World.cell? _ ⟨b, off + j * 5 + 1, none⟩ = some (.string (markT (n + 1))) := (C1.out _ W1.out).trans (congrArg (fun q => some (Value.string (markT q))) (by omega))
      have z2 : World.cell? _ ⟨b, off + j * 5 + 2, none⟩ = some (.int .i64 ((n : Int) + 1 + 1)) := (C2.out _ W1.out).trans (congrArg some (congrArg (Value.int .i64) (by omega)))
      have z3 : World.cell? _ ⟨b, off + j * 5 + 3, none⟩ = some (.int .i64 ((n : Int) + 1 + 1 + 1)) := (C3.out _ W1.out).trans (congrArg some (congrArg (Value.int .i64) (by omega)))
      have z4 := C4.out _ W1.out
      go_wp2_with fail
      go_region_held3 (fun w' => w'.cell? ⟨b, off + j * 5 + 1, none⟩ = some (.string (markT (n + 1))))
        (first | exact z1 | exact (C1.out _ W2.out).trans (congrArg (fun q => some (Value.string (markT q))) (by omega)))
        (first
          | (go_at_call 100; (with_reducible refine (markText_at _ (n + 1) (by omega) (by omega) _).mono ?_); rintro e y1 ⟨rfl, hb⟩; have W2 := Lib.hid (W1.out.drew.trans (hb.mono W1.out.drew.size)); clear hb))
      clear z1 z2 z3 z4
      have z2 : World.cell? _ ⟨b, off + j * 5 + 2, none⟩ = some (.int .i64 ((n : Int) + 1 + 1)) := (C2.out _ W2.out).trans (congrArg some (congrArg (Value.int .i64) (by omega)))
      have z3 : World.cell? _ ⟨b, off + j * 5 + 3, none⟩ = some (.int .i64 ((n : Int) + 1 + 1 + 1)) := (C3.out _ W2.out).trans (congrArg some (congrArg (Value.int .i64) (by omega)))
      have z4 := C4.out _ W2.out
      go_wp2_with (first | (go_at_call 94; (with_reducible refine (m0.atz _ (n + 4) (by omega) ((rd_cong R4.out (by omega)).below W2.out) (by simp only [D.tcnt]; omega)).mono ?_); rintro e y4 ⟨n1, hn1, rfl, hb⟩; have W3 := Lib.hid (W2.out.trans (hb.mono W2.out.size)); simp only [D.tcnt] at hn1; have nb1 : n1 ≤ 1125899906842624 := (by omega); have hng1 : decide ((n1 : Int) < 0) = false := decide_eq_false (by omega); have N1 := Lib.hid hn1; clear hb; clear z2 z3 z4))
      go_roundw
      case rel =>
        have e1 := N1.out; exact ⟨j + 1, n1, by omega, by go_num, by go_num, by omega, Lib.hid (by have h_ := CT.out; simp only [D.cnt, D.cnts, Nat.add_zero] at h_; omega), Lib.hid (HB.out.trans (W3.out.mono HB.out.size))⟩
      case measure => simp [intOf]; omega
    · obtain rfl : j = xs.length := by omega
      have nb := NN.out
      rw [List.take_length] at nb
      have NB := Lib.hid nb
      clear nb
      go_wp2_with fail
      go_ret
      exact ⟨ret_int (by have := NB.out; omega), HB.out⟩

theorem n_DataInfoS {xs : List D} (ih : ∀ x ∈ xs, ∃ (sName : ByteArray) (iVars : Int) (xCons : List D), x = (.struct [.str sName, .int .i64 iVars, .slice 1 xCons] : D) ∧ MkO Try.prog 38 (D.slice 1 xCons)) : ∀ x ∈ xs, x.n = 3 := fun x hx => by
  obtain ⟨sName, iVars, xCons, rfl, _⟩ := ih x hx
  rfl
theorem n'_DataInfoS {xs : List D} (ih : ∀ x ∈ xs, ∃ (sName : ByteArray) (iVars : Int) (xCons : List D), x = (.struct [.str sName, .int .i64 iVars, .slice 1 xCons] : D) ∧ HdO Try.prog 39 (D.slice 1 xCons)) : ∀ x ∈ xs, x.n = 3 := fun x hx => by
  obtain ⟨sName, iVars, xCons, rfl, _⟩ := ih x hx
  rfl
set_option maxRecDepth 100000 in
set_option maxHeartbeats 2000000 in
theorem markDataInfoS_of (xs : List D) (hn : xs.length ≤ 140737488351232) (ih : ∀ x ∈ xs, ∃ (sName : ByteArray) (iVars : Int) (xCons : List D), x = (.struct [.str sName, .int .i64 iVars, .slice 1 xCons] : D) ∧ MkO Try.prog 38 (D.slice 1 xCons)) : MkO Try.prog 68 (.slice 3 xs) := by
  intro w v fp k h hnd hl hk
  simp only [D.K] at h
  obtain ⟨A, c, he, h2, h3, h4⟩ := h
  obtain rfl : v = .slice A xs.length c := by simpa using he
  simp only [D.tcnt] at hk ⊢
  have hsz := n_DataInfoS ih
  rcases h4 with ⟨rfl, rfl⟩ | ⟨b, off, f, rfl, h6, rfl, h8⟩
  · clear he hsz ih
    go_enter Try.func68, Try.ntmps68
    go_wp2_with fail
    go_loop [1, 5] (fun q i => i = .int .i64 0 ∧ q = .int .i64 k) (fun _ _ => 0)
    case atStart => exact ⟨rfl, rfl⟩
    case round =>
      obtain ⟨rfl, rfl⟩ := hrel
      go_wp2_with fail
      go_ret
      exact ⟨by first | rfl | exact ret_int (by simp [D.cnts]), by simp only [D.top, D.marks, D.K]; exact ⟨A, c, rfl, h2, h3, .inl ⟨True.intro, True.intro⟩⟩, TouchF.refl _ _⟩
  · rw [D.Row_flats hsz] at h8
    have IH := Lib.hid ih
    have HSZ := Lib.hid hsz
    have HL := Lib.hid hl
    have HN := Lib.hid hnd
    have H8 := Lib.hid h8
    have H2 := Lib.hid h2
    have H3 := Lib.hid h3
    have HB := Lib.hid (List.nodup_cons.1 hnd).1
    clear he ih hl hnd h8 h2 h3 hsz
    go_enter Try.func68, Try.ntmps68
    go_wp2_with fail
    go_loopw [1, 5] (fun q i wr => ∃ j n : Nat, j ≤ xs.length ∧ i = .int .i64 j ∧ q = .int .i64 n ∧ n ≤ 1125899906842624 ∧ Hid (n = k + D.cnts (xs.take j)) ∧ Hid (D.Row wr b off 1 (D.flats (D.marks (xs.take j) k) ++ D.flats (xs.drop j)) f ∧ TouchF (b :: f) w wr)) (fun _ i _ => xs.length - (intOf i).toNat)
    case atStart => exact ⟨0, k, Nat.zero_le _, rfl, rfl, by omega, Lib.hid (by simp [D.cnts]), Lib.hid ⟨by simpa [D.marks, D.flats] using H8.out, TouchF.refl _ _⟩⟩
    case round =>
      obtain ⟨j, n, hj, rfl, rfl, hnb, hnn, hrel⟩ := hrel
      obtain ⟨row0, ht⟩ := hrel.out
      have NN := Lib.hid hnn.out
      clear hrel hnn
      by_cases hlt : j < xs.length
      · obtain ⟨sName, iVars, xCons, hx, m0⟩ := IH.out _ (List.getElem_mem hlt)
        have hlen := marks_len HSZ.out k j hj
        rw [marks_at hlt, hx] at row0
        have hct := cnt_take hlt
        have hcl := cnts_take_le xs (j + 1)
        have hmn := marks_next hlt k
        rw [hx] at hct hmn
        have nb := NN.out
        rw [← nb] at hmn
        have CT : Hid (n + (.struct [.str sName, .int .i64 iVars, .slice 1 xCons] : D).cnt = k + D.cnts (xs.take (j + 1))) := by show _ = _; omega
        have CB : Hid (k + D.cnts (xs.take (j + 1)) ≤ 1125899906842624) := by show _ ≤ _; omega
        have MN := Lib.hid hmn
        generalize hM : D.flats (D.marks (xs.take j) k) = M at row0 hlen
        generalize hR : D.flats (xs.drop (j + 1)) = R at row0
        have HLEN := Lib.hid hlen
        have HM := Lib.hid hM
        have HR := Lib.hid hR
        simp only [D.flat, D.flats, List.cons_append, List.nil_append, List.append_assoc] at row0
        have T0 := Lib.hid ht
        have cb := CB.out
        have ct := CT.out
        simp only [D.cnt, D.cnts, Nat.add_zero] at ct
        have ROW0 := Lib.hid row0
        clear hlen hct hcl hmn nb ht hM hR hx
        go_wp2_with (first
          | (go_at_call 100; (with_reducible refine (markText_at _ (n) (by omega) (by omega) _).mono ?_); rintro e y0 ⟨rfl, hb⟩; have ROW1 := Lib.hid (row_below ROW0.out hb); have T1 := Lib.hid (T0.out.trans (TouchF.of_below hb)); clear hb)
          | (refine wpl_leaf_str rfl _ _ _ rfl (b := b) (off := off) (fp := f) (rs := ((D.int .i64 iVars) :: (D.slice 1 xCons) :: R)) (m := sName) (ms := (M ++ [])) (p := off + j * 3) rfl rfl (by kernel_rfl) (by have h_ := HLEN.out; simp only [List.length_append, List.length_cons, List.length_nil]; omega) (row := (by simpa using ROW1.out)) HB.out (Row_live T1.out (HL.out b (by simp))) ?_; intro x0 row ht; have ROW2 := Lib.hid row; have T2 := Lib.hid (T1.out.trans ht); clear ROW1; clear row ht)
          | (refine wpl_leaf_int rfl _ _ _ rfl (b := b) (off := off) (fp := f) (rs := ((D.slice 1 xCons) :: R)) (m := iVars) (ms := (M ++ [(.str (markT (n)))])) (p := off + j * 3 + 1) rfl rfl (by kernel_rfl) (by have h_ := HLEN.out; simp only [List.length_append, List.length_cons, List.length_nil]; omega) (row := (by simpa using ROW2.out)) HB.out (Row_live T2.out (HL.out b (by simp))) ?_; intro x1 row ht; have ROW3 := Lib.hid row; have T3 := Lib.hid (T2.out.trans ht); clear ROW2; clear row ht; obtain ⟨A2, c2, z2⟩ := row_slice (b := b) (off := off) (fp := f) (xs := xCons) (sz := 1) (rs := (R)) (ms := (M ++ [(.str (markT (n))), (.int .i64 ((n : Int) + 1))])) (by simpa using ROW3.out) (p := off + j * 3 + 2) (by have h_ := HLEN.out; simp only [List.length_append, List.length_cons, List.length_nil]; omega))
          | (go_at_call 38; obtain ⟨f2, hk2, hnd2, hsub2, put2⟩ := D.Row_call' (a := (D.slice 1 xCons)) (b := b) (off := off) (fp := f) (rs := (R)) (ms := (M ++ [(.str (markT (n))), (.int .i64 ((n : Int) + 1))])) (by simpa using ROW3.out) HN.out (p := off + j * 3 + 2) (by have h_ := HLEN.out; simp only [List.length_append, List.length_cons, List.length_nil]; omega) z2; (with_reducible refine (m0.atz _ (n + 2) (by omega) hk2 hnd2 (fun q hq => T3.out.live q (by simp [hsub2 q hq]) (HL.out q (by simp [hsub2 q hq]))) (by simp only [D.tcnt]; omega)).mono ?_); rintro e y2 ⟨n1, hn1, rfl, hk3, ht3⟩; simp only [D.tcnt] at hn1; have row := put2 _ _ hk3 ht3; have ht := ht3.mono (fun q hq => List.mem_cons_of_mem b (hsub2 q hq)); have ROW4 := Lib.hid row; have T4 := Lib.hid (T3.out.trans ht); clear ROW3; have N1 := Lib.hid hn1; have nb1 : n1 + 0 ≤ 1125899906842624 := (by omega); clear row ht hk2 hnd2 hsub2 put2 hk3 ht3 hn1))
        go_roundw
        case rel =>
          have e1 := N1.out; refine ⟨j + 1, n1, by omega, by go_num, by go_num, by omega, Lib.hid (by have h_ := CT.out; simp only [D.cnt, D.cnts, Nat.add_zero] at h_; omega), Lib.hid ⟨?_, T4.out⟩⟩
          rw [← MN_eq MN.out HM.out HR.out]
          have hr := ROW4.out
          have v0 : IntKind.i64.wrap (((n : Int) + 1)) = (n : Int) + 1 := i64_p _ (by omega) (by omega)
          simpa [D.mark, D.marks, D.flat, D.flats, D.top, D.cnt, D.cnts, Nat.add_assoc, v0] using hr
        case measure => simp [intOf]; omega
      · obtain rfl : j = xs.length := by omega
        rw [List.drop_length, D.flats, List.append_nil, List.take_length] at row0
        have ROW := Lib.hid ((D.Row_flats (D.marks_mem_n HSZ.out k)).2 row0)
        have HT := Lib.hid ht
        have nb := NN.out
        rw [List.take_length] at nb
        have NB := Lib.hid nb
        clear row0 ht nb
        go_wp2_with fail
        go_ret
        exact ⟨ret_int (by have := NB.out; omega), by simp only [D.top, D.K]; exact ⟨_, c, by rw [D.marks_length], by rw [D.marks_length]; exact H2.out, H3.out, .inr ⟨b, off, f, rfl, Nat.lt_of_lt_of_le h6 HT.out.size, rfl, ROW.out⟩⟩, HT.out⟩
set_option maxRecDepth 100000 in
set_option maxHeartbeats 2000000 in
theorem heldDataInfoS_of (xs : List D) (hn : xs.length ≤ 140737488351232) (ih : ∀ x ∈ xs, ∃ (sName : ByteArray) (iVars : Int) (xCons : List D), x = (.struct [.str sName, .int .i64 iVars, .slice 1 xCons] : D) ∧ HdO Try.prog 39 (D.slice 1 xCons)) : HdO Try.prog 73 (.slice 3 xs) := by
  intro w v k h hk
  simp only [D.top] at h
  obtain ⟨A, c, rfl, _, _, hrow⟩ := rd_slice1 h
  simp only [D.tcnt] at hk ⊢
  rw [D.marks_length]
  have IH := Lib.hid ih
  have H := Lib.hid hrow
  clear ih h hrow
  go_enter Try.func73, Try.ntmps73
  go_wp2_with fail
  go_loopw [1, 5] (fun q i wr => ∃ j n : Nat, j ≤ xs.length ∧ i = .int .i64 j ∧ q = .int .i64 n ∧ n ≤ 1125899906842624 ∧ Hid (n = k + D.cnts (xs.take j)) ∧ Hid (Below w.heap.size w wr)) (fun _ i _ => xs.length - (intOf i).toNat)
  case atStart => exact ⟨0, k, Nat.zero_le _, rfl, rfl, by omega, Lib.hid (by simp [D.cnts]), Lib.hid (Below.refl _ _)⟩
  case round =>
    obtain ⟨j, n, hj, rfl, rfl, hnb, hnn, hrel⟩ := hrel
    have HB := Lib.hid hrel.out
    have NN := Lib.hid hnn.out
    clear hrel hnn
    by_cases hlt : j < xs.length
    · obtain ⟨sName, iVars, xCons, hx, m0⟩ := IH.out _ (List.getElem_mem hlt)
      have hget := marks_get hlt k
      have hct := cnt_take hlt
      have hcl := cnts_take_le xs (j + 1)
      have nb := NN.out
      rw [← nb, hx] at hget
      rw [hx] at hct
      have ct : n + (.struct [.str sName, .int .i64 iVars, .slice 1 xCons] : D).cnt = k + D.cnts (xs.take (j + 1)) := by omega
      have CB : Hid (k + D.cnts (xs.take (j + 1)) ≤ 1125899906842624) := by show _ ≤ _; omega
      have CT := Lib.hid ct
      have cb := CB.out
      simp only [D.cnt, D.cnts, Nat.add_zero] at ct
      obtain ⟨b, off, cs, rfl, hcl2, hrd0, hc⟩ := (RdRow.below H.out (by omega) HB.out).get hget
      have hrd : RdF wr [.str (markT (n)), .int .i64 ((n : Int) + 1), (D.slice 1 xCons).top (n + 2)] cs := by
        have h1 := rd_flat.1 hrd0
        have v1 : IntKind.i64.wrap ((n : Int) + 1) = ((n : Int) + 1) := i64_p _ (by omega) (by omega)
        simpa [D.mark, D.marks, D.flat, D.flats, D.top, D.cnt, D.cnts, Nat.add_assoc, Nat.add_comm, Nat.add_left_comm, v1] using h1
      simp only [rdF_cons, rdF_nil, rd_int, rd_bool, rd_str] at hrd
      obtain ⟨q0, s0, rfl, rfl, q1, s1, rfl, rfl, q2, s2, rfl, r2, rfl⟩ := hrd
      obtain ⟨A2, c2, rfl⟩ := rd_top_slice r2
      have R2 := Lib.hid r2
      have C0 : Hid (∀ w', Below wr.heap.size wr w' → w'.cell? ⟨b, off + j * 3, none⟩ = some (.string (markT (n)))) := fun w' hb => (fun h0 : wr.cell? ⟨b, off + j * 3, none⟩ = some (.string (markT (n))) => (hb.cell (World.block_lt_of_cell? wr _ h0)).trans h0) (by simpa using hc 0 _ rfl)
      have C1 : Hid (∀ w', Below wr.heap.size wr w' → w'.cell? ⟨b, off + j * 3 + 1, none⟩ = some (.int .i64 ((n : Int) + 1))) := fun w' hb => (fun h0 : wr.cell? ⟨b, off + j * 3 + 1, none⟩ = some (.int .i64 ((n : Int) + 1)) => (hb.cell (World.block_lt_of_cell? wr _ h0)).trans h0) (by simpa using hc 1 _ rfl)
      have C2 : Hid (∀ w', Below wr.heap.size wr w' → w'.cell? ⟨b, off + j * 3 + 2, none⟩ = some (.slice A2 xCons.length c2)) := fun w' hb => (fun h0 : wr.cell? ⟨b, off + j * 3 + 2, none⟩ = some (.slice A2 xCons.length c2) => (hb.cell (World.block_lt_of_cell? wr _ h0)).trans h0) (by simpa using hc 2 _ rfl)
      have W0 := Lib.hid (Below.refl wr.heap.size wr)
      clear hct hcl nb hx hget hrd0 hcl2 hc r2
      have z0 : World.cell? _ ⟨b, off + j * 3, none⟩ = some (.string (markT (n))) := (C0.out _ W0.out).trans (congrArg (fun q => some (Value.string (markT q))) (by omega))
      have z1 : World.cell? _ ⟨b, off + j * 3 + 1, none⟩ = some (.int .i64 ((n : Int) + 1)) := (C1.out _ W0.out).trans (congrArg some (congrArg (Value.int .i64) (by omega)))
      have z2 := C2.out _ W0.out
      go_wp2_with fail
      go_region_held3 (fun w' => w'.cell? ⟨b, off + j * 3, none⟩ = some (.string (markT (n))))
        (first | exact z0 | exact (C0.out _ W1.out).trans (congrArg (fun q => some (Value.string (markT q))) (by omega)))
        (first
          | (go_at_call 100; (with_reducible refine (markText_at _ (n) (by omega) (by omega) _).mono ?_); rintro e y0 ⟨rfl, hb⟩; have W1 := Lib.hid (W0.out.drew.trans (hb.mono W0.out.drew.size)); clear hb))
      clear z0 z1 z2
      have z1 : World.cell? _ ⟨b, off + j * 3 + 1, none⟩ = some (.int .i64 ((n : Int) + 1)) := (C1.out _ W1.out).trans (congrArg some (congrArg (Value.int .i64) (by omega)))
      have z2 := C2.out _ W1.out
      go_wp2_with (first | (go_at_call 39; (with_reducible refine (m0.atz _ (n + 2) (by omega) ((rd_cong R2.out (by omega)).below W1.out) (by simp only [D.tcnt]; omega)).mono ?_); rintro e y2 ⟨n1, hn1, rfl, hb⟩; have W2 := Lib.hid (W1.out.trans (hb.mono W1.out.size)); simp only [D.tcnt] at hn1; have nb1 : n1 ≤ 1125899906842624 := (by omega); have hng1 : decide ((n1 : Int) < 0) = false := decide_eq_false (by omega); have N1 := Lib.hid hn1; clear hb; clear z1 z2))
      go_roundw
      case rel =>
        have e1 := N1.out; exact ⟨j + 1, n1, by omega, by go_num, by go_num, by omega, Lib.hid (by have h_ := CT.out; simp only [D.cnt, D.cnts, Nat.add_zero] at h_; omega), Lib.hid (HB.out.trans (W2.out.mono HB.out.size))⟩
      case measure => simp [intOf]; omega
    · obtain rfl : j = xs.length := by omega
      have nb := NN.out
      rw [List.take_length] at nb
      have NB := Lib.hid nb
      clear nb
      go_wp2_with fail
      go_ret
      exact ⟨ret_int (by have := NB.out; omega), HB.out⟩

theorem n_MethodInfoS {xs : List D} (ih : ∀ x ∈ xs, ∃ (sName : ByteArray) (sClass : ByteArray) (iSchemeCount : Int) (xSchemePreds : List D) (iSchemeTypeKind : Int) (iSchemeTypeId : Int) (sSchemeTypeName : ByteArray) (xSchemeTypeArgs : List D), x = (.struct [.str sName, .str sClass, .struct [.int .i64 iSchemeCount, .slice 2 xSchemePreds, .struct [.int .i64 iSchemeTypeKind, .int .i64 iSchemeTypeId, .str sSchemeTypeName, .slice 4 xSchemeTypeArgs]]] : D) ∧ MkO Try.prog 88 (D.slice 2 xSchemePreds) ∧ MkO Try.prog 93 (D.slice 4 xSchemeTypeArgs)) : ∀ x ∈ xs, x.n = 8 := fun x hx => by
  obtain ⟨sName, sClass, iSchemeCount, xSchemePreds, iSchemeTypeKind, iSchemeTypeId, sSchemeTypeName, xSchemeTypeArgs, rfl, _, _⟩ := ih x hx
  rfl
theorem n'_MethodInfoS {xs : List D} (ih : ∀ x ∈ xs, ∃ (sName : ByteArray) (sClass : ByteArray) (iSchemeCount : Int) (xSchemePreds : List D) (iSchemeTypeKind : Int) (iSchemeTypeId : Int) (sSchemeTypeName : ByteArray) (xSchemeTypeArgs : List D), x = (.struct [.str sName, .str sClass, .struct [.int .i64 iSchemeCount, .slice 2 xSchemePreds, .struct [.int .i64 iSchemeTypeKind, .int .i64 iSchemeTypeId, .str sSchemeTypeName, .slice 4 xSchemeTypeArgs]]] : D) ∧ HdO Try.prog 89 (D.slice 2 xSchemePreds) ∧ HdO Try.prog 94 (D.slice 4 xSchemeTypeArgs)) : ∀ x ∈ xs, x.n = 8 := fun x hx => by
  obtain ⟨sName, sClass, iSchemeCount, xSchemePreds, iSchemeTypeKind, iSchemeTypeId, sSchemeTypeName, xSchemeTypeArgs, rfl, _, _⟩ := ih x hx
  rfl
set_option maxRecDepth 100000 in
set_option maxHeartbeats 2000000 in
theorem markMethodInfoS_of (xs : List D) (hn : xs.length ≤ 140737488351232) (ih : ∀ x ∈ xs, ∃ (sName : ByteArray) (sClass : ByteArray) (iSchemeCount : Int) (xSchemePreds : List D) (iSchemeTypeKind : Int) (iSchemeTypeId : Int) (sSchemeTypeName : ByteArray) (xSchemeTypeArgs : List D), x = (.struct [.str sName, .str sClass, .struct [.int .i64 iSchemeCount, .slice 2 xSchemePreds, .struct [.int .i64 iSchemeTypeKind, .int .i64 iSchemeTypeId, .str sSchemeTypeName, .slice 4 xSchemeTypeArgs]]] : D) ∧ MkO Try.prog 88 (D.slice 2 xSchemePreds) ∧ MkO Try.prog 93 (D.slice 4 xSchemeTypeArgs)) : MkO Try.prog 69 (.slice 8 xs) := by
  intro w v fp k h hnd hl hk
  simp only [D.K] at h
  obtain ⟨A, c, he, h2, h3, h4⟩ := h
  obtain rfl : v = .slice A xs.length c := by simpa using he
  simp only [D.tcnt] at hk ⊢
  have hsz := n_MethodInfoS ih
  rcases h4 with ⟨rfl, rfl⟩ | ⟨b, off, f, rfl, h6, rfl, h8⟩
  · clear he hsz ih
    go_enter Try.func69, Try.ntmps69
    go_wp2_with fail
    go_loop [1, 5] (fun q i => i = .int .i64 0 ∧ q = .int .i64 k) (fun _ _ => 0)
    case atStart => exact ⟨rfl, rfl⟩
    case round =>
      obtain ⟨rfl, rfl⟩ := hrel
      go_wp2_with fail
      go_ret
      exact ⟨by first | rfl | exact ret_int (by simp [D.cnts]), by simp only [D.top, D.marks, D.K]; exact ⟨A, c, rfl, h2, h3, .inl ⟨True.intro, True.intro⟩⟩, TouchF.refl _ _⟩
  · rw [D.Row_flats hsz] at h8
    have IH := Lib.hid ih
    have HSZ := Lib.hid hsz
    have HL := Lib.hid hl
    have HN := Lib.hid hnd
    have H8 := Lib.hid h8
    have H2 := Lib.hid h2
    have H3 := Lib.hid h3
    have HB := Lib.hid (List.nodup_cons.1 hnd).1
    clear he ih hl hnd h8 h2 h3 hsz
    go_enter Try.func69, Try.ntmps69
    go_wp2_with fail
    go_loopw [1, 5] (fun q i wr => ∃ j n : Nat, j ≤ xs.length ∧ i = .int .i64 j ∧ q = .int .i64 n ∧ n ≤ 1125899906842624 ∧ Hid (n = k + D.cnts (xs.take j)) ∧ Hid (D.Row wr b off 1 (D.flats (D.marks (xs.take j) k) ++ D.flats (xs.drop j)) f ∧ TouchF (b :: f) w wr)) (fun _ i _ => xs.length - (intOf i).toNat)
    case atStart => exact ⟨0, k, Nat.zero_le _, rfl, rfl, by omega, Lib.hid (by simp [D.cnts]), Lib.hid ⟨by simpa [D.marks, D.flats] using H8.out, TouchF.refl _ _⟩⟩
    case round =>
      obtain ⟨j, n, hj, rfl, rfl, hnb, hnn, hrel⟩ := hrel
      obtain ⟨row0, ht⟩ := hrel.out
      have NN := Lib.hid hnn.out
      clear hrel hnn
      by_cases hlt : j < xs.length
      · obtain ⟨sName, sClass, iSchemeCount, xSchemePreds, iSchemeTypeKind, iSchemeTypeId, sSchemeTypeName, xSchemeTypeArgs, hx, m0, m1⟩ := IH.out _ (List.getElem_mem hlt)
        have hlen := marks_len HSZ.out k j hj
        rw [marks_at hlt, hx] at row0
        have hct := cnt_take hlt
        have hcl := cnts_take_le xs (j + 1)
        have hmn := marks_next hlt k
        rw [hx] at hct hmn
        have nb := NN.out
        rw [← nb] at hmn
        have CT : Hid (n + (.struct [.str sName, .str sClass, .struct [.int .i64 iSchemeCount, .slice 2 xSchemePreds, .struct [.int .i64 iSchemeTypeKind, .int .i64 iSchemeTypeId, .str sSchemeTypeName, .slice 4 xSchemeTypeArgs]]] : D).cnt = k + D.cnts (xs.take (j + 1))) := by show _ = _; omega
        have CB : Hid (k + D.cnts (xs.take (j + 1)) ≤ 1125899906842624) := by show _ ≤ _; omega
        have MN := Lib.hid hmn
        generalize hM : D.flats (D.marks (xs.take j) k) = M at row0 hlen
        generalize hR : D.flats (xs.drop (j + 1)) = R at row0
        have HLEN := Lib.hid hlen
        have HM := Lib.hid hM
        have HR := Lib.hid hR
        simp only [D.flat, D.flats, List.cons_append, List.nil_append, List.append_assoc] at row0
        have T0 := Lib.hid ht
        have cb := CB.out
        have ct := CT.out
        simp only [D.cnt, D.cnts, Nat.add_zero] at ct
        have ROW0 := Lib.hid row0
        clear hlen hct hcl hmn nb ht hM hR hx
        go_wp2_with (first
          | (go_at_call 100; (with_reducible refine (markText_at _ (n) (by omega) (by omega) _).mono ?_); rintro e y0 ⟨rfl, hb⟩; have ROW1 := Lib.hid (row_below ROW0.out hb); have T1 := Lib.hid (T0.out.trans (TouchF.of_below hb)); clear hb)
          | (refine wpl_leaf_str rfl _ _ _ rfl (b := b) (off := off) (fp := f) (rs := ((D.str sClass) :: (D.int .i64 iSchemeCount) :: (D.slice 2 xSchemePreds) :: (D.int .i64 iSchemeTypeKind) :: (D.int .i64 iSchemeTypeId) :: (D.str sSchemeTypeName) :: (D.slice 4 xSchemeTypeArgs) :: R)) (m := sName) (ms := (M ++ [])) (p := off + j * 8) rfl rfl (by kernel_rfl) (by have h_ := HLEN.out; simp only [List.length_append, List.length_cons, List.length_nil]; omega) (row := (by simpa using ROW1.out)) HB.out (Row_live T1.out (HL.out b (by simp))) ?_; intro x0 row ht; have ROW2 := Lib.hid row; have T2 := Lib.hid (T1.out.trans ht); clear ROW1; clear row ht)
          | (go_at_call 100; (with_reducible refine (markText_at _ (n + 1) (by omega) (by omega) _).mono ?_); rintro e y1 ⟨rfl, hb⟩; have ROW3 := Lib.hid (row_below ROW2.out hb); have T3 := Lib.hid (T2.out.trans (TouchF.of_below hb)); clear hb)
          | (refine wpl_leaf_str rfl _ _ _ rfl (b := b) (off := off) (fp := f) (rs := ((D.int .i64 iSchemeCount) :: (D.slice 2 xSchemePreds) :: (D.int .i64 iSchemeTypeKind) :: (D.int .i64 iSchemeTypeId) :: (D.str sSchemeTypeName) :: (D.slice 4 xSchemeTypeArgs) :: R)) (m := sClass) (ms := (M ++ [(.str (markT (n)))])) (p := off + j * 8 + 1) rfl rfl (by kernel_rfl) (by have h_ := HLEN.out; simp only [List.length_append, List.length_cons, List.length_nil]; omega) (row := (by simpa using ROW3.out)) HB.out (Row_live T3.out (HL.out b (by simp))) ?_; intro x1 row ht; have ROW4 := Lib.hid row; have T4 := Lib.hid (T3.out.trans ht); clear ROW3; clear row ht)
          | (refine wpl_leaf_int rfl _ _ _ rfl (b := b) (off := off) (fp := f) (rs := ((D.slice 2 xSchemePreds) :: (D.int .i64 iSchemeTypeKind) :: (D.int .i64 iSchemeTypeId) :: (D.str sSchemeTypeName) :: (D.slice 4 xSchemeTypeArgs) :: R)) (m := iSchemeCount) (ms := (M ++ [(.str (markT (n))), (.str (markT (n + 1)))])) (p := off + j * 8 + 2) rfl rfl (by kernel_rfl) (by have h_ := HLEN.out; simp only [List.length_append, List.length_cons, List.length_nil]; omega) (row := (by simpa using ROW4.out)) HB.out (Row_live T4.out (HL.out b (by simp))) ?_; intro x2 row ht; have ROW5 := Lib.hid row; have T5 := Lib.hid (T4.out.trans ht); clear ROW4; clear row ht; obtain ⟨A3, c3, z3⟩ := row_slice (b := b) (off := off) (fp := f) (xs := xSchemePreds) (sz := 2) (rs := ((D.int .i64 iSchemeTypeKind) :: (D.int .i64 iSchemeTypeId) :: (D.str sSchemeTypeName) :: (D.slice 4 xSchemeTypeArgs) :: R)) (ms := (M ++ [(.str (markT (n))), (.str (markT (n + 1))), (.int .i64 ((n : Int) + 1 + 1))])) (by simpa using ROW5.out) (p := off + j * 8 + 3) (by have h_ := HLEN.out; simp only [List.length_append, List.length_cons, List.length_nil]; omega))
          | (go_at_call 88; obtain ⟨f2, hk2, hnd2, hsub2, put2⟩ := D.Row_call' (a := (D.slice 2 xSchemePreds)) (b := b) (off := off) (fp := f) (rs := ((D.int .i64 iSchemeTypeKind) :: (D.int .i64 iSchemeTypeId) :: (D.str sSchemeTypeName) :: (D.slice 4 xSchemeTypeArgs) :: R)) (ms := (M ++ [(.str (markT (n))), (.str (markT (n + 1))), (.int .i64 ((n : Int) + 1 + 1))])) (by simpa using ROW5.out) HN.out (p := off + j * 8 + 3) (by have h_ := HLEN.out; simp only [List.length_append, List.length_cons, List.length_nil]; omega) z3; (with_reducible refine (m0.atz _ (n + 3) (by omega) hk2 hnd2 (fun q hq => T5.out.live q (by simp [hsub2 q hq]) (HL.out q (by simp [hsub2 q hq]))) (by simp only [D.tcnt]; omega)).mono ?_); rintro e y3 ⟨n1, hn1, rfl, hk3, ht3⟩; simp only [D.tcnt] at hn1; have row := put2 _ _ hk3 ht3; have ht := ht3.mono (fun q hq => List.mem_cons_of_mem b (hsub2 q hq)); have ROW6 := Lib.hid row; have T6 := Lib.hid (T5.out.trans ht); clear ROW5; have N1 := Lib.hid hn1; have nb1 : n1 + 3 + D.cnts xSchemeTypeArgs ≤ 1125899906842624 := (by omega); clear row ht hk2 hnd2 hsub2 put2 hk3 ht3 hn1)
          | (refine wpl_leaf_int rfl _ _ _ rfl (b := b) (off := off) (fp := f) (rs := ((D.int .i64 iSchemeTypeId) :: (D.str sSchemeTypeName) :: (D.slice 4 xSchemeTypeArgs) :: R)) (m := iSchemeTypeKind) (ms := (M ++ [(.str (markT (n))), (.str (markT (n + 1))), (.int .i64 ((n : Int) + 1 + 1)), ((D.slice 2 xSchemePreds : D).top (n + 3))])) (p := off + j * 8 + 4) rfl rfl (by kernel_rfl) (by have h_ := HLEN.out; simp only [List.length_append, List.length_cons, List.length_nil]; omega) (row := (by simpa using ROW6.out)) HB.out (Row_live T6.out (HL.out b (by simp))) ?_; intro x4 row ht; have ROW7 := Lib.hid row; have T7 := Lib.hid (T6.out.trans ht); clear ROW6; clear row ht)
          | (refine wpl_leaf_int rfl _ _ _ rfl (b := b) (off := off) (fp := f) (rs := ((D.str sSchemeTypeName) :: (D.slice 4 xSchemeTypeArgs) :: R)) (m := iSchemeTypeId) (ms := (M ++ [(.str (markT (n))), (.str (markT (n + 1))), (.int .i64 ((n : Int) + 1 + 1)), ((D.slice 2 xSchemePreds : D).top (n + 3)), (.int .i64 ((n1 : Int)))])) (p := off + j * 8 + 5) rfl rfl (by kernel_rfl) (by have h_ := HLEN.out; simp only [List.length_append, List.length_cons, List.length_nil]; omega) (row := (by simpa using ROW7.out)) HB.out (Row_live T7.out (HL.out b (by simp))) ?_; intro x5 row ht; have ROW8 := Lib.hid row; have T8 := Lib.hid (T7.out.trans ht); clear ROW7; clear row ht)
          | (go_at_call 100; (with_reducible refine (markText_at _ (n1 + 2) (by omega) (by omega) _).mono ?_); rintro e y6 ⟨rfl, hb⟩; have ROW9 := Lib.hid (row_below ROW8.out hb); have T9 := Lib.hid (T8.out.trans (TouchF.of_below hb)); clear hb)
          | (refine wpl_leaf_str rfl _ _ _ rfl (b := b) (off := off) (fp := f) (rs := ((D.slice 4 xSchemeTypeArgs) :: R)) (m := sSchemeTypeName) (ms := (M ++ [(.str (markT (n))), (.str (markT (n + 1))), (.int .i64 ((n : Int) + 1 + 1)), ((D.slice 2 xSchemePreds : D).top (n + 3)), (.int .i64 ((n1 : Int))), (.int .i64 ((n1 : Int) + 1))])) (p := off + j * 8 + 6) rfl rfl (by kernel_rfl) (by have h_ := HLEN.out; simp only [List.length_append, List.length_cons, List.length_nil]; omega) (row := (by simpa using ROW9.out)) HB.out (Row_live T9.out (HL.out b (by simp))) ?_; intro x6 row ht; have ROW10 := Lib.hid row; have T10 := Lib.hid (T9.out.trans ht); clear ROW9; clear row ht; obtain ⟨A7, c7, z7⟩ := row_slice (b := b) (off := off) (fp := f) (xs := xSchemeTypeArgs) (sz := 4) (rs := (R)) (ms := (M ++ [(.str (markT (n))), (.str (markT (n + 1))), (.int .i64 ((n : Int) + 1 + 1)), ((D.slice 2 xSchemePreds : D).top (n + 3)), (.int .i64 ((n1 : Int))), (.int .i64 ((n1 : Int) + 1)), (.str (markT (n1 + 2)))])) (by simpa using ROW10.out) (p := off + j * 8 + 7) (by have h_ := HLEN.out; simp only [List.length_append, List.length_cons, List.length_nil]; omega))
          | (go_at_call 93; obtain ⟨f2, hk2, hnd2, hsub2, put2⟩ := D.Row_call' (a := (D.slice 4 xSchemeTypeArgs)) (b := b) (off := off) (fp := f) (rs := (R)) (ms := (M ++ [(.str (markT (n))), (.str (markT (n + 1))), (.int .i64 ((n : Int) + 1 + 1)), ((D.slice 2 xSchemePreds : D).top (n + 3)), (.int .i64 ((n1 : Int))), (.int .i64 ((n1 : Int) + 1)), (.str (markT (n1 + 2)))])) (by simpa using ROW10.out) HN.out (p := off + j * 8 + 7) (by have h_ := HLEN.out; simp only [List.length_append, List.length_cons, List.length_nil]; omega) z7; (with_reducible refine (m1.atz _ (n1 + 3) (by omega) hk2 hnd2 (fun q hq => T10.out.live q (by simp [hsub2 q hq]) (HL.out q (by simp [hsub2 q hq]))) (by simp only [D.tcnt]; omega)).mono ?_); rintro e y7 ⟨n2, hn2, rfl, hk3, ht3⟩; simp only [D.tcnt] at hn2; have row := put2 _ _ hk3 ht3; have ht := ht3.mono (fun q hq => List.mem_cons_of_mem b (hsub2 q hq)); have ROW11 := Lib.hid row; have T11 := Lib.hid (T10.out.trans ht); clear ROW10; have N2 := Lib.hid hn2; have nb2 : n2 + 0 ≤ 1125899906842624 := (by omega); clear row ht hk2 hnd2 hsub2 put2 hk3 ht3 hn2))
        go_roundw
        case rel =>
          have e1 := N1.out; have e2 := N2.out; refine ⟨j + 1, n2, by omega, by go_num, by go_num, by omega, Lib.hid (by have h_ := CT.out; simp only [D.cnt, D.cnts, Nat.add_zero] at h_; omega), Lib.hid ⟨?_, T11.out⟩⟩
          rw [← MN_eq MN.out HM.out HR.out]
          have hr := ROW11.out
          have v0 : IntKind.i64.wrap (((n : Int) + 2)) = (n : Int) + 1 + 1 := i64_p _ (by omega) (by omega)
          have v1 : IntKind.i64.wrap ((n1 : Int)) = (n1 : Int) := i64_p _ (by omega) (by omega)
          have v2 : IntKind.i64.wrap (((n1 : Int) + 1)) = (n1 : Int) + 1 := i64_p _ (by omega) (by omega)
          subst e1
          subst e2
          refine Eq.mp (congrArg (fun L => D.Row _ b off 1 L f) ?_) hr
          simp (disch := omega) [D.mark, D.marks, D.flat, D.flats, D.top, D.cnt, D.cnts, i64_p]
          repeat' (first | (apply And.intro) | omega | exact congrArg markT (by omega) | exact congrArg (D.marks _) (by omega))
        case measure => simp [intOf]; omega
      · obtain rfl : j = xs.length := by omega
        rw [List.drop_length, D.flats, List.append_nil, List.take_length] at row0
        have ROW := Lib.hid ((D.Row_flats (D.marks_mem_n HSZ.out k)).2 row0)
        have HT := Lib.hid ht
        have nb := NN.out
        rw [List.take_length] at nb
        have NB := Lib.hid nb
        clear row0 ht nb
        go_wp2_with fail
        go_ret
        exact ⟨ret_int (by have := NB.out; omega), by simp only [D.top, D.K]; exact ⟨_, c, by rw [D.marks_length], by rw [D.marks_length]; exact H2.out, H3.out, .inr ⟨b, off, f, rfl, Nat.lt_of_lt_of_le h6 HT.out.size, rfl, ROW.out⟩⟩, HT.out⟩
set_option maxRecDepth 100000 in
set_option maxHeartbeats 2000000 in
theorem heldMethodInfoS_of (xs : List D) (hn : xs.length ≤ 140737488351232) (ih : ∀ x ∈ xs, ∃ (sName : ByteArray) (sClass : ByteArray) (iSchemeCount : Int) (xSchemePreds : List D) (iSchemeTypeKind : Int) (iSchemeTypeId : Int) (sSchemeTypeName : ByteArray) (xSchemeTypeArgs : List D), x = (.struct [.str sName, .str sClass, .struct [.int .i64 iSchemeCount, .slice 2 xSchemePreds, .struct [.int .i64 iSchemeTypeKind, .int .i64 iSchemeTypeId, .str sSchemeTypeName, .slice 4 xSchemeTypeArgs]]] : D) ∧ HdO Try.prog 89 (D.slice 2 xSchemePreds) ∧ HdO Try.prog 94 (D.slice 4 xSchemeTypeArgs)) : HdO Try.prog 74 (.slice 8 xs) := by
  intro w v k h hk
  simp only [D.top] at h
  obtain ⟨A, c, rfl, _, _, hrow⟩ := rd_slice1 h
  simp only [D.tcnt] at hk ⊢
  rw [D.marks_length]
  have IH := Lib.hid ih
  have H := Lib.hid hrow
  clear ih h hrow
  go_enter Try.func74, Try.ntmps74
  go_wp2_with fail
  go_loopw [1, 5] (fun q i wr => ∃ j n : Nat, j ≤ xs.length ∧ i = .int .i64 j ∧ q = .int .i64 n ∧ n ≤ 1125899906842624 ∧ Hid (n = k + D.cnts (xs.take j)) ∧ Hid (Below w.heap.size w wr)) (fun _ i _ => xs.length - (intOf i).toNat)
  case atStart => exact ⟨0, k, Nat.zero_le _, rfl, rfl, by omega, Lib.hid (by simp [D.cnts]), Lib.hid (Below.refl _ _)⟩
  case round =>
    obtain ⟨j, n, hj, rfl, rfl, hnb, hnn, hrel⟩ := hrel
    have HB := Lib.hid hrel.out
    have NN := Lib.hid hnn.out
    clear hrel hnn
    by_cases hlt : j < xs.length
    · obtain ⟨sName, sClass, iSchemeCount, xSchemePreds, iSchemeTypeKind, iSchemeTypeId, sSchemeTypeName, xSchemeTypeArgs, hx, m0, m1⟩ := IH.out _ (List.getElem_mem hlt)
      have hget := marks_get hlt k
      have hct := cnt_take hlt
      have hcl := cnts_take_le xs (j + 1)
      have nb := NN.out
      rw [← nb, hx] at hget
      rw [hx] at hct
      have ct : n + (.struct [.str sName, .str sClass, .struct [.int .i64 iSchemeCount, .slice 2 xSchemePreds, .struct [.int .i64 iSchemeTypeKind, .int .i64 iSchemeTypeId, .str sSchemeTypeName, .slice 4 xSchemeTypeArgs]]] : D).cnt = k + D.cnts (xs.take (j + 1)) := by omega
      have CB : Hid (k + D.cnts (xs.take (j + 1)) ≤ 1125899906842624) := by show _ ≤ _; omega
      have CT := Lib.hid ct
      have cb := CB.out
      simp only [D.cnt, D.cnts, Nat.add_zero] at ct
      obtain ⟨b, off, cs, rfl, hcl2, hrd0, hc⟩ := (RdRow.below H.out (by omega) HB.out).get hget
      have hrd : RdF wr [.str (markT (n)), .str (markT (n + 1)), .int .i64 ((n : Int) + 2), (D.slice 2 xSchemePreds).top (n + 3), .int .i64 ((n : Int) + (((D.cnts xSchemePreds : Nat) : Int) : Int) + 3), .int .i64 ((n : Int) + (((D.cnts xSchemePreds : Nat) : Int) : Int) + 4), .str (markT (n + D.cnts xSchemePreds + 5)), (D.slice 4 xSchemeTypeArgs).top (n + D.cnts xSchemePreds + 6)] cs := by
        have h1 := rd_flat.1 hrd0
        refine Eq.mp (congrArg (fun L => RdF wr L cs) ?_) h1
        simp (disch := omega) [D.mark, D.marks, D.flat, D.flats, D.top, D.cnt, D.cnts, i64_p]
        repeat' (first | (apply And.intro) | omega | exact congrArg markT (by omega) | exact congrArg (D.marks _) (by omega))
      simp only [rdF_cons, rdF_nil, rd_int, rd_bool, rd_str] at hrd
      obtain ⟨q0, s0, rfl, rfl, q1, s1, rfl, rfl, q2, s2, rfl, rfl, q3, s3, rfl, r3, q4, s4, rfl, rfl, q5, s5, rfl, rfl, q6, s6, rfl, rfl, q7, s7, rfl, r7, rfl⟩ := hrd
      obtain ⟨A3, c3, rfl⟩ := rd_top_slice r3
      have R3 := Lib.hid r3
      obtain ⟨A7, c7, rfl⟩ := rd_top_slice r7
      have R7 := Lib.hid r7
      have C0 : Hid (∀ w', Below wr.heap.size wr w' → w'.cell? ⟨b, off + j * 8, none⟩ = some (.string (markT (n)))) := fun w' hb => (fun h0 : wr.cell? ⟨b, off + j * 8, none⟩ = some (.string (markT (n))) => (hb.cell (World.block_lt_of_cell? wr _ h0)).trans h0) (by simpa using hc 0 _ rfl)
      have C1 : Hid (∀ w', Below wr.heap.size wr w' → w'.cell? ⟨b, off + j * 8 + 1, none⟩ = some (.string (markT (n + 1)))) := fun w' hb => (fun h0 : wr.cell? ⟨b, off + j * 8 + 1, none⟩ = some (.string (markT (n + 1))) => (hb.cell (World.block_lt_of_cell? wr _ h0)).trans h0) (by simpa using hc 1 _ rfl)
      have C2 : Hid (∀ w', Below wr.heap.size wr w' → w'.cell? ⟨b, off + j * 8 + 2, none⟩ = some (.int .i64 ((n : Int) + 2))) := fun w' hb => (fun h0 : wr.cell? ⟨b, off + j * 8 + 2, none⟩ = some (.int .i64 ((n : Int) + 2)) => (hb.cell (World.block_lt_of_cell? wr _ h0)).trans h0) (by simpa using hc 2 _ rfl)
      have C3 : Hid (∀ w', Below wr.heap.size wr w' → w'.cell? ⟨b, off + j * 8 + 3, none⟩ = some (.slice A3 xSchemePreds.length c3)) := fun w' hb => (fun h0 : wr.cell? ⟨b, off + j * 8 + 3, none⟩ = some (.slice A3 xSchemePreds.length c3) => (hb.cell (World.block_lt_of_cell? wr _ h0)).trans h0) (by simpa using hc 3 _ rfl)
      have C4 : Hid (∀ w', Below wr.heap.size wr w' → w'.cell? ⟨b, off + j * 8 + 4, none⟩ = some (.int .i64 ((n : Int) + (((D.cnts xSchemePreds : Nat) : Int) : Int) + 3))) := fun w' hb => (fun h0 : wr.cell? ⟨b, off + j * 8 + 4, none⟩ = some (.int .i64 ((n : Int) + (((D.cnts xSchemePreds : Nat) : Int) : Int) + 3)) => (hb.cell (World.block_lt_of_cell? wr _ h0)).trans h0) (by simpa using hc 4 _ rfl)
      have C5 : Hid (∀ w', Below wr.heap.size wr w' → w'.cell? ⟨b, off + j * 8 + 5, none⟩ = some (.int .i64 ((n : Int) + (((D.cnts xSchemePreds : Nat) : Int) : Int) + 4))) := fun w' hb => (fun h0 : wr.cell? ⟨b, off + j * 8 + 5, none⟩ = some (.int .i64 ((n : Int) + (((D.cnts xSchemePreds : Nat) : Int) : Int) + 4)) => (hb.cell (World.block_lt_of_cell? wr _ h0)).trans h0) (by simpa using hc 5 _ rfl)
      have C6 : Hid (∀ w', Below wr.heap.size wr w' → w'.cell? ⟨b, off + j * 8 + 6, none⟩ = some (.string (markT (n + D.cnts xSchemePreds + 5)))) := fun w' hb => (fun h0 : wr.cell? ⟨b, off + j * 8 + 6, none⟩ = some (.string (markT (n + D.cnts xSchemePreds + 5))) => (hb.cell (World.block_lt_of_cell? wr _ h0)).trans h0) (by simpa using hc 6 _ rfl)
      have C7 : Hid (∀ w', Below wr.heap.size wr w' → w'.cell? ⟨b, off + j * 8 + 7, none⟩ = some (.slice A7 xSchemeTypeArgs.length c7)) := fun w' hb => (fun h0 : wr.cell? ⟨b, off + j * 8 + 7, none⟩ = some (.slice A7 xSchemeTypeArgs.length c7) => (hb.cell (World.block_lt_of_cell? wr _ h0)).trans h0) (by simpa using hc 7 _ rfl)
      have W0 := Lib.hid (Below.refl wr.heap.size wr)
      clear hct hcl nb hx hget hrd0 hcl2 hc r3 r7
      have z0 : World.cell? _ ⟨b, off + j * 8, none⟩ = some (.string (markT (n))) := (C0.out _ W0.out).trans (congrArg (fun q => some (Value.string (markT q))) (by omega))
      have z1 : World.cell? _ ⟨b, off + j * 8 + 1, none⟩ = some (.string (markT (n + 1))) := (C1.out _ W0.out).trans (congrArg (fun q => some (Value.string (markT q))) (by omega))
      have z2 : World.cell? _ ⟨b, off + j * 8 + 2, none⟩ = some (.int .i64 ((n : Int) + 1 + 1)) := (C2.out _ W0.out).trans (congrArg some (congrArg (Value.int .i64) (by omega)))
      have z3 := C3.out _ W0.out
      go_wp2_with fail
      go_region_held3 (fun w' => w'.cell? ⟨b, off + j * 8, none⟩ = some (.string (markT (n))))
        (first | exact z0 | exact (C0.out _ W1.out).trans (congrArg (fun q => some (Value.string (markT q))) (by omega)))
        (first
          | (go_at_call 100; (with_reducible refine (markText_at _ (n) (by omega) (by omega) _).mono ?_); rintro e y0 ⟨rfl, hb⟩; have W1 := Lib.hid (W0.out.drew.trans (hb.mono W0.out.drew.size)); clear hb))
      clear z0 z1 z2 z3
      have z1 : World.cell? _ ⟨b, off + j * 8 + 1, none⟩ = some (.string (markT (n + 1))) := (C1.out _ W1.out).trans (congrArg (fun q => some (Value.string (markT q))) (by omega))
      have z2 : World.cell? _ ⟨b, off + j * 8 + 2, none⟩ = some (.int .i64 ((n : Int) + 1 + 1)) := (C2.out _ W1.out).trans (congrArg some (congrArg (Value.int .i64) (by omega)))
      have z3 := C3.out _ W1.out
      go_wp2_with fail
      go_region_held3 (fun w' => w'.cell? ⟨b, off + j * 8 + 1, none⟩ = some (.string (markT (n + 1))))
        (first | exact z1 | exact (C1.out _ W2.out).trans (congrArg (fun q => some (Value.string (markT q))) (by omega)))
        (first
          | (go_at_call 100; (with_reducible refine (markText_at _ (n + 1) (by omega) (by omega) _).mono ?_); rintro e y1 ⟨rfl, hb⟩; have W2 := Lib.hid (W1.out.drew.trans (hb.mono W1.out.drew.size)); clear hb))
      clear z1 z2 z3
      have z2 : World.cell? _ ⟨b, off + j * 8 + 2, none⟩ = some (.int .i64 ((n : Int) + 1 + 1)) := (C2.out _ W2.out).trans (congrArg some (congrArg (Value.int .i64) (by omega)))
      have z3 := C3.out _ W2.out
      go_wp2_with (first | (go_at_call 89; (with_reducible refine (m0.atz _ (n + 3) (by omega) ((rd_cong R3.out (by omega)).below W2.out) (by simp only [D.tcnt]; omega)).mono ?_); rintro e y3 ⟨n1, hn1, rfl, hb⟩; have W3 := Lib.hid (W2.out.trans (hb.mono W2.out.size)); simp only [D.tcnt] at hn1; have nb1 : n1 ≤ 1125899906842624 := (by omega); have hng1 : decide ((n1 : Int) < 0) = false := decide_eq_false (by omega); have N1 := Lib.hid hn1; clear hb; clear z2 z3; have z4 : World.cell? _ ⟨b, off + j * 8 + 4, none⟩ = some (.int .i64 ((n1 : Int))) := (C4.out _ W3.out).trans (congrArg some (congrArg (Value.int .i64) (by have e1 := N1.out; omega))); have z5 : World.cell? _ ⟨b, off + j * 8 + 5, none⟩ = some (.int .i64 ((n1 : Int) + 1)) := (C5.out _ W3.out).trans (congrArg some (congrArg (Value.int .i64) (by have e1 := N1.out; omega))); have z6 : World.cell? _ ⟨b, off + j * 8 + 6, none⟩ = some (.string (markT (n1 + 2))) := (C6.out _ W3.out).trans (congrArg (fun q => some (Value.string (markT q))) (by have e1 := N1.out; omega)); have z7 := C7.out _ W3.out))
      go_wp2_with fail
      go_region_held3 (fun w' => w'.cell? ⟨b, off + j * 8 + 6, none⟩ = some (.string (markT (n1 + 2))))
        (first | exact z6 | exact (C6.out _ W4.out).trans (congrArg (fun q => some (Value.string (markT q))) (by have e1 := N1.out; omega)))
        (first
          | (go_at_call 100; (with_reducible refine (markText_at _ (n1 + 2) (by omega) (by omega) _).mono ?_); rintro e y6 ⟨rfl, hb⟩; have W4 := Lib.hid (W3.out.drew.trans (hb.mono W3.out.drew.size)); clear hb))
      clear z4 z5 z6 z7
      have z7 := C7.out _ W4.out
      go_wp2_with (first | (go_at_call 94; (with_reducible refine (m1.atz _ (n1 + 3) (by omega) ((rd_cong R7.out (by have e1 := N1.out; omega)).below W4.out) (by simp only [D.tcnt]; have e1 := N1.out; omega)).mono ?_); rintro e y7 ⟨n2, hn2, rfl, hb⟩; have W5 := Lib.hid (W4.out.trans (hb.mono W4.out.size)); simp only [D.tcnt] at hn2; have nb2 : n2 ≤ 1125899906842624 := (by have e1 := N1.out; omega); have hng2 : decide ((n2 : Int) < 0) = false := decide_eq_false (by omega); have N2 := Lib.hid hn2; clear hb; clear z7))
      go_roundw
      case rel =>
        have e1 := N1.out; have e2 := N2.out; exact ⟨j + 1, n2, by omega, by go_num, by go_num, by omega, Lib.hid (by have h_ := CT.out; simp only [D.cnt, D.cnts, Nat.add_zero] at h_; omega), Lib.hid (HB.out.trans (W5.out.mono HB.out.size))⟩
      case measure => simp [intOf]; omega
    · obtain rfl : j = xs.length := by omega
      have nb := NN.out
      rw [List.take_length] at nb
      have NB := Lib.hid nb
      clear nb
      go_wp2_with fail
      go_ret
      exact ⟨ret_int (by have := NB.out; omega), HB.out⟩

theorem n_ClassInfoS {xs : List D} (ih : ∀ x ∈ xs, ∃ (sName : ByteArray) (xSupers : List D) (xMethods : List D), x = (.struct [.str sName, .slice 1 xSupers, .slice 1 xMethods] : D) ∧ MkO Try.prog 38 (D.slice 1 xSupers) ∧ MkO Try.prog 38 (D.slice 1 xMethods)) : ∀ x ∈ xs, x.n = 3 := fun x hx => by
  obtain ⟨sName, xSupers, xMethods, rfl, _, _⟩ := ih x hx
  rfl
theorem n'_ClassInfoS {xs : List D} (ih : ∀ x ∈ xs, ∃ (sName : ByteArray) (xSupers : List D) (xMethods : List D), x = (.struct [.str sName, .slice 1 xSupers, .slice 1 xMethods] : D) ∧ HdO Try.prog 39 (D.slice 1 xSupers) ∧ HdO Try.prog 39 (D.slice 1 xMethods)) : ∀ x ∈ xs, x.n = 3 := fun x hx => by
  obtain ⟨sName, xSupers, xMethods, rfl, _, _⟩ := ih x hx
  rfl
set_option maxRecDepth 100000 in
set_option maxHeartbeats 2000000 in
theorem markClassInfoS_of (xs : List D) (hn : xs.length ≤ 140737488351232) (ih : ∀ x ∈ xs, ∃ (sName : ByteArray) (xSupers : List D) (xMethods : List D), x = (.struct [.str sName, .slice 1 xSupers, .slice 1 xMethods] : D) ∧ MkO Try.prog 38 (D.slice 1 xSupers) ∧ MkO Try.prog 38 (D.slice 1 xMethods)) : MkO Try.prog 70 (.slice 3 xs) := by
  intro w v fp k h hnd hl hk
  simp only [D.K] at h
  obtain ⟨A, c, he, h2, h3, h4⟩ := h
  obtain rfl : v = .slice A xs.length c := by simpa using he
  simp only [D.tcnt] at hk ⊢
  have hsz := n_ClassInfoS ih
  rcases h4 with ⟨rfl, rfl⟩ | ⟨b, off, f, rfl, h6, rfl, h8⟩
  · clear he hsz ih
    go_enter Try.func70, Try.ntmps70
    go_wp2_with fail
    go_loop [1, 5] (fun q i => i = .int .i64 0 ∧ q = .int .i64 k) (fun _ _ => 0)
    case atStart => exact ⟨rfl, rfl⟩
    case round =>
      obtain ⟨rfl, rfl⟩ := hrel
      go_wp2_with fail
      go_ret
      exact ⟨by first | rfl | exact ret_int (by simp [D.cnts]), by simp only [D.top, D.marks, D.K]; exact ⟨A, c, rfl, h2, h3, .inl ⟨True.intro, True.intro⟩⟩, TouchF.refl _ _⟩
  · rw [D.Row_flats hsz] at h8
    have IH := Lib.hid ih
    have HSZ := Lib.hid hsz
    have HL := Lib.hid hl
    have HN := Lib.hid hnd
    have H8 := Lib.hid h8
    have H2 := Lib.hid h2
    have H3 := Lib.hid h3
    have HB := Lib.hid (List.nodup_cons.1 hnd).1
    clear he ih hl hnd h8 h2 h3 hsz
    go_enter Try.func70, Try.ntmps70
    go_wp2_with fail
    go_loopw [1, 5] (fun q i wr => ∃ j n : Nat, j ≤ xs.length ∧ i = .int .i64 j ∧ q = .int .i64 n ∧ n ≤ 1125899906842624 ∧ Hid (n = k + D.cnts (xs.take j)) ∧ Hid (D.Row wr b off 1 (D.flats (D.marks (xs.take j) k) ++ D.flats (xs.drop j)) f ∧ TouchF (b :: f) w wr)) (fun _ i _ => xs.length - (intOf i).toNat)
    case atStart => exact ⟨0, k, Nat.zero_le _, rfl, rfl, by omega, Lib.hid (by simp [D.cnts]), Lib.hid ⟨by simpa [D.marks, D.flats] using H8.out, TouchF.refl _ _⟩⟩
    case round =>
      obtain ⟨j, n, hj, rfl, rfl, hnb, hnn, hrel⟩ := hrel
      obtain ⟨row0, ht⟩ := hrel.out
      have NN := Lib.hid hnn.out
      clear hrel hnn
      by_cases hlt : j < xs.length
      · obtain ⟨sName, xSupers, xMethods, hx, m0, m1⟩ := IH.out _ (List.getElem_mem hlt)
        have hlen := marks_len HSZ.out k j hj
        rw [marks_at hlt, hx] at row0
        have hct := cnt_take hlt
        have hcl := cnts_take_le xs (j + 1)
        have hmn := marks_next hlt k
        rw [hx] at hct hmn
        have nb := NN.out
        rw [← nb] at hmn
        have CT : Hid (n + (.struct [.str sName, .slice 1 xSupers, .slice 1 xMethods] : D).cnt = k + D.cnts (xs.take (j + 1))) := by show _ = _; omega
        have CB : Hid (k + D.cnts (xs.take (j + 1)) ≤ 1125899906842624) := by show _ ≤ _; omega
        have MN := Lib.hid hmn
        generalize hM : D.flats (D.marks (xs.take j) k) = M at row0 hlen
        generalize hR : D.flats (xs.drop (j + 1)) = R at row0
        have HLEN := Lib.hid hlen
        have HM := Lib.hid hM
        have HR := Lib.hid hR
        simp only [D.flat, D.flats, List.cons_append, List.nil_append, List.append_assoc] at row0
        have T0 := Lib.hid ht
        have cb := CB.out
        have ct := CT.out
        simp only [D.cnt, D.cnts, Nat.add_zero] at ct
        have ROW0 := Lib.hid row0
        clear hlen hct hcl hmn nb ht hM hR hx
        go_wp2_with (first
          | (go_at_call 100; (with_reducible refine (markText_at _ (n) (by omega) (by omega) _).mono ?_); rintro e y0 ⟨rfl, hb⟩; have ROW1 := Lib.hid (row_below ROW0.out hb); have T1 := Lib.hid (T0.out.trans (TouchF.of_below hb)); clear hb)
          | (refine wpl_leaf_str rfl _ _ _ rfl (b := b) (off := off) (fp := f) (rs := ((D.slice 1 xSupers) :: (D.slice 1 xMethods) :: R)) (m := sName) (ms := (M ++ [])) (p := off + j * 3) rfl rfl (by kernel_rfl) (by have h_ := HLEN.out; simp only [List.length_append, List.length_cons, List.length_nil]; omega) (row := (by simpa using ROW1.out)) HB.out (Row_live T1.out (HL.out b (by simp))) ?_; intro x0 row ht; have ROW2 := Lib.hid row; have T2 := Lib.hid (T1.out.trans ht); clear ROW1; clear row ht; obtain ⟨A1, c1, z1⟩ := row_slice (b := b) (off := off) (fp := f) (xs := xSupers) (sz := 1) (rs := ((D.slice 1 xMethods) :: R)) (ms := (M ++ [(.str (markT (n)))])) (by simpa using ROW2.out) (p := off + j * 3 + 1) (by have h_ := HLEN.out; simp only [List.length_append, List.length_cons, List.length_nil]; omega))
          | (go_at_call 38; obtain ⟨f2, hk2, hnd2, hsub2, put2⟩ := D.Row_call' (a := (D.slice 1 xSupers)) (b := b) (off := off) (fp := f) (rs := ((D.slice 1 xMethods) :: R)) (ms := (M ++ [(.str (markT (n)))])) (by simpa using ROW2.out) HN.out (p := off + j * 3 + 1) (by have h_ := HLEN.out; simp only [List.length_append, List.length_cons, List.length_nil]; omega) z1; (with_reducible refine (m0.atz _ (n + 1) (by omega) hk2 hnd2 (fun q hq => T2.out.live q (by simp [hsub2 q hq]) (HL.out q (by simp [hsub2 q hq]))) (by simp only [D.tcnt]; omega)).mono ?_); rintro e y1 ⟨n1, hn1, rfl, hk3, ht3⟩; simp only [D.tcnt] at hn1; have row := put2 _ _ hk3 ht3; have ht := ht3.mono (fun q hq => List.mem_cons_of_mem b (hsub2 q hq)); have ROW3 := Lib.hid row; have T3 := Lib.hid (T2.out.trans ht); clear ROW2; have N1 := Lib.hid hn1; have nb1 : n1 + 0 + D.cnts xMethods ≤ 1125899906842624 := (by omega); clear row ht hk2 hnd2 hsub2 put2 hk3 ht3 hn1; obtain ⟨A2, c2, z2⟩ := row_slice (b := b) (off := off) (fp := f) (xs := xMethods) (sz := 1) (rs := (R)) (ms := (M ++ [(.str (markT (n))), ((D.slice 1 xSupers : D).top (n + 1))])) (by simpa using ROW3.out) (p := off + j * 3 + 2) (by have h_ := HLEN.out; simp only [List.length_append, List.length_cons, List.length_nil]; omega))
          | (go_at_call 38; obtain ⟨f2, hk2, hnd2, hsub2, put2⟩ := D.Row_call' (a := (D.slice 1 xMethods)) (b := b) (off := off) (fp := f) (rs := (R)) (ms := (M ++ [(.str (markT (n))), ((D.slice 1 xSupers : D).top (n + 1))])) (by simpa using ROW3.out) HN.out (p := off + j * 3 + 2) (by have h_ := HLEN.out; simp only [List.length_append, List.length_cons, List.length_nil]; omega) z2; (with_reducible refine (m1.atz _ (n1) (by omega) hk2 hnd2 (fun q hq => T3.out.live q (by simp [hsub2 q hq]) (HL.out q (by simp [hsub2 q hq]))) (by simp only [D.tcnt]; omega)).mono ?_); rintro e y2 ⟨n2, hn2, rfl, hk3, ht3⟩; simp only [D.tcnt] at hn2; have row := put2 _ _ hk3 ht3; have ht := ht3.mono (fun q hq => List.mem_cons_of_mem b (hsub2 q hq)); have ROW4 := Lib.hid row; have T4 := Lib.hid (T3.out.trans ht); clear ROW3; have N2 := Lib.hid hn2; have nb2 : n2 + 0 ≤ 1125899906842624 := (by omega); clear row ht hk2 hnd2 hsub2 put2 hk3 ht3 hn2))
        go_roundw
        case rel =>
          have e1 := N1.out; have e2 := N2.out; refine ⟨j + 1, n2, by omega, by go_num, by go_num, by omega, Lib.hid (by have h_ := CT.out; simp only [D.cnt, D.cnts, Nat.add_zero] at h_; omega), Lib.hid ⟨?_, T4.out⟩⟩
          rw [← MN_eq MN.out HM.out HR.out]
          have hr := ROW4.out
          subst e1
          subst e2
          refine Eq.mp (congrArg (fun L => D.Row _ b off 1 L f) ?_) hr
          simp (disch := omega) [D.mark, D.marks, D.flat, D.flats, D.top, D.cnt, D.cnts, i64_p]
          repeat' (first | (apply And.intro) | omega | exact congrArg markT (by omega) | exact congrArg (D.marks _) (by omega))
        case measure => simp [intOf]; omega
      · obtain rfl : j = xs.length := by omega
        rw [List.drop_length, D.flats, List.append_nil, List.take_length] at row0
        have ROW := Lib.hid ((D.Row_flats (D.marks_mem_n HSZ.out k)).2 row0)
        have HT := Lib.hid ht
        have nb := NN.out
        rw [List.take_length] at nb
        have NB := Lib.hid nb
        clear row0 ht nb
        go_wp2_with fail
        go_ret
        exact ⟨ret_int (by have := NB.out; omega), by simp only [D.top, D.K]; exact ⟨_, c, by rw [D.marks_length], by rw [D.marks_length]; exact H2.out, H3.out, .inr ⟨b, off, f, rfl, Nat.lt_of_lt_of_le h6 HT.out.size, rfl, ROW.out⟩⟩, HT.out⟩
set_option maxRecDepth 100000 in
set_option maxHeartbeats 2000000 in
theorem heldClassInfoS_of (xs : List D) (hn : xs.length ≤ 140737488351232) (ih : ∀ x ∈ xs, ∃ (sName : ByteArray) (xSupers : List D) (xMethods : List D), x = (.struct [.str sName, .slice 1 xSupers, .slice 1 xMethods] : D) ∧ HdO Try.prog 39 (D.slice 1 xSupers) ∧ HdO Try.prog 39 (D.slice 1 xMethods)) : HdO Try.prog 75 (.slice 3 xs) := by
  intro w v k h hk
  simp only [D.top] at h
  obtain ⟨A, c, rfl, _, _, hrow⟩ := rd_slice1 h
  simp only [D.tcnt] at hk ⊢
  rw [D.marks_length]
  have IH := Lib.hid ih
  have H := Lib.hid hrow
  clear ih h hrow
  go_enter Try.func75, Try.ntmps75
  go_wp2_with fail
  go_loopw [1, 5] (fun q i wr => ∃ j n : Nat, j ≤ xs.length ∧ i = .int .i64 j ∧ q = .int .i64 n ∧ n ≤ 1125899906842624 ∧ Hid (n = k + D.cnts (xs.take j)) ∧ Hid (Below w.heap.size w wr)) (fun _ i _ => xs.length - (intOf i).toNat)
  case atStart => exact ⟨0, k, Nat.zero_le _, rfl, rfl, by omega, Lib.hid (by simp [D.cnts]), Lib.hid (Below.refl _ _)⟩
  case round =>
    obtain ⟨j, n, hj, rfl, rfl, hnb, hnn, hrel⟩ := hrel
    have HB := Lib.hid hrel.out
    have NN := Lib.hid hnn.out
    clear hrel hnn
    by_cases hlt : j < xs.length
    · obtain ⟨sName, xSupers, xMethods, hx, m0, m1⟩ := IH.out _ (List.getElem_mem hlt)
      have hget := marks_get hlt k
      have hct := cnt_take hlt
      have hcl := cnts_take_le xs (j + 1)
      have nb := NN.out
      rw [← nb, hx] at hget
      rw [hx] at hct
      have ct : n + (.struct [.str sName, .slice 1 xSupers, .slice 1 xMethods] : D).cnt = k + D.cnts (xs.take (j + 1)) := by omega
      have CB : Hid (k + D.cnts (xs.take (j + 1)) ≤ 1125899906842624) := by show _ ≤ _; omega
      have CT := Lib.hid ct
      have cb := CB.out
      simp only [D.cnt, D.cnts, Nat.add_zero] at ct
      obtain ⟨b, off, cs, rfl, hcl2, hrd0, hc⟩ := (RdRow.below H.out (by omega) HB.out).get hget
      have hrd : RdF wr [.str (markT (n)), (D.slice 1 xSupers).top (n + 1), (D.slice 1 xMethods).top (n + D.cnts xSupers + 1)] cs := by
        have h1 := rd_flat.1 hrd0
        refine Eq.mp (congrArg (fun L => RdF wr L cs) ?_) h1
        simp (disch := omega) [D.mark, D.marks, D.flat, D.flats, D.top, D.cnt, D.cnts, i64_p]
        repeat' (first | (apply And.intro) | omega | exact congrArg markT (by omega) | exact congrArg (D.marks _) (by omega))
      simp only [rdF_cons, rdF_nil, rd_int, rd_bool, rd_str] at hrd
      obtain ⟨q0, s0, rfl, rfl, q1, s1, rfl, r1, q2, s2, rfl, r2, rfl⟩ := hrd
      obtain ⟨A1, c1, rfl⟩ := rd_top_slice r1
      have R1 := Lib.hid r1
      obtain ⟨A2, c2, rfl⟩ := rd_top_slice r2
      have R2 := Lib.hid r2
      have C0 : Hid (∀ w', Below wr.heap.size wr w' → w'.cell? ⟨b, off + j * 3, none⟩ = some (.string (markT (n)))) := fun w' hb => (fun h0 : wr.cell? ⟨b, off + j * 3, none⟩ = some (.string (markT (n))) => (hb.cell (World.block_lt_of_cell? wr _ h0)).trans h0) (by simpa using hc 0 _ rfl)
      have C1 : Hid (∀ w', Below wr.heap.size wr w' → w'.cell? ⟨b, off + j * 3 + 1, none⟩ = some (.slice A1 xSupers.length c1)) := fun w' hb => (fun h0 : wr.cell? ⟨b, off + j * 3 + 1, none⟩ = some (.slice A1 xSupers.length c1) => (hb.cell (World.block_lt_of_cell? wr _ h0)).trans h0) (by simpa using hc 1 _ rfl)
      have C2 : Hid (∀ w', Below wr.heap.size wr w' → w'.cell? ⟨b, off + j * 3 + 2, none⟩ = some (.slice A2 xMethods.length c2)) := fun w' hb => (fun h0 : wr.cell? ⟨b, off + j * 3 + 2, none⟩ = some (.slice A2 xMethods.length c2) => (hb.cell (World.block_lt_of_cell? wr _ h0)).trans h0) (by simpa using hc 2 _ rfl)
      have W0 := Lib.hid (Below.refl wr.heap.size wr)
      clear hct hcl nb hx hget hrd0 hcl2 hc r1 r2
      have z0 : World.cell? _ ⟨b, off + j * 3, none⟩ = some (.string (markT (n))) := (C0.out _ W0.out).trans (congrArg (fun q => some (Value.string (markT q))) (by omega))
      have z1 := C1.out _ W0.out
      go_wp2_with fail
      go_region_held3 (fun w' => w'.cell? ⟨b, off + j * 3, none⟩ = some (.string (markT (n))))
        (first | exact z0 | exact (C0.out _ W1.out).trans (congrArg (fun q => some (Value.string (markT q))) (by omega)))
        (first
          | (go_at_call 100; (with_reducible refine (markText_at _ (n) (by omega) (by omega) _).mono ?_); rintro e y0 ⟨rfl, hb⟩; have W1 := Lib.hid (W0.out.drew.trans (hb.mono W0.out.drew.size)); clear hb))
      clear z0 z1
      have z1 := C1.out _ W1.out
      go_wp2_with (first | (go_at_call 39; (with_reducible refine (m0.atz _ (n + 1) (by omega) ((rd_cong R1.out (by omega)).below W1.out) (by simp only [D.tcnt]; omega)).mono ?_); rintro e y1 ⟨n1, hn1, rfl, hb⟩; have W2 := Lib.hid (W1.out.trans (hb.mono W1.out.size)); simp only [D.tcnt] at hn1; have nb1 : n1 ≤ 1125899906842624 := (by omega); have hng1 : decide ((n1 : Int) < 0) = false := decide_eq_false (by omega); have N1 := Lib.hid hn1; clear hb; clear z1; have z2 := C2.out _ W2.out))
      go_wp2_with (first | (go_at_call 39; (with_reducible refine (m1.atz _ (n1) (by omega) ((rd_cong R2.out (by have e1 := N1.out; omega)).below W2.out) (by simp only [D.tcnt]; have e1 := N1.out; omega)).mono ?_); rintro e y2 ⟨n2, hn2, rfl, hb⟩; have W3 := Lib.hid (W2.out.trans (hb.mono W2.out.size)); simp only [D.tcnt] at hn2; have nb2 : n2 ≤ 1125899906842624 := (by have e1 := N1.out; omega); have hng2 : decide ((n2 : Int) < 0) = false := decide_eq_false (by omega); have N2 := Lib.hid hn2; clear hb; clear z2))
      go_roundw
      case rel =>
        have e1 := N1.out; have e2 := N2.out; exact ⟨j + 1, n2, by omega, by go_num, by go_num, by omega, Lib.hid (by have h_ := CT.out; simp only [D.cnt, D.cnts, Nat.add_zero] at h_; omega), Lib.hid (HB.out.trans (W3.out.mono HB.out.size))⟩
      case measure => simp [intOf]; omega
    · obtain rfl : j = xs.length := by omega
      have nb := NN.out
      rw [List.take_length] at nb
      have NB := Lib.hid nb
      clear nb
      go_wp2_with fail
      go_ret
      exact ⟨ret_int (by have := NB.out; omega), HB.out⟩

theorem n_InstInfoS {xs : List D} (ih : ∀ x ∈ xs, ∃ (sClass : ByteArray) (sCon : ByteArray) (iVars : Int) (xPreds : List D), x = (.struct [.str sClass, .str sCon, .int .i64 iVars, .slice 2 xPreds] : D) ∧ MkO Try.prog 88 (D.slice 2 xPreds)) : ∀ x ∈ xs, x.n = 4 := fun x hx => by
  obtain ⟨sClass, sCon, iVars, xPreds, rfl, _⟩ := ih x hx
  rfl
theorem n'_InstInfoS {xs : List D} (ih : ∀ x ∈ xs, ∃ (sClass : ByteArray) (sCon : ByteArray) (iVars : Int) (xPreds : List D), x = (.struct [.str sClass, .str sCon, .int .i64 iVars, .slice 2 xPreds] : D) ∧ HdO Try.prog 89 (D.slice 2 xPreds)) : ∀ x ∈ xs, x.n = 4 := fun x hx => by
  obtain ⟨sClass, sCon, iVars, xPreds, rfl, _⟩ := ih x hx
  rfl
set_option maxRecDepth 100000 in
set_option maxHeartbeats 2000000 in
theorem markInstInfoS_of (xs : List D) (hn : xs.length ≤ 140737488351232) (ih : ∀ x ∈ xs, ∃ (sClass : ByteArray) (sCon : ByteArray) (iVars : Int) (xPreds : List D), x = (.struct [.str sClass, .str sCon, .int .i64 iVars, .slice 2 xPreds] : D) ∧ MkO Try.prog 88 (D.slice 2 xPreds)) : MkO Try.prog 71 (.slice 4 xs) := by
  intro w v fp k h hnd hl hk
  simp only [D.K] at h
  obtain ⟨A, c, he, h2, h3, h4⟩ := h
  obtain rfl : v = .slice A xs.length c := by simpa using he
  simp only [D.tcnt] at hk ⊢
  have hsz := n_InstInfoS ih
  rcases h4 with ⟨rfl, rfl⟩ | ⟨b, off, f, rfl, h6, rfl, h8⟩
  · clear he hsz ih
    go_enter Try.func71, Try.ntmps71
    go_wp2_with fail
    go_loop [1, 5] (fun q i => i = .int .i64 0 ∧ q = .int .i64 k) (fun _ _ => 0)
    case atStart => exact ⟨rfl, rfl⟩
    case round =>
      obtain ⟨rfl, rfl⟩ := hrel
      go_wp2_with fail
      go_ret
      exact ⟨by first | rfl | exact ret_int (by simp [D.cnts]), by simp only [D.top, D.marks, D.K]; exact ⟨A, c, rfl, h2, h3, .inl ⟨True.intro, True.intro⟩⟩, TouchF.refl _ _⟩
  · rw [D.Row_flats hsz] at h8
    have IH := Lib.hid ih
    have HSZ := Lib.hid hsz
    have HL := Lib.hid hl
    have HN := Lib.hid hnd
    have H8 := Lib.hid h8
    have H2 := Lib.hid h2
    have H3 := Lib.hid h3
    have HB := Lib.hid (List.nodup_cons.1 hnd).1
    clear he ih hl hnd h8 h2 h3 hsz
    go_enter Try.func71, Try.ntmps71
    go_wp2_with fail
    go_loopw [1, 5] (fun q i wr => ∃ j n : Nat, j ≤ xs.length ∧ i = .int .i64 j ∧ q = .int .i64 n ∧ n ≤ 1125899906842624 ∧ Hid (n = k + D.cnts (xs.take j)) ∧ Hid (D.Row wr b off 1 (D.flats (D.marks (xs.take j) k) ++ D.flats (xs.drop j)) f ∧ TouchF (b :: f) w wr)) (fun _ i _ => xs.length - (intOf i).toNat)
    case atStart => exact ⟨0, k, Nat.zero_le _, rfl, rfl, by omega, Lib.hid (by simp [D.cnts]), Lib.hid ⟨by simpa [D.marks, D.flats] using H8.out, TouchF.refl _ _⟩⟩
    case round =>
      obtain ⟨j, n, hj, rfl, rfl, hnb, hnn, hrel⟩ := hrel
      obtain ⟨row0, ht⟩ := hrel.out
      have NN := Lib.hid hnn.out
      clear hrel hnn
      by_cases hlt : j < xs.length
      · obtain ⟨sClass, sCon, iVars, xPreds, hx, m0⟩ := IH.out _ (List.getElem_mem hlt)
        have hlen := marks_len HSZ.out k j hj
        rw [marks_at hlt, hx] at row0
        have hct := cnt_take hlt
        have hcl := cnts_take_le xs (j + 1)
        have hmn := marks_next hlt k
        rw [hx] at hct hmn
        have nb := NN.out
        rw [← nb] at hmn
        have CT : Hid (n + (.struct [.str sClass, .str sCon, .int .i64 iVars, .slice 2 xPreds] : D).cnt = k + D.cnts (xs.take (j + 1))) := by show _ = _; omega
        have CB : Hid (k + D.cnts (xs.take (j + 1)) ≤ 1125899906842624) := by show _ ≤ _; omega
        have MN := Lib.hid hmn
        generalize hM : D.flats (D.marks (xs.take j) k) = M at row0 hlen
        generalize hR : D.flats (xs.drop (j + 1)) = R at row0
        have HLEN := Lib.hid hlen
        have HM := Lib.hid hM
        have HR := Lib.hid hR
        simp only [D.flat, D.flats, List.cons_append, List.nil_append, List.append_assoc] at row0
        have T0 := Lib.hid ht
        have cb := CB.out
        have ct := CT.out
        simp only [D.cnt, D.cnts, Nat.add_zero] at ct
        have ROW0 := Lib.hid row0
        clear hlen hct hcl hmn nb ht hM hR hx
        go_wp2_with (first
          | (go_at_call 100; (with_reducible refine (markText_at _ (n) (by omega) (by omega) _).mono ?_); rintro e y0 ⟨rfl, hb⟩; have ROW1 := Lib.hid (row_below ROW0.out hb); have T1 := Lib.hid (T0.out.trans (TouchF.of_below hb)); clear hb)
          | (refine wpl_leaf_str rfl _ _ _ rfl (b := b) (off := off) (fp := f) (rs := ((D.str sCon) :: (D.int .i64 iVars) :: (D.slice 2 xPreds) :: R)) (m := sClass) (ms := (M ++ [])) (p := off + j * 4) rfl rfl (by kernel_rfl) (by have h_ := HLEN.out; simp only [List.length_append, List.length_cons, List.length_nil]; omega) (row := (by simpa using ROW1.out)) HB.out (Row_live T1.out (HL.out b (by simp))) ?_; intro x0 row ht; have ROW2 := Lib.hid row; have T2 := Lib.hid (T1.out.trans ht); clear ROW1; clear row ht)
          | (go_at_call 100; (with_reducible refine (markText_at _ (n + 1) (by omega) (by omega) _).mono ?_); rintro e y1 ⟨rfl, hb⟩; have ROW3 := Lib.hid (row_below ROW2.out hb); have T3 := Lib.hid (T2.out.trans (TouchF.of_below hb)); clear hb)
          | (refine wpl_leaf_str rfl _ _ _ rfl (b := b) (off := off) (fp := f) (rs := ((D.int .i64 iVars) :: (D.slice 2 xPreds) :: R)) (m := sCon) (ms := (M ++ [(.str (markT (n)))])) (p := off + j * 4 + 1) rfl rfl (by kernel_rfl) (by have h_ := HLEN.out; simp only [List.length_append, List.length_cons, List.length_nil]; omega) (row := (by simpa using ROW3.out)) HB.out (Row_live T3.out (HL.out b (by simp))) ?_; intro x1 row ht; have ROW4 := Lib.hid row; have T4 := Lib.hid (T3.out.trans ht); clear ROW3; clear row ht)
          | (refine wpl_leaf_int rfl _ _ _ rfl (b := b) (off := off) (fp := f) (rs := ((D.slice 2 xPreds) :: R)) (m := iVars) (ms := (M ++ [(.str (markT (n))), (.str (markT (n + 1)))])) (p := off + j * 4 + 2) rfl rfl (by kernel_rfl) (by have h_ := HLEN.out; simp only [List.length_append, List.length_cons, List.length_nil]; omega) (row := (by simpa using ROW4.out)) HB.out (Row_live T4.out (HL.out b (by simp))) ?_; intro x2 row ht; have ROW5 := Lib.hid row; have T5 := Lib.hid (T4.out.trans ht); clear ROW4; clear row ht; obtain ⟨A3, c3, z3⟩ := row_slice (b := b) (off := off) (fp := f) (xs := xPreds) (sz := 2) (rs := (R)) (ms := (M ++ [(.str (markT (n))), (.str (markT (n + 1))), (.int .i64 ((n : Int) + 1 + 1))])) (by simpa using ROW5.out) (p := off + j * 4 + 3) (by have h_ := HLEN.out; simp only [List.length_append, List.length_cons, List.length_nil]; omega))
          | (go_at_call 88; obtain ⟨f2, hk2, hnd2, hsub2, put2⟩ := D.Row_call' (a := (D.slice 2 xPreds)) (b := b) (off := off) (fp := f) (rs := (R)) (ms := (M ++ [(.str (markT (n))), (.str (markT (n + 1))), (.int .i64 ((n : Int) + 1 + 1))])) (by simpa using ROW5.out) HN.out (p := off + j * 4 + 3) (by have h_ := HLEN.out; simp only [List.length_append, List.length_cons, List.length_nil]; omega) z3; (with_reducible refine (m0.atz _ (n + 3) (by omega) hk2 hnd2 (fun q hq => T5.out.live q (by simp [hsub2 q hq]) (HL.out q (by simp [hsub2 q hq]))) (by simp only [D.tcnt]; omega)).mono ?_); rintro e y3 ⟨n1, hn1, rfl, hk3, ht3⟩; simp only [D.tcnt] at hn1; have row := put2 _ _ hk3 ht3; have ht := ht3.mono (fun q hq => List.mem_cons_of_mem b (hsub2 q hq)); have ROW6 := Lib.hid row; have T6 := Lib.hid (T5.out.trans ht); clear ROW5; have N1 := Lib.hid hn1; have nb1 : n1 + 0 ≤ 1125899906842624 := (by omega); clear row ht hk2 hnd2 hsub2 put2 hk3 ht3 hn1))
        go_roundw
        case rel =>
          have e1 := N1.out; refine ⟨j + 1, n1, by omega, by go_num, by go_num, by omega, Lib.hid (by have h_ := CT.out; simp only [D.cnt, D.cnts, Nat.add_zero] at h_; omega), Lib.hid ⟨?_, T6.out⟩⟩
          rw [← MN_eq MN.out HM.out HR.out]
          have hr := ROW6.out
          have v0 : IntKind.i64.wrap (((n : Int) + 2)) = (n : Int) + 1 + 1 := i64_p _ (by omega) (by omega)
          simpa [D.mark, D.marks, D.flat, D.flats, D.top, D.cnt, D.cnts, Nat.add_assoc, v0] using hr
        case measure => simp [intOf]; omega
      · obtain rfl : j = xs.length := by omega
        rw [List.drop_length, D.flats, List.append_nil, List.take_length] at row0
        have ROW := Lib.hid ((D.Row_flats (D.marks_mem_n HSZ.out k)).2 row0)
        have HT := Lib.hid ht
        have nb := NN.out
        rw [List.take_length] at nb
        have NB := Lib.hid nb
        clear row0 ht nb
        go_wp2_with fail
        go_ret
        exact ⟨ret_int (by have := NB.out; omega), by simp only [D.top, D.K]; exact ⟨_, c, by rw [D.marks_length], by rw [D.marks_length]; exact H2.out, H3.out, .inr ⟨b, off, f, rfl, Nat.lt_of_lt_of_le h6 HT.out.size, rfl, ROW.out⟩⟩, HT.out⟩
set_option maxRecDepth 100000 in
set_option maxHeartbeats 2000000 in
theorem heldInstInfoS_of (xs : List D) (hn : xs.length ≤ 140737488351232) (ih : ∀ x ∈ xs, ∃ (sClass : ByteArray) (sCon : ByteArray) (iVars : Int) (xPreds : List D), x = (.struct [.str sClass, .str sCon, .int .i64 iVars, .slice 2 xPreds] : D) ∧ HdO Try.prog 89 (D.slice 2 xPreds)) : HdO Try.prog 76 (.slice 4 xs) := by
  intro w v k h hk
  simp only [D.top] at h
  obtain ⟨A, c, rfl, _, _, hrow⟩ := rd_slice1 h
  simp only [D.tcnt] at hk ⊢
  rw [D.marks_length]
  have IH := Lib.hid ih
  have H := Lib.hid hrow
  clear ih h hrow
  go_enter Try.func76, Try.ntmps76
  go_wp2_with fail
  go_loopw [1, 5] (fun q i wr => ∃ j n : Nat, j ≤ xs.length ∧ i = .int .i64 j ∧ q = .int .i64 n ∧ n ≤ 1125899906842624 ∧ Hid (n = k + D.cnts (xs.take j)) ∧ Hid (Below w.heap.size w wr)) (fun _ i _ => xs.length - (intOf i).toNat)
  case atStart => exact ⟨0, k, Nat.zero_le _, rfl, rfl, by omega, Lib.hid (by simp [D.cnts]), Lib.hid (Below.refl _ _)⟩
  case round =>
    obtain ⟨j, n, hj, rfl, rfl, hnb, hnn, hrel⟩ := hrel
    have HB := Lib.hid hrel.out
    have NN := Lib.hid hnn.out
    clear hrel hnn
    by_cases hlt : j < xs.length
    · obtain ⟨sClass, sCon, iVars, xPreds, hx, m0⟩ := IH.out _ (List.getElem_mem hlt)
      have hget := marks_get hlt k
      have hct := cnt_take hlt
      have hcl := cnts_take_le xs (j + 1)
      have nb := NN.out
      rw [← nb, hx] at hget
      rw [hx] at hct
      have ct : n + (.struct [.str sClass, .str sCon, .int .i64 iVars, .slice 2 xPreds] : D).cnt = k + D.cnts (xs.take (j + 1)) := by omega
      have CB : Hid (k + D.cnts (xs.take (j + 1)) ≤ 1125899906842624) := by show _ ≤ _; omega
      have CT := Lib.hid ct
      have cb := CB.out
      simp only [D.cnt, D.cnts, Nat.add_zero] at ct
      obtain ⟨b, off, cs, rfl, hcl2, hrd0, hc⟩ := (RdRow.below H.out (by omega) HB.out).get hget
      have hrd : RdF wr [.str (markT (n)), .str (markT (n + 1)), .int .i64 ((n : Int) + 2), (D.slice 2 xPreds).top (n + 3)] cs := by
        have h1 := rd_flat.1 hrd0
        have v2 : IntKind.i64.wrap ((n : Int) + 2) = ((n : Int) + 2) := i64_p _ (by omega) (by omega)
        simpa [D.mark, D.marks, D.flat, D.flats, D.top, D.cnt, D.cnts, Nat.add_assoc, Nat.add_comm, Nat.add_left_comm, v2] using h1
      simp only [rdF_cons, rdF_nil, rd_int, rd_bool, rd_str] at hrd
      obtain ⟨q0, s0, rfl, rfl, q1, s1, rfl, rfl, q2, s2, rfl, rfl, q3, s3, rfl, r3, rfl⟩ := hrd
      obtain ⟨A3, c3, rfl⟩ := rd_top_slice r3
      have R3 := Lib.hid r3
      have C0 : Hid (∀ w', Below wr.heap.size wr w' → w'.cell? ⟨b, off + j * 4, none⟩ = some (.string (markT (n)))) := fun w' hb => (fun h0 : wr.cell? ⟨b, off + j * 4, none⟩ = some (.string (markT (n))) => (hb.cell (World.block_lt_of_cell? wr _ h0)).trans h0) (by simpa using hc 0 _ rfl)
      have C1 : Hid (∀ w', Below wr.heap.size wr w' → w'.cell? ⟨b, off + j * 4 + 1, none⟩ = some (.string (markT (n + 1)))) := fun w' hb => (fun h0 : wr.cell? ⟨b, off + j * 4 + 1, none⟩ = some (.string (markT (n + 1))) => (hb.cell (World.block_lt_of_cell? wr _ h0)).trans h0) (by simpa using hc 1 _ rfl)
      have C2 : Hid (∀ w', Below wr.heap.size wr w' → w'.cell? ⟨b, off + j * 4 + 2, none⟩ = some (.int .i64 ((n : Int) + 2))) := fun w' hb => (fun h0 : wr.cell? ⟨b, off + j * 4 + 2, none⟩ = some (.int .i64 ((n : Int) + 2)) => (hb.cell (World.block_lt_of_cell? wr _ h0)).trans h0) (by simpa using hc 2 _ rfl)
      have C3 : Hid (∀ w', Below wr.heap.size wr w' → w'.cell? ⟨b, off + j * 4 + 3, none⟩ = some (.slice A3 xPreds.length c3)) := fun w' hb => (fun h0 : wr.cell? ⟨b, off + j * 4 + 3, none⟩ = some (.slice A3 xPreds.length c3) => (hb.cell (World.block_lt_of_cell? wr _ h0)).trans h0) (by simpa using hc 3 _ rfl)
      have W0 := Lib.hid (Below.refl wr.heap.size wr)
      clear hct hcl nb hx hget hrd0 hcl2 hc r3
      have z0 : World.cell? _ ⟨b, off + j * 4, none⟩ = some (.string (markT (n))) := (C0.out _ W0.out).trans (congrArg (fun q => some (Value.string (markT q))) (by omega))
      have z1 : World.cell? _ ⟨b, off + j * 4 + 1, none⟩ = some (.string (markT (n + 1))) := (C1.out _ W0.out).trans (congrArg (fun q => some (Value.string (markT q))) (by omega))
      have z2 : World.cell? _ ⟨b, off + j * 4 + 2, none⟩ = some (.int .i64 ((n : Int) + 1 + 1)) := (C2.out _ W0.out).trans (congrArg some (congrArg (Value.int .i64) (by omega)))
      have z3 := C3.out _ W0.out
      go_wp2_with fail
      go_region_held3 (fun w' => w'.cell? ⟨b, off + j * 4, none⟩ = some (.string (markT (n))))
        (first | exact z0 | exact (C0.out _ W1.out).trans (congrArg (fun q => some (Value.string (markT q))) (by omega)))
        (first
          | (go_at_call 100; (with_reducible refine (markText_at _ (n) (by omega) (by omega) _).mono ?_); rintro e y0 ⟨rfl, hb⟩; have W1 := Lib.hid (W0.out.drew.trans (hb.mono W0.out.drew.size)); clear hb))
      clear z0 z1 z2 z3
      have z1 : World.cell? _ ⟨b, off + j * 4 + 1, none⟩ = some (.string (markT (n + 1))) := (C1.out _ W1.out).trans (congrArg (fun q => some (Value.string (markT q))) (by omega))
      have z2 : World.cell? _ ⟨b, off + j * 4 + 2, none⟩ = some (.int .i64 ((n : Int) + 1 + 1)) := (C2.out _ W1.out).trans (congrArg some (congrArg (Value.int .i64) (by omega)))
      have z3 := C3.out _ W1.out
      go_wp2_with fail
      go_region_held3 (fun w' => w'.cell? ⟨b, off + j * 4 + 1, none⟩ = some (.string (markT (n + 1))))
        (first | exact z1 | exact (C1.out _ W2.out).trans (congrArg (fun q => some (Value.string (markT q))) (by omega)))
        (first
          | (go_at_call 100; (with_reducible refine (markText_at _ (n + 1) (by omega) (by omega) _).mono ?_); rintro e y1 ⟨rfl, hb⟩; have W2 := Lib.hid (W1.out.drew.trans (hb.mono W1.out.drew.size)); clear hb))
      clear z1 z2 z3
      have z2 : World.cell? _ ⟨b, off + j * 4 + 2, none⟩ = some (.int .i64 ((n : Int) + 1 + 1)) := (C2.out _ W2.out).trans (congrArg some (congrArg (Value.int .i64) (by omega)))
      have z3 := C3.out _ W2.out
      go_wp2_with (first | (go_at_call 89; (with_reducible refine (m0.atz _ (n + 3) (by omega) ((rd_cong R3.out (by omega)).below W2.out) (by simp only [D.tcnt]; omega)).mono ?_); rintro e y3 ⟨n1, hn1, rfl, hb⟩; have W3 := Lib.hid (W2.out.trans (hb.mono W2.out.size)); simp only [D.tcnt] at hn1; have nb1 : n1 ≤ 1125899906842624 := (by omega); have hng1 : decide ((n1 : Int) < 0) = false := decide_eq_false (by omega); have N1 := Lib.hid hn1; clear hb; clear z2 z3))
      go_roundw
      case rel =>
        have e1 := N1.out; exact ⟨j + 1, n1, by omega, by go_num, by go_num, by omega, Lib.hid (by have h_ := CT.out; simp only [D.cnt, D.cnts, Nat.add_zero] at h_; omega), Lib.hid (HB.out.trans (W3.out.mono HB.out.size))⟩
      case measure => simp [intOf]; omega
    · obtain rfl : j = xs.length := by omega
      have nb := NN.out
      rw [List.take_length] at nb
      have NB := Lib.hid nb
      clear nb
      go_wp2_with fail
      go_ret
      exact ⟨ret_int (by have := NB.out; omega), HB.out⟩

set_option maxRecDepth 100000 in
theorem markTables_of (xCons : List D) (xDatas : List D) (xMethods : List D) (xClasses : List D) (xInsts : List D) (mkCons : MkO Try.prog 67 (D.slice 5 xCons)) (mkDatas : MkO Try.prog 68 (D.slice 3 xDatas)) (mkMethods : MkO Try.prog 69 (D.slice 8 xMethods)) (mkClasses : MkO Try.prog 70 (D.slice 3 xClasses)) (mkInsts : MkO Try.prog 71 (D.slice 4 xInsts)) : MkA Try.prog 21 (.struct [.slice 5 xCons, .slice 3 xDatas, .slice 8 xMethods, .slice 3 xClasses, .slice 4 xInsts]) := by
  intro w cs fp k h hnd hl hk
  obtain ⟨u0, u1, u2, u3, u4, rfl⟩ := cells5 (D.K_len _ h)
  have h0 := D.K_struct.1 h
  have hlt := D.Fields_lt _ h0
  have hb := (Below.refl w.heap.size w).alloc (Nat.le_refl _) (.cells #[u0, u1, u2, u3, u4] 40)
  have hF := D.Fields_below h0 hb
  have BK := Lib.hid (blk_new w (.cells #[u0, u1, u2, u3, u4] 40))
  have T0 := Lib.hid (TouchF.of_below (fp := fp) hb)
  have GN : Hid (w.heap.size ∉ fp) := fun hm => by have := hlt _ hm; omega
  have HL := Lib.hid hl
  have HND := Lib.hid hnd
  have HF := Lib.hid hF
  have TC : Hid (D.tcnt (.struct [.slice 5 xCons, .slice 3 xDatas, .slice 8 xMethods, .slice 3 xClasses, .slice 4 xInsts]) = (D.slice 5 xCons).tcnt + (D.slice 3 xDatas).tcnt + (D.slice 8 xMethods).tcnt + (D.slice 3 xClasses).tcnt + (D.slice 4 xInsts).tcnt) := by show _ = _; simp only [D.tcnt, D.tcnts]; omega
  rw [TC.out] at hk
  clear h h0 hlt hb hF hl hnd
  have MKCons := Lib.hid mkCons
  clear mkCons
  have MKDatas := Lib.hid mkDatas
  clear mkDatas
  have MKMethods := Lib.hid mkMethods
  clear mkMethods
  have MKClasses := Lib.hid mkClasses
  clear mkClasses
  have MKInsts := Lib.hid mkInsts
  clear mkInsts
  go_enter Try.func21, Try.ntmps21
  go_wp2_with fail
  obtain ⟨g0, nd0, sub0, kk0, put0⟩ := D.Fields_at (ms := []) (a := (D.slice 5 xCons)) (rs := [(D.slice 3 xDatas), (D.slice 8 xMethods), (D.slice 3 xClasses), (D.slice 4 xInsts)]) (n1 := 0) (n2 := 1) HF.out HND.out (by rfl) (by rfl)
  have CAL := MKCons.out _ _ g0 (k) kk0 nd0 (fun j hj => T0.out.live j (sub0 j hj) (HL.out j (sub0 j hj))) (by omega)
  refine CAL.mono ?_
  clear CAL
  rintro e w1 ⟨rfl, kn, tn⟩
  have HF := Lib.hid (put0 _ _ tn kn)
  have T0 := Lib.hid (T0.out.trans (tn.mono sub0))
  have BK := Lib.hid (cells_touch BK.out tn (fun hm => GN.out (sub0 _ hm)))
  clear kn tn put0 kk0 nd0 sub0
  have z_0 := blk_cell BK.out 0
  have z_1 := blk_cell BK.out 1
  have z_2 := blk_cell BK.out 2
  have z_3 := blk_cell BK.out 3
  have z_4 := blk_cell BK.out 4
  simp at z_0 z_1 z_2 z_3 z_4
  go_wp2_with fail
  obtain ⟨g1, nd1, sub1, kk1, put1⟩ := D.Fields_at (ms := [((D.slice 5 xCons).top (k))]) (a := (D.slice 3 xDatas)) (rs := [(D.slice 8 xMethods), (D.slice 3 xClasses), (D.slice 4 xInsts)]) (n1 := 1) (n2 := 1) HF.out HND.out (by rfl) (by rfl)
  have CAL := MKDatas.out _ _ g1 (k + (D.slice 5 xCons).tcnt) kk1 nd1 (fun j hj => T0.out.live j (sub1 j hj) (HL.out j (sub1 j hj))) (by omega)
  refine CAL.mono ?_
  clear CAL
  rintro e w2 ⟨rfl, kn, tn⟩
  have HF := Lib.hid (put1 _ _ tn kn)
  have T0 := Lib.hid (T0.out.trans (tn.mono sub1))
  have BK := Lib.hid (cells_touch BK.out tn (fun hm => GN.out (sub1 _ hm)))
  clear kn tn put1 kk1 nd1 sub1
  have z_0 := blk_cell BK.out 0
  have z_1 := blk_cell BK.out 1
  have z_2 := blk_cell BK.out 2
  have z_3 := blk_cell BK.out 3
  have z_4 := blk_cell BK.out 4
  simp at z_0 z_1 z_2 z_3 z_4
  go_wp2_with fail
  obtain ⟨g2, nd2, sub2, kk2, put2⟩ := D.Fields_at (ms := [((D.slice 5 xCons).top (k)), ((D.slice 3 xDatas).top (k + (D.slice 5 xCons).tcnt))]) (a := (D.slice 8 xMethods)) (rs := [(D.slice 3 xClasses), (D.slice 4 xInsts)]) (n1 := 2) (n2 := 1) HF.out HND.out (by rfl) (by rfl)
  have CAL := MKMethods.out _ _ g2 (k + (D.slice 5 xCons).tcnt + (D.slice 3 xDatas).tcnt) kk2 nd2 (fun j hj => T0.out.live j (sub2 j hj) (HL.out j (sub2 j hj))) (by omega)
  refine CAL.mono ?_
  clear CAL
  rintro e w3 ⟨rfl, kn, tn⟩
  have HF := Lib.hid (put2 _ _ tn kn)
  have T0 := Lib.hid (T0.out.trans (tn.mono sub2))
  have BK := Lib.hid (cells_touch BK.out tn (fun hm => GN.out (sub2 _ hm)))
  clear kn tn put2 kk2 nd2 sub2
  have z_0 := blk_cell BK.out 0
  have z_1 := blk_cell BK.out 1
  have z_2 := blk_cell BK.out 2
  have z_3 := blk_cell BK.out 3
  have z_4 := blk_cell BK.out 4
  simp at z_0 z_1 z_2 z_3 z_4
  go_wp2_with fail
  obtain ⟨g3, nd3, sub3, kk3, put3⟩ := D.Fields_at (ms := [((D.slice 5 xCons).top (k)), ((D.slice 3 xDatas).top (k + (D.slice 5 xCons).tcnt)), ((D.slice 8 xMethods).top (k + (D.slice 5 xCons).tcnt + (D.slice 3 xDatas).tcnt))]) (a := (D.slice 3 xClasses)) (rs := [(D.slice 4 xInsts)]) (n1 := 3) (n2 := 1) HF.out HND.out (by rfl) (by rfl)
  have CAL := MKClasses.out _ _ g3 (k + (D.slice 5 xCons).tcnt + (D.slice 3 xDatas).tcnt + (D.slice 8 xMethods).tcnt) kk3 nd3 (fun j hj => T0.out.live j (sub3 j hj) (HL.out j (sub3 j hj))) (by omega)
  refine CAL.mono ?_
  clear CAL
  rintro e w4 ⟨rfl, kn, tn⟩
  have HF := Lib.hid (put3 _ _ tn kn)
  have T0 := Lib.hid (T0.out.trans (tn.mono sub3))
  have BK := Lib.hid (cells_touch BK.out tn (fun hm => GN.out (sub3 _ hm)))
  clear kn tn put3 kk3 nd3 sub3
  have z_0 := blk_cell BK.out 0
  have z_1 := blk_cell BK.out 1
  have z_2 := blk_cell BK.out 2
  have z_3 := blk_cell BK.out 3
  have z_4 := blk_cell BK.out 4
  simp at z_0 z_1 z_2 z_3 z_4
  go_wp2_with fail
  obtain ⟨g4, nd4, sub4, kk4, put4⟩ := D.Fields_at (ms := [((D.slice 5 xCons).top (k)), ((D.slice 3 xDatas).top (k + (D.slice 5 xCons).tcnt)), ((D.slice 8 xMethods).top (k + (D.slice 5 xCons).tcnt + (D.slice 3 xDatas).tcnt)), ((D.slice 3 xClasses).top (k + (D.slice 5 xCons).tcnt + (D.slice 3 xDatas).tcnt + (D.slice 8 xMethods).tcnt))]) (a := (D.slice 4 xInsts)) (rs := []) (n1 := 4) (n2 := 1) HF.out HND.out (by rfl) (by rfl)
  have CAL := MKInsts.out _ _ g4 (k + (D.slice 5 xCons).tcnt + (D.slice 3 xDatas).tcnt + (D.slice 8 xMethods).tcnt + (D.slice 3 xClasses).tcnt) kk4 nd4 (fun j hj => T0.out.live j (sub4 j hj) (HL.out j (sub4 j hj))) (by omega)
  refine CAL.mono ?_
  clear CAL
  rintro e w5 ⟨rfl, kn, tn⟩
  have HF := Lib.hid (put4 _ _ tn kn)
  have T0 := Lib.hid (T0.out.trans (tn.mono sub4))
  have BK := Lib.hid (cells_touch BK.out tn (fun hm => GN.out (sub4 _ hm)))
  clear kn tn put4 kk4 nd4 sub4
  go_wp2
  go_ret
  exact ⟨ret_int (by rw [TC.out]; omega), D.K_struct.2 (by simpa only [D.tops, D.top, D.tcnt, D.tcnts, Nat.add_zero, Nat.zero_add, Nat.add_assoc, List.cons_append, List.nil_append] using HF.out), T0.out⟩

set_option maxRecDepth 100000 in
theorem heldTables_of (xCons : List D) (xDatas : List D) (xMethods : List D) (xClasses : List D) (xInsts : List D) (hdCons : HdO Try.prog 72 (D.slice 5 xCons)) (hdDatas : HdO Try.prog 73 (D.slice 3 xDatas)) (hdMethods : HdO Try.prog 74 (D.slice 8 xMethods)) (hdClasses : HdO Try.prog 75 (D.slice 3 xClasses)) (hdInsts : HdO Try.prog 76 (D.slice 4 xInsts)) : HdA Try.prog 22 (.struct [.slice 5 xCons, .slice 3 xDatas, .slice 8 xMethods, .slice 3 xClasses, .slice 4 xInsts]) := by
  intro w cs k h hk
  obtain ⟨u0, u1, u2, u3, u4, rfl⟩ := cells5 (show cs.length = 5 from h.len.trans (by simp only [D.top, D.tops, D.n, D.nAll]))
  have h0 := rd_struct.1 h
  have HB := Lib.hid ((Below.refl w.heap.size w).alloc (Nat.le_refl _) (.cells #[u0, u1, u2, u3, u4] 40))
  have BK := Lib.hid (blk_new w (.cells #[u0, u1, u2, u3, u4] 40))
  have TC : Hid (D.tcnt (.struct [.slice 5 xCons, .slice 3 xDatas, .slice 8 xMethods, .slice 3 xClasses, .slice 4 xInsts]) = (D.slice 5 xCons).tcnt + (D.slice 3 xDatas).tcnt + (D.slice 8 xMethods).tcnt + (D.slice 3 xClasses).tcnt + (D.slice 4 xInsts).tcnt) := by show _ = _; simp only [D.tcnt, D.tcnts]; omega
  rw [TC.out] at hk
  have rCons := RdF_at (ms := []) (a := ((D.slice 5 xCons).top (k))) (rs := [((D.slice 3 xDatas).top (k + (D.slice 5 xCons).tcnt)), ((D.slice 8 xMethods).top (k + (D.slice 5 xCons).tcnt + (D.slice 3 xDatas).tcnt)), ((D.slice 3 xClasses).top (k + (D.slice 5 xCons).tcnt + (D.slice 3 xDatas).tcnt + (D.slice 8 xMethods).tcnt)), ((D.slice 4 xInsts).top (k + (D.slice 5 xCons).tcnt + (D.slice 3 xDatas).tcnt + (D.slice 8 xMethods).tcnt + (D.slice 3 xClasses).tcnt))]) (n1 := 0) (n2 := 1) (by simpa only [D.tops, D.top, D.tcnt, D.tcnts, Nat.add_zero, Nat.zero_add, Nat.add_assoc, List.cons_append, List.nil_append] using h0) (by rfl) (by rfl)
  have RCons := Lib.hid rCons
  have HDCons := Lib.hid hdCons
  clear hdCons rCons
  have rDatas := RdF_at (ms := [((D.slice 5 xCons).top (k))]) (a := ((D.slice 3 xDatas).top (k + (D.slice 5 xCons).tcnt))) (rs := [((D.slice 8 xMethods).top (k + (D.slice 5 xCons).tcnt + (D.slice 3 xDatas).tcnt)), ((D.slice 3 xClasses).top (k + (D.slice 5 xCons).tcnt + (D.slice 3 xDatas).tcnt + (D.slice 8 xMethods).tcnt)), ((D.slice 4 xInsts).top (k + (D.slice 5 xCons).tcnt + (D.slice 3 xDatas).tcnt + (D.slice 8 xMethods).tcnt + (D.slice 3 xClasses).tcnt))]) (n1 := 1) (n2 := 1) (by simpa only [D.tops, D.top, D.tcnt, D.tcnts, Nat.add_zero, Nat.zero_add, Nat.add_assoc, List.cons_append, List.nil_append] using h0) (by rfl) (by rfl)
  have RDatas := Lib.hid rDatas
  have HDDatas := Lib.hid hdDatas
  clear hdDatas rDatas
  have rMethods := RdF_at (ms := [((D.slice 5 xCons).top (k)), ((D.slice 3 xDatas).top (k + (D.slice 5 xCons).tcnt))]) (a := ((D.slice 8 xMethods).top (k + (D.slice 5 xCons).tcnt + (D.slice 3 xDatas).tcnt))) (rs := [((D.slice 3 xClasses).top (k + (D.slice 5 xCons).tcnt + (D.slice 3 xDatas).tcnt + (D.slice 8 xMethods).tcnt)), ((D.slice 4 xInsts).top (k + (D.slice 5 xCons).tcnt + (D.slice 3 xDatas).tcnt + (D.slice 8 xMethods).tcnt + (D.slice 3 xClasses).tcnt))]) (n1 := 2) (n2 := 1) (by simpa only [D.tops, D.top, D.tcnt, D.tcnts, Nat.add_zero, Nat.zero_add, Nat.add_assoc, List.cons_append, List.nil_append] using h0) (by rfl) (by rfl)
  have RMethods := Lib.hid rMethods
  have HDMethods := Lib.hid hdMethods
  clear hdMethods rMethods
  have rClasses := RdF_at (ms := [((D.slice 5 xCons).top (k)), ((D.slice 3 xDatas).top (k + (D.slice 5 xCons).tcnt)), ((D.slice 8 xMethods).top (k + (D.slice 5 xCons).tcnt + (D.slice 3 xDatas).tcnt))]) (a := ((D.slice 3 xClasses).top (k + (D.slice 5 xCons).tcnt + (D.slice 3 xDatas).tcnt + (D.slice 8 xMethods).tcnt))) (rs := [((D.slice 4 xInsts).top (k + (D.slice 5 xCons).tcnt + (D.slice 3 xDatas).tcnt + (D.slice 8 xMethods).tcnt + (D.slice 3 xClasses).tcnt))]) (n1 := 3) (n2 := 1) (by simpa only [D.tops, D.top, D.tcnt, D.tcnts, Nat.add_zero, Nat.zero_add, Nat.add_assoc, List.cons_append, List.nil_append] using h0) (by rfl) (by rfl)
  have RClasses := Lib.hid rClasses
  have HDClasses := Lib.hid hdClasses
  clear hdClasses rClasses
  have rInsts := RdF_at (ms := [((D.slice 5 xCons).top (k)), ((D.slice 3 xDatas).top (k + (D.slice 5 xCons).tcnt)), ((D.slice 8 xMethods).top (k + (D.slice 5 xCons).tcnt + (D.slice 3 xDatas).tcnt)), ((D.slice 3 xClasses).top (k + (D.slice 5 xCons).tcnt + (D.slice 3 xDatas).tcnt + (D.slice 8 xMethods).tcnt))]) (a := ((D.slice 4 xInsts).top (k + (D.slice 5 xCons).tcnt + (D.slice 3 xDatas).tcnt + (D.slice 8 xMethods).tcnt + (D.slice 3 xClasses).tcnt))) (rs := []) (n1 := 4) (n2 := 1) (by simpa only [D.tops, D.top, D.tcnt, D.tcnts, Nat.add_zero, Nat.zero_add, Nat.add_assoc, List.cons_append, List.nil_append] using h0) (by rfl) (by rfl)
  have RInsts := Lib.hid rInsts
  have HDInsts := Lib.hid hdInsts
  clear hdInsts rInsts
  clear h h0
  go_enter Try.func22, Try.ntmps22
  go_wp2_with fail
  have CAL := HDCons.out _ _ (k) (RCons.out.below HB.out) (by omega)
  refine CAL.mono ?_
  clear CAL
  rintro e w1 ⟨rfl, hb⟩
  have HB := Lib.hid (HB.out.trans (hb.mono HB.out.size))
  have BK := Lib.hid (blk_below BK.out hb)
  clear hb
  have hng : decide ((((k + (D.slice 5 xCons).tcnt : Nat)) : Int) < 0) = false := decide_eq_false (by omega)
  have z_0 := blk_cell BK.out 0
  have z_1 := blk_cell BK.out 1
  have z_2 := blk_cell BK.out 2
  have z_3 := blk_cell BK.out 3
  have z_4 := blk_cell BK.out 4
  simp at z_0 z_1 z_2 z_3 z_4
  go_wp2_with fail
  have CAL := HDDatas.out _ _ (k + (D.slice 5 xCons).tcnt) (RDatas.out.below HB.out) (by omega)
  refine CAL.mono ?_
  clear CAL
  rintro e w2 ⟨rfl, hb⟩
  have HB := Lib.hid (HB.out.trans (hb.mono HB.out.size))
  have BK := Lib.hid (blk_below BK.out hb)
  clear hb
  have hng : decide ((((k + (D.slice 5 xCons).tcnt + (D.slice 3 xDatas).tcnt : Nat)) : Int) < 0) = false := decide_eq_false (by omega)
  have z_0 := blk_cell BK.out 0
  have z_1 := blk_cell BK.out 1
  have z_2 := blk_cell BK.out 2
  have z_3 := blk_cell BK.out 3
  have z_4 := blk_cell BK.out 4
  simp at z_0 z_1 z_2 z_3 z_4
  go_wp2_with fail
  have CAL := HDMethods.out _ _ (k + (D.slice 5 xCons).tcnt + (D.slice 3 xDatas).tcnt) (RMethods.out.below HB.out) (by omega)
  refine CAL.mono ?_
  clear CAL
  rintro e w3 ⟨rfl, hb⟩
  have HB := Lib.hid (HB.out.trans (hb.mono HB.out.size))
  have BK := Lib.hid (blk_below BK.out hb)
  clear hb
  have hng : decide ((((k + (D.slice 5 xCons).tcnt + (D.slice 3 xDatas).tcnt + (D.slice 8 xMethods).tcnt : Nat)) : Int) < 0) = false := decide_eq_false (by omega)
  have z_0 := blk_cell BK.out 0
  have z_1 := blk_cell BK.out 1
  have z_2 := blk_cell BK.out 2
  have z_3 := blk_cell BK.out 3
  have z_4 := blk_cell BK.out 4
  simp at z_0 z_1 z_2 z_3 z_4
  go_wp2_with fail
  have CAL := HDClasses.out _ _ (k + (D.slice 5 xCons).tcnt + (D.slice 3 xDatas).tcnt + (D.slice 8 xMethods).tcnt) (RClasses.out.below HB.out) (by omega)
  refine CAL.mono ?_
  clear CAL
  rintro e w4 ⟨rfl, hb⟩
  have HB := Lib.hid (HB.out.trans (hb.mono HB.out.size))
  have BK := Lib.hid (blk_below BK.out hb)
  clear hb
  have hng : decide ((((k + (D.slice 5 xCons).tcnt + (D.slice 3 xDatas).tcnt + (D.slice 8 xMethods).tcnt + (D.slice 3 xClasses).tcnt : Nat)) : Int) < 0) = false := decide_eq_false (by omega)
  have z_0 := blk_cell BK.out 0
  have z_1 := blk_cell BK.out 1
  have z_2 := blk_cell BK.out 2
  have z_3 := blk_cell BK.out 3
  have z_4 := blk_cell BK.out 4
  simp at z_0 z_1 z_2 z_3 z_4
  go_wp2_with fail
  have CAL := HDInsts.out _ _ (k + (D.slice 5 xCons).tcnt + (D.slice 3 xDatas).tcnt + (D.slice 8 xMethods).tcnt + (D.slice 3 xClasses).tcnt) (RInsts.out.below HB.out) (by omega)
  refine CAL.mono ?_
  clear CAL
  rintro e w5 ⟨rfl, hb⟩
  have HB := Lib.hid (HB.out.trans (hb.mono HB.out.size))
  have BK := Lib.hid (blk_below BK.out hb)
  clear hb
  have hng : decide ((((k + (D.slice 5 xCons).tcnt + (D.slice 3 xDatas).tcnt + (D.slice 8 xMethods).tcnt + (D.slice 3 xClasses).tcnt + (D.slice 4 xInsts).tcnt : Nat)) : Int) < 0) = false := decide_eq_false (by omega)
  go_wp2
  go_ret
  exact ⟨ret_int (by rw [TC.out]; omega), HB.out⟩

set_option maxRecDepth 100000 in
theorem markConInfo_of (sName : ByteArray) (sData : ByteArray) (iTag : Int) (iVars : Int) (xFields : List D) (mkFields : MkO Try.prog 93 (D.slice 4 xFields)) : MkA Try.prog 33 (.struct [.str sName, .str sData, .int .i64 iTag, .int .i64 iVars, .slice 4 xFields]) := by
  intro w cs fp k h hnd hl hk
  obtain ⟨u0, u1, u2, u3, u4, rfl⟩ := cells5 (D.K_len _ h)
  have h0 := D.K_struct.1 h
  have hlt := D.Fields_lt _ h0
  have hb := (Below.refl w.heap.size w).alloc (Nat.le_refl _) (.cells #[u0, u1, u2, u3, u4] 63)
  have hF := D.Fields_below h0 hb
  have BK := Lib.hid (blk_new w (.cells #[u0, u1, u2, u3, u4] 63))
  have T0 := Lib.hid (TouchF.of_below (fp := fp) hb)
  have GN : Hid (w.heap.size ∉ fp) := fun hm => by have := hlt _ hm; omega
  have HL := Lib.hid hl
  have HND := Lib.hid hnd
  have HF := Lib.hid hF
  have TC : Hid (D.tcnt (.struct [.str sName, .str sData, .int .i64 iTag, .int .i64 iVars, .slice 4 xFields]) = (D.slice 4 xFields).tcnt) := by show _ = _; simp only [D.tcnt, D.tcnts]; omega
  rw [TC.out] at hk
  clear h h0 hlt hb hF hl hnd
  have MKFields := Lib.hid mkFields
  clear mkFields
  go_enter Try.func33, Try.ntmps33
  go_wp2_with fail
  obtain ⟨g0, nd0, sub0, kk0, put0⟩ := D.Fields_at (ms := [(D.str sName), (D.str sData), (D.int .i64 iTag), (D.int .i64 iVars)]) (a := (D.slice 4 xFields)) (rs := []) (n1 := 4) (n2 := 1) HF.out HND.out (by rfl) (by rfl)
  have CAL := MKFields.out _ _ g0 (k) kk0 nd0 (fun j hj => T0.out.live j (sub0 j hj) (HL.out j (sub0 j hj))) (by omega)
  refine CAL.mono ?_
  clear CAL
  rintro e w1 ⟨rfl, kn, tn⟩
  have HF := Lib.hid (put0 _ _ tn kn)
  have T0 := Lib.hid (T0.out.trans (tn.mono sub0))
  have BK := Lib.hid (cells_touch BK.out tn (fun hm => GN.out (sub0 _ hm)))
  clear kn tn put0 kk0 nd0 sub0
  go_wp2
  go_ret
  exact ⟨ret_int (by rw [TC.out]; omega), D.K_struct.2 (by simpa only [D.tops, D.top, D.tcnt, D.tcnts, Nat.add_zero, Nat.zero_add, Nat.add_assoc, List.cons_append, List.nil_append] using HF.out), T0.out⟩

set_option maxRecDepth 100000 in
theorem heldConInfo_of (sName : ByteArray) (sData : ByteArray) (iTag : Int) (iVars : Int) (xFields : List D) (hdFields : HdO Try.prog 94 (D.slice 4 xFields)) : HdA Try.prog 34 (.struct [.str sName, .str sData, .int .i64 iTag, .int .i64 iVars, .slice 4 xFields]) := by
  intro w cs k h hk
  obtain ⟨u0, u1, u2, u3, u4, rfl⟩ := cells5 (show cs.length = 5 from h.len.trans (by simp only [D.top, D.tops, D.n, D.nAll]))
  have h0 := rd_struct.1 h
  have HB := Lib.hid ((Below.refl w.heap.size w).alloc (Nat.le_refl _) (.cells #[u0, u1, u2, u3, u4] 63))
  have BK := Lib.hid (blk_new w (.cells #[u0, u1, u2, u3, u4] 63))
  have TC : Hid (D.tcnt (.struct [.str sName, .str sData, .int .i64 iTag, .int .i64 iVars, .slice 4 xFields]) = (D.slice 4 xFields).tcnt) := by show _ = _; simp only [D.tcnt, D.tcnts]; omega
  rw [TC.out] at hk
  have rFields := RdF_at (ms := [(D.str sName), (D.str sData), (D.int .i64 iTag), (D.int .i64 iVars)]) (a := ((D.slice 4 xFields).top (k))) (rs := []) (n1 := 4) (n2 := 1) (by simpa only [D.tops, D.top, D.tcnt, D.tcnts, Nat.add_zero, Nat.zero_add, Nat.add_assoc, List.cons_append, List.nil_append] using h0) (by rfl) (by rfl)
  have RFields := Lib.hid rFields
  have HDFields := Lib.hid hdFields
  clear hdFields rFields
  clear h h0
  go_enter Try.func34, Try.ntmps34
  go_wp2_with fail
  have CAL := HDFields.out _ _ (k) (RFields.out.below HB.out) (by omega)
  refine CAL.mono ?_
  clear CAL
  rintro e w1 ⟨rfl, hb⟩
  have HB := Lib.hid (HB.out.trans (hb.mono HB.out.size))
  have BK := Lib.hid (blk_below BK.out hb)
  clear hb
  have hng : decide ((((k + (D.slice 4 xFields).tcnt : Nat)) : Int) < 0) = false := decide_eq_false (by omega)
  go_wp2
  go_ret
  exact ⟨ret_int (by rw [TC.out]; omega), HB.out⟩

set_option maxRecDepth 100000 in
theorem markInstInfo_of (sClass : ByteArray) (sCon : ByteArray) (iVars : Int) (xPreds : List D) (mkPreds : MkO Try.prog 88 (D.slice 2 xPreds)) : MkA Try.prog 28 (.struct [.str sClass, .str sCon, .int .i64 iVars, .slice 2 xPreds]) := by
  intro w cs fp k h hnd hl hk
  obtain ⟨u0, u1, u2, u3, rfl⟩ := cells4 (D.K_len _ h)
  have h0 := D.K_struct.1 h
  have hlt := D.Fields_lt _ h0
  have hb := (Below.refl w.heap.size w).alloc (Nat.le_refl _) (.cells #[u0, u1, u2, u3] 55)
  have hF := D.Fields_below h0 hb
  have BK := Lib.hid (blk_new w (.cells #[u0, u1, u2, u3] 55))
  have T0 := Lib.hid (TouchF.of_below (fp := fp) hb)
  have GN : Hid (w.heap.size ∉ fp) := fun hm => by have := hlt _ hm; omega
  have HL := Lib.hid hl
  have HND := Lib.hid hnd
  have HF := Lib.hid hF
  have TC : Hid (D.tcnt (.struct [.str sClass, .str sCon, .int .i64 iVars, .slice 2 xPreds]) = (D.slice 2 xPreds).tcnt) := by show _ = _; simp only [D.tcnt, D.tcnts]; omega
  rw [TC.out] at hk
  clear h h0 hlt hb hF hl hnd
  have MKPreds := Lib.hid mkPreds
  clear mkPreds
  go_enter Try.func28, Try.ntmps28
  go_wp2_with fail
  obtain ⟨g0, nd0, sub0, kk0, put0⟩ := D.Fields_at (ms := [(D.str sClass), (D.str sCon), (D.int .i64 iVars)]) (a := (D.slice 2 xPreds)) (rs := []) (n1 := 3) (n2 := 1) HF.out HND.out (by rfl) (by rfl)
  have CAL := MKPreds.out _ _ g0 (k) kk0 nd0 (fun j hj => T0.out.live j (sub0 j hj) (HL.out j (sub0 j hj))) (by omega)
  refine CAL.mono ?_
  clear CAL
  rintro e w1 ⟨rfl, kn, tn⟩
  have HF := Lib.hid (put0 _ _ tn kn)
  have T0 := Lib.hid (T0.out.trans (tn.mono sub0))
  have BK := Lib.hid (cells_touch BK.out tn (fun hm => GN.out (sub0 _ hm)))
  clear kn tn put0 kk0 nd0 sub0
  go_wp2
  go_ret
  exact ⟨ret_int (by rw [TC.out]; omega), D.K_struct.2 (by simpa only [D.tops, D.top, D.tcnt, D.tcnts, Nat.add_zero, Nat.zero_add, Nat.add_assoc, List.cons_append, List.nil_append] using HF.out), T0.out⟩

set_option maxRecDepth 100000 in
theorem heldInstInfo_of (sClass : ByteArray) (sCon : ByteArray) (iVars : Int) (xPreds : List D) (hdPreds : HdO Try.prog 89 (D.slice 2 xPreds)) : HdA Try.prog 29 (.struct [.str sClass, .str sCon, .int .i64 iVars, .slice 2 xPreds]) := by
  intro w cs k h hk
  obtain ⟨u0, u1, u2, u3, rfl⟩ := cells4 (show cs.length = 4 from h.len.trans (by simp only [D.top, D.tops, D.n, D.nAll]))
  have h0 := rd_struct.1 h
  have HB := Lib.hid ((Below.refl w.heap.size w).alloc (Nat.le_refl _) (.cells #[u0, u1, u2, u3] 55))
  have BK := Lib.hid (blk_new w (.cells #[u0, u1, u2, u3] 55))
  have TC : Hid (D.tcnt (.struct [.str sClass, .str sCon, .int .i64 iVars, .slice 2 xPreds]) = (D.slice 2 xPreds).tcnt) := by show _ = _; simp only [D.tcnt, D.tcnts]; omega
  rw [TC.out] at hk
  have rPreds := RdF_at (ms := [(D.str sClass), (D.str sCon), (D.int .i64 iVars)]) (a := ((D.slice 2 xPreds).top (k))) (rs := []) (n1 := 3) (n2 := 1) (by simpa only [D.tops, D.top, D.tcnt, D.tcnts, Nat.add_zero, Nat.zero_add, Nat.add_assoc, List.cons_append, List.nil_append] using h0) (by rfl) (by rfl)
  have RPreds := Lib.hid rPreds
  have HDPreds := Lib.hid hdPreds
  clear hdPreds rPreds
  clear h h0
  go_enter Try.func29, Try.ntmps29
  go_wp2_with fail
  have CAL := HDPreds.out _ _ (k) (RPreds.out.below HB.out) (by omega)
  refine CAL.mono ?_
  clear CAL
  rintro e w1 ⟨rfl, hb⟩
  have HB := Lib.hid (HB.out.trans (hb.mono HB.out.size))
  have BK := Lib.hid (blk_below BK.out hb)
  clear hb
  have hng : decide ((((k + (D.slice 2 xPreds).tcnt : Nat)) : Int) < 0) = false := decide_eq_false (by omega)
  go_wp2
  go_ret
  exact ⟨ret_int (by rw [TC.out]; omega), HB.out⟩

end Go.Proofs.Ytifmnijdaboenaa
