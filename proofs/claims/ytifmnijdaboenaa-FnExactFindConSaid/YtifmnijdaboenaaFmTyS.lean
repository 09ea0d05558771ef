/- What the laws' helpers that mark and look for marks do with []Type; no condition. -/
import Derived.Test.YtifmnijdaboenaaMkT
import Derived.Test.YtifmnijdaboenaaHf
import Derived.Test.YtifmnijdaboenaaProg
import Derived.Deep.RegionHeld3
namespace Go.Proofs.Ytifmnijdaboenaa
open Go.RowKit
set_option linter.unusedVariables false
set_option linter.unusedSimpArgs false

theorem n_TypeS {xs : List D} (ih : ∀ x ∈ xs, ∃ (iKind : Int) (iId : Int) (sName : ByteArray) (xArgs : List D), x = (.struct [.int .i64 iKind, .int .i64 iId, .str sName, .slice 4 xArgs] : D) ∧ MkO Try.prog 93 (D.slice 4 xArgs)) : ∀ x ∈ xs, x.n = 4 := fun x hx => by
  obtain ⟨iKind, iId, sName, xArgs, rfl, _⟩ := ih x hx
  rfl
theorem n'_TypeS {xs : List D} (ih : ∀ x ∈ xs, ∃ (iKind : Int) (iId : Int) (sName : ByteArray) (xArgs : List D), x = (.struct [.int .i64 iKind, .int .i64 iId, .str sName, .slice 4 xArgs] : D) ∧ HdO Try.prog 94 (D.slice 4 xArgs)) : ∀ x ∈ xs, x.n = 4 := fun x hx => by
  obtain ⟨iKind, iId, sName, xArgs, rfl, _⟩ := ih x hx
  rfl
set_option maxRecDepth 100000 in
set_option maxHeartbeats 2000000 in
theorem markTypeS_of (xs : List D) (hn : xs.length ≤ 140737488351232) (ih : ∀ x ∈ xs, ∃ (iKind : Int) (iId : Int) (sName : ByteArray) (xArgs : List D), x = (.struct [.int .i64 iKind, .int .i64 iId, .str sName, .slice 4 xArgs] : D) ∧ MkO Try.prog 93 (D.slice 4 xArgs)) : MkO Try.prog 93 (.slice 4 xs) := by
  intro w v fp k h hnd hl hk
  simp only [D.K] at h
  obtain ⟨A, c, he, h2, h3, h4⟩ := h
  obtain rfl : v = .slice A xs.length c := by simpa using he
  simp only [D.tcnt] at hk ⊢
  have hsz := n_TypeS ih
  rcases h4 with ⟨rfl, rfl⟩ | ⟨b, off, f, rfl, h6, rfl, h8⟩
  · clear he hsz ih
    go_enter Try.func93, Try.ntmps93
    go_wp2_with fail
    go_loop [1, 5] (fun q i => i = .int .i64 0 ∧ q = .int .i64 k) (fun _ _ => 0)
    case atStart => exact ⟨rfl, rfl⟩
    case round =>
      obtain ⟨rfl, rfl⟩ := hrel
      go_wp2_with fail
      go_ret
      exact ⟨by first | rfl | exact ret_int (by simp [D.cnts]), by simp only [D.top, D.marks, D.K]; exact ⟨A, c, rfl, h2, h3, .inl ⟨True.intro, True.intro⟩⟩, TouchF.refl _ _⟩
  · rw [D.Row_flats hsz] at h8
    have IH := Lib.hid ih
    have HSZ := Lib.hid hsz
    have HL := Lib.hid hl
    have HN := Lib.hid hnd
    have H8 := Lib.hid h8
    have H2 := Lib.hid h2
    have H3 := Lib.hid h3
    have HB := Lib.hid (List.nodup_cons.1 hnd).1
    clear he ih hl hnd h8 h2 h3 hsz
    go_enter Try.func93, Try.ntmps93
    go_wp2_with fail
    go_loopw [1, 5] (fun q i wr => ∃ j n : Nat, j ≤ xs.length ∧ i = .int .i64 j ∧ q = .int .i64 n ∧ n ≤ 1125899906842624 ∧ Hid (n = k + D.cnts (xs.take j)) ∧ Hid (D.Row wr b off 1 (D.flats (D.marks (xs.take j) k) ++ D.flats (xs.drop j)) f ∧ TouchF (b :: f) w wr)) (fun _ i _ => xs.length - (intOf i).toNat)
    case atStart => exact ⟨0, k, Nat.zero_le _, rfl, rfl, by omega, Lib.hid (by simp [D.cnts]), Lib.hid ⟨by simpa [D.marks, D.flats] using H8.out, TouchF.refl _ _⟩⟩
    case round =>
      obtain ⟨j, n, hj, rfl, rfl, hnb, hnn, hrel⟩ := hrel
      obtain ⟨row0, ht⟩ := hrel.out
      have NN := Lib.hid hnn.out
      clear hrel hnn
      by_cases hlt : j < xs.length
      · obtain ⟨iKind, iId, sName, xArgs, hx, m0⟩ := IH.out _ (List.getElem_mem hlt)
        have hlen := marks_len HSZ.out k j hj
        rw [marks_at hlt, hx] at row0
        have hct := cnt_take hlt
        have hcl := cnts_take_le xs (j + 1)
        have hmn := marks_next hlt k
        rw [hx] at hct hmn
        have nb := NN.out
        rw [← nb] at hmn
        have CT : Hid (n + (.struct [.int .i64 iKind, .int .i64 iId, .str sName, .slice 4 xArgs] : D).cnt = k + D.cnts (xs.take (j + 1))) := by show _ = _; omega
        have CB : Hid (k + D.cnts (xs.take (j + 1)) ≤ 1125899906842624) := by show _ ≤ _; omega
        have MN := Lib.hid hmn
        generalize hM : D.flats (D.marks (xs.take j) k) = M at row0 hlen
        generalize hR : D.flats (xs.drop (j + 1)) = R at row0
        have HLEN := Lib.hid hlen
        have HM := Lib.hid hM
        have HR := Lib.hid hR
        simp only [D.flat, D.flats, List.cons_append, List.nil_append, List.append_assoc] at row0
        have T0 := Lib.hid ht
        have cb := CB.out
        have ct := CT.out
        simp only [D.cnt, D.cnts, Nat.add_zero] at ct
        have ROW0 := Lib.hid row0
        clear hlen hct hcl hmn nb ht hM hR hx
        go_wp2_with (first
          | (refine wpl_leaf_int rfl _ _ _ rfl (b := b) (off := off) (fp := f) (rs := ((D.int .i64 iId) :: (D.str sName) :: (D.slice 4 xArgs) :: R)) (m := iKind) (ms := (M ++ [])) (p := off + j * 4) rfl rfl (by kernel_rfl) (by have h_ := HLEN.out; simp only [List.length_append, List.length_cons, List.length_nil]; omega) (row := (by simpa using ROW0.out)) HB.out (Row_live T0.out (HL.out b (by simp))) ?_; intro x0 row ht; have ROW1 := Lib.hid row; have T1 := Lib.hid (T0.out.trans ht); clear ROW0; clear row ht)
          | (refine wpl_leaf_int rfl _ _ _ rfl (b := b) (off := off) (fp := f) (rs := ((D.str sName) :: (D.slice 4 xArgs) :: R)) (m := iId) (ms := (M ++ [(.int .i64 ((n : Int)))])) (p := off + j * 4 + 1) rfl rfl (by kernel_rfl) (by have h_ := HLEN.out; simp only [List.length_append, List.length_cons, List.length_nil]; omega) (row := (by simpa using ROW1.out)) HB.out (Row_live T1.out (HL.out b (by simp))) ?_; intro x1 row ht; have ROW2 := Lib.hid row; have T2 := Lib.hid (T1.out.trans ht); clear ROW1; clear row ht)
          | (go_at_call 100; (with_reducible refine (markText_at _ (n + 2) (by omega) (by omega) _).mono ?_); rintro e y2 ⟨rfl, hb⟩; have ROW3 := Lib.hid (row_below ROW2.out hb); have T3 := Lib.hid (T2.out.trans (TouchF.of_below hb)); clear hb)
          | (refine wpl_leaf_str rfl _ _ _ rfl (b := b) (off := off) (fp := f) (rs := ((D.slice 4 xArgs) :: R)) (m := sName) (ms := (M ++ [(.int .i64 ((n : Int))), (.int .i64 ((n : Int) + 1))])) (p := off + j * 4 + 2) rfl rfl (by kernel_rfl) (by have h_ := HLEN.out; simp only [List.length_append, List.length_cons, List.length_nil]; omega) (row := (by simpa using ROW3.out)) HB.out (Row_live T3.out (HL.out b (by simp))) ?_; intro x2 row ht; have ROW4 := Lib.hid row; have T4 := Lib.hid (T3.out.trans ht); clear ROW3; clear row ht; obtain ⟨A3, c3, z3⟩ := row_slice (b := b) (off := off) (fp := f) (xs := xArgs) (sz := 4) (rs := (R)) (ms := (M ++ [(.int .i64 ((n : Int))), (.int .i64 ((n : Int) + 1)), (.str (markT (n + 2)))])) (by simpa using ROW4.out) (p := off + j * 4 + 3) (by have h_ := HLEN.out; simp only [List.length_append, List.length_cons, List.length_nil]; omega))
          | (go_at_call 93; obtain ⟨f2, hk2, hnd2, hsub2, put2⟩ := D.Row_call' (a := (D.slice 4 xArgs)) (b := b) (off := off) (fp := f) (rs := (R)) (ms := (M ++ [(.int .i64 ((n : Int))), (.int .i64 ((n : Int) + 1)), (.str (markT (n + 2)))])) (by simpa using ROW4.out) HN.out (p := off + j * 4 + 3) (by have h_ := HLEN.out; simp only [List.length_append, List.length_cons, List.length_nil]; omega) z3; (with_reducible refine (m0.atz _ (n + 3) (by omega) hk2 hnd2 (fun q hq => T4.out.live q (by simp [hsub2 q hq]) (HL.out q (by simp [hsub2 q hq]))) (by simp only [D.tcnt]; omega)).mono ?_); rintro e y3 ⟨n1, hn1, rfl, hk3, ht3⟩; simp only [D.tcnt] at hn1; have row := put2 _ _ hk3 ht3; have ht := ht3.mono (fun q hq => List.mem_cons_of_mem b (hsub2 q hq)); have ROW5 := Lib.hid row; have T5 := Lib.hid (T4.out.trans ht); clear ROW4; have N1 := Lib.hid hn1; have nb1 : n1 ≤ 1125899906842624 := (by omega); clear row ht hk2 hnd2 hsub2 put2 hk3 ht3))
        go_roundw
        case rel =>
          have e1 := N1.out; refine ⟨j + 1, n1, by omega, by go_num, by go_num, by omega, Lib.hid (by have h_ := CT.out; simp only [D.cnt, D.cnts, Nat.add_zero] at h_; omega), Lib.hid ⟨?_, T5.out⟩⟩
          rw [← MN_eq MN.out HM.out HR.out]
          have hr := ROW5.out
          have v0 : IntKind.i64.wrap ((n : Int)) = (n : Int) := i64_p _ (by omega) (by omega)
          have v1 : IntKind.i64.wrap (((n : Int) + 1)) = (n : Int) + 1 := i64_p _ (by omega) (by omega)
          simpa [D.mark, D.marks, D.flat, D.flats, D.top, D.cnt, D.cnts, Nat.add_assoc, v0, v1] using hr
        case measure => simp [intOf]; omega
      · obtain rfl : j = xs.length := by omega
        rw [List.drop_length, D.flats, List.append_nil, List.take_length] at row0
        have ROW := Lib.hid ((D.Row_flats (D.marks_mem_n HSZ.out k)).2 row0)
        have HT := Lib.hid ht
        have nb := NN.out
        rw [List.take_length] at nb
        have NB := Lib.hid nb
        clear row0 ht nb
        go_wp2_with fail
        go_ret
        exact ⟨ret_int (by have := NB.out; omega), by simp only [D.top, D.K]; exact ⟨_, c, by rw [D.marks_length], by rw [D.marks_length]; exact H2.out, H3.out, .inr ⟨b, off, f, rfl, Nat.lt_of_lt_of_le h6 HT.out.size, rfl, ROW.out⟩⟩, HT.out⟩
set_option maxRecDepth 100000 in
set_option maxHeartbeats 2000000 in
theorem heldTypeS_of (xs : List D) (hn : xs.length ≤ 140737488351232) (ih : ∀ x ∈ xs, ∃ (iKind : Int) (iId : Int) (sName : ByteArray) (xArgs : List D), x = (.struct [.int .i64 iKind, .int .i64 iId, .str sName, .slice 4 xArgs] : D) ∧ HdO Try.prog 94 (D.slice 4 xArgs)) : HdO Try.prog 94 (.slice 4 xs) := by
  intro w v k h hk
  simp only [D.top] at h
  obtain ⟨A, c, rfl, _, _, hrow⟩ := rd_slice1 h
  simp only [D.tcnt] at hk ⊢
  rw [D.marks_length]
  have IH := Lib.hid ih
  have H := Lib.hid hrow
  clear ih h hrow
  go_enter Try.func94, Try.ntmps94
  go_wp2_with fail
  go_loopw [1, 5] (fun q i wr => ∃ j n : Nat, j ≤ xs.length ∧ i = .int .i64 j ∧ q = .int .i64 n ∧ n ≤ 1125899906842624 ∧ Hid (n = k + D.cnts (xs.take j)) ∧ Hid (Below w.heap.size w wr)) (fun _ i _ => xs.length - (intOf i).toNat)
  case atStart => exact ⟨0, k, Nat.zero_le _, rfl, rfl, by omega, Lib.hid (by simp [D.cnts]), Lib.hid (Below.refl _ _)⟩
  case round =>
    obtain ⟨j, n, hj, rfl, rfl, hnb, hnn, hrel⟩ := hrel
    have HB := Lib.hid hrel.out
    have NN := Lib.hid hnn.out
    clear hrel hnn
    by_cases hlt : j < xs.length
    · obtain ⟨iKind, iId, sName, xArgs, hx, m0⟩ := IH.out _ (List.getElem_mem hlt)
      have hget := marks_get hlt k
      have hct := cnt_take hlt
      have hcl := cnts_take_le xs (j + 1)
      have nb := NN.out
      rw [← nb, hx] at hget
      rw [hx] at hct
      have ct : n + (.struct [.int .i64 iKind, .int .i64 iId, .str sName, .slice 4 xArgs] : D).cnt = k + D.cnts (xs.take (j + 1)) := by omega
      have CB : Hid (k + D.cnts (xs.take (j + 1)) ≤ 1125899906842624) := by show _ ≤ _; omega
      have CT := Lib.hid ct
      have cb := CB.out
      simp only [D.cnt, D.cnts, Nat.add_zero] at ct
      obtain ⟨b, off, cs, rfl, hcl2, hrd0, hc⟩ := (RdRow.below H.out (by omega) HB.out).get hget
      have hrd : RdF wr [.int .i64 ((n : Int)), .int .i64 ((n : Int) + 1), .str (markT (n + 2)), (D.slice 4 xArgs).top (n + 3)] cs := by
        have h1 := rd_flat.1 hrd0
        have v0 : IntKind.i64.wrap ((n : Int)) = ((n : Int)) := i64_p _ (by omega) (by omega)
        have v1 : IntKind.i64.wrap ((n : Int) + 1) = ((n : Int) + 1) := i64_p _ (by omega) (by omega)
        simpa [D.mark, D.marks, D.flat, D.flats, D.top, D.cnt, D.cnts, Nat.add_assoc, Nat.add_comm, Nat.add_left_comm, v0, v1] using h1
      simp only [rdF_cons, rdF_nil, rd_int, rd_bool, rd_str] at hrd
      obtain ⟨q0, s0, rfl, rfl, q1, s1, rfl, rfl, q2, s2, rfl, rfl, q3, s3, rfl, r3, rfl⟩ := hrd
      obtain ⟨A3, c3, rfl⟩ := rd_top_slice r3
      have R3 := Lib.hid r3
      have C0 : Hid (∀ w', Below wr.heap.size wr w' → w'.cell? ⟨b, off + j * 4, none⟩ = some (.int .i64 ((n : Int)))) := fun w' hb => (hb.cell (World.block_lt_of_cell? wr _ (hc 0 _ rfl))).trans (by simpa using hc 0 _ rfl)
      have C1 : Hid (∀ w', Below wr.heap.size wr w' → w'.cell? ⟨b, off + j * 4 + 1, none⟩ = some (.int .i64 ((n : Int) + 1))) := fun w' hb => (hb.cell (World.block_lt_of_cell? wr _ (hc 1 _ rfl))).trans (by simpa using hc 1 _ rfl)
      have C2 : Hid (∀ w', Below wr.heap.size wr w' → w'.cell? ⟨b, off + j * 4 + 2, none⟩ = some (.string (markT (n + 2)))) := fun w' hb => (hb.cell (World.block_lt_of_cell? wr _ (hc 2 _ rfl))).trans (by simpa using hc 2 _ rfl)
      have C3 : Hid (∀ w', Below wr.heap.size wr w' → w'.cell? ⟨b, off + j * 4 + 3, none⟩ = some (.slice A3 xArgs.length c3)) := fun w' hb => (hb.cell (World.block_lt_of_cell? wr _ (hc 3 _ rfl))).trans (by simpa using hc 3 _ rfl)
      have W0 := Lib.hid (Below.refl wr.heap.size wr)
      clear hct hcl nb hx hget hrd0 hcl2 hc r3
      have z0 : World.cell? _ ⟨b, off + j * 4, none⟩ = some (.int .i64 ((n : Int))) := (C0.out _ W0.out).trans (congrArg some (congrArg (Value.int .i64) (by omega)))
      have z1 : World.cell? _ ⟨b, off + j * 4 + 1, none⟩ = some (.int .i64 ((n : Int) + 1)) := (C1.out _ W0.out).trans (congrArg some (congrArg (Value.int .i64) (by omega)))
      have z2 : World.cell? _ ⟨b, off + j * 4 + 2, none⟩ = some (.string (markT (n + 2))) := (C2.out _ W0.out).trans (congrArg (fun q => some (Value.string (markT q))) (by omega))
      have z3 := C3.out _ W0.out
      go_wp2_with fail
      go_region_held3 (fun w' => w'.cell? ⟨b, off + j * 4 + 2, none⟩ = some (.string (markT (n + 2))))
        (first | exact z2 | exact (C2.out _ W1.out).trans (congrArg (fun q => some (Value.string (markT q))) (by omega)))
        (first
          | (go_at_call 100; (with_reducible refine (markText_at _ (n + 2) (by omega) (by omega) _).mono ?_); rintro e y2 ⟨rfl, hb⟩; have W1 := Lib.hid (W0.out.drew.trans (hb.mono W0.out.drew.size)); clear hb))
      clear z0 z1 z2 z3
      have z3 := C3.out _ W1.out
      go_wp2_with (first | (go_at_call 94; (with_reducible refine (m0.atz _ (n + 3) (by omega) ((rd_cong R3.out (by omega)).below W1.out) (by simp only [D.tcnt]; omega)).mono ?_); rintro e y3 ⟨n1, hn1, rfl, hb⟩; have W2 := Lib.hid (W1.out.trans (hb.mono W1.out.size)); simp only [D.tcnt] at hn1; have nb1 : n1 ≤ 1125899906842624 := (by omega); have hng1 : decide ((n1 : Int) < 0) = false := decide_eq_false (by omega); have N1 := Lib.hid hn1; clear hb; clear z3))
      go_roundw
      case rel =>
        have e1 := N1.out; exact ⟨j + 1, n1, by omega, by go_num, by go_num, by omega, Lib.hid (by have h_ := CT.out; simp only [D.cnt, D.cnts, Nat.add_zero] at h_; omega), Lib.hid (HB.out.trans (W2.out.mono HB.out.size))⟩
      case measure => simp [intOf]; omega
    · obtain rfl : j = xs.length := by omega
      have nb := NN.out
      rw [List.take_length] at nb
      have NB := Lib.hid nb
      clear nb
      go_wp2_with fail
      go_ret
      exact ⟨ret_int (by have := NB.out; omega), HB.out⟩

end Go.Proofs.Ytifmnijdaboenaa
