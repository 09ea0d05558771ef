/- What the laws' helpers that mark and look for marks do with []string; no condition. -/
import Derived.Test.YthidbmjdphfddaaDoorMkT
import Derived.Test.YthidbmjdphfddaaDoorHf
import Derived.Test.YthidbmjdphfddaaDoorProg
import Derived.Deep.RegionHeld3
namespace Go.Proofs.YthidbmjdphfddaaDoor
open Go.RowKit
set_option linter.unusedVariables false
set_option linter.unusedSimpArgs false

theorem n_StringS {xs : List D} (ih : ∀ x ∈ xs, ∃ (sX : ByteArray), x = (.str sX : D)) : ∀ x ∈ xs, x.n = 1 := fun x hx => by
  obtain ⟨sX, rfl⟩ := ih x hx
  rfl
theorem n'_StringS {xs : List D} (ih : ∀ x ∈ xs, ∃ (sX : ByteArray), x = (.str sX : D)) : ∀ x ∈ xs, x.n = 1 := fun x hx => by
  obtain ⟨sX, rfl⟩ := ih x hx
  rfl
set_option maxRecDepth 100000 in
set_option maxHeartbeats 2000000 in
theorem markStringS_of (xs : List D) (hn : xs.length ≤ 140737488351232) (ih : ∀ x ∈ xs, ∃ (sX : ByteArray), x = (.str sX : D)) : MkO Tryd.prog 8 (.slice 1 xs) := by
  intro w v fp k h hnd hl hk
  simp only [D.K] at h
  obtain ⟨A, c, he, h2, h3, h4⟩ := h
  obtain rfl : v = .slice A xs.length c := by simpa using he
  simp only [D.tcnt] at hk ⊢
  have hsz := n_StringS ih
  rcases h4 with ⟨rfl, rfl⟩ | ⟨b, off, f, rfl, h6, rfl, h8⟩
  · clear he hsz ih
    go_enter Tryd.func8, Tryd.ntmps8
    go_wp2_with fail
    go_loop [1, 5] (fun q i => i = .int .i64 0 ∧ q = .int .i64 k) (fun _ _ => 0)
    case atStart => exact ⟨rfl, rfl⟩
    case round =>
      obtain ⟨rfl, rfl⟩ := hrel
      go_wp2_with fail
      go_ret
      exact ⟨by first | rfl | exact ret_int (by simp [D.cnts]), by simp only [D.top, D.marks, D.K]; exact ⟨A, c, rfl, h2, h3, .inl ⟨True.intro, True.intro⟩⟩, TouchF.refl _ _⟩
  · rw [D.Row_flats hsz] at h8
    have IH := Lib.hid ih
    have HSZ := Lib.hid hsz
    have HL := Lib.hid hl
    have HN := Lib.hid hnd
    have H8 := Lib.hid h8
    have H2 := Lib.hid h2
    have H3 := Lib.hid h3
    have HB := Lib.hid (List.nodup_cons.1 hnd).1
    clear he ih hl hnd h8 h2 h3 hsz
    go_enter Tryd.func8, Tryd.ntmps8
    go_wp2_with fail
    go_loopw [1, 5] (fun q i wr => ∃ j n : Nat, j ≤ xs.length ∧ i = .int .i64 j ∧ q = .int .i64 n ∧ n ≤ 1125899906842624 ∧ Hid (n = k + D.cnts (xs.take j)) ∧ Hid (D.Row wr b off 1 (D.flats (D.marks (xs.take j) k) ++ D.flats (xs.drop j)) f ∧ TouchF (b :: f) w wr)) (fun _ i _ => xs.length - (intOf i).toNat)
    case atStart => exact ⟨0, k, Nat.zero_le _, rfl, rfl, by omega, Lib.hid (by simp [D.cnts]), Lib.hid ⟨by simpa [D.marks, D.flats] using H8.out, TouchF.refl _ _⟩⟩
    case round =>
      obtain ⟨j, n, hj, rfl, rfl, hnb, hnn, hrel⟩ := hrel
      obtain ⟨row0, ht⟩ := hrel.out
      have NN := Lib.hid hnn.out
      clear hrel hnn
      by_cases hlt : j < xs.length
      · obtain ⟨sX, hx⟩ := IH.out _ (List.getElem_mem hlt)
        have hlen := marks_len HSZ.out k j hj
        rw [marks_at hlt, hx] at row0
        have hct := cnt_take hlt
        have hcl := cnts_take_le xs (j + 1)
        have hmn := marks_next hlt k
        rw [hx] at hct hmn
        have nb := NN.out
        rw [← nb] at hmn
        have CT : Hid (n + (.str sX : D).cnt = k + D.cnts (xs.take (j + 1))) := by show _ = _; omega
        have CB : Hid (k + D.cnts (xs.take (j + 1)) ≤ 1125899906842624) := by show _ ≤ _; omega
        have MN := Lib.hid hmn
        generalize hM : D.flats (D.marks (xs.take j) k) = M at row0 hlen
        generalize hR : D.flats (xs.drop (j + 1)) = R at row0
        have HLEN := Lib.hid hlen
        have HM := Lib.hid hM
        have HR := Lib.hid hR
        simp only [D.flat, D.flats, List.cons_append, List.nil_append, List.append_assoc] at row0
        have T0 := Lib.hid ht
        have cb := CB.out
        have ct := CT.out
        simp only [D.cnt, D.cnts, Nat.add_zero] at ct
        have ROW0 := Lib.hid row0
        clear hlen hct hcl hmn nb ht hM hR hx
        go_wp2_with (first
          | (go_at_call 16; (with_reducible refine (markText_at _ (n) (by omega) (by omega) _).mono ?_); rintro e y0 ⟨rfl, hb⟩; have ROW1 := Lib.hid (row_below ROW0.out hb); have T1 := Lib.hid (T0.out.trans (TouchF.of_below hb)); clear hb)
          | (refine wpl_leaf_str rfl _ _ _ rfl (b := b) (off := off) (fp := f) (rs := (R)) (m := sX) (ms := (M ++ [])) (p := off + j) rfl rfl (by kernel_rfl) (by have h_ := HLEN.out; simp only [List.length_append, List.length_cons, List.length_nil]; omega) (row := (by simpa using ROW1.out)) HB.out (Row_live T1.out (HL.out b (by simp))) ?_; intro x0 row ht; have ROW2 := Lib.hid row; have T2 := Lib.hid (T1.out.trans ht); clear ROW1; clear row ht))
        go_roundw
        case rel =>
          refine ⟨j + 1, n + 1, by omega, by go_num, by go_num, by omega, Lib.hid (by have h_ := CT.out; simp only [D.cnt, D.cnts, Nat.add_zero] at h_; omega), Lib.hid ⟨?_, T2.out⟩⟩
          rw [← MN_eq MN.out HM.out HR.out]
          have hr := ROW2.out
          simpa [D.mark, D.marks, D.flat, D.flats, D.top, D.cnt, D.cnts, Nat.add_assoc] using hr
        case measure => simp [intOf]; omega
      · obtain rfl : j = xs.length := by omega
        rw [List.drop_length, D.flats, List.append_nil, List.take_length] at row0
        have ROW := Lib.hid ((D.Row_flats (D.marks_mem_n HSZ.out k)).2 row0)
        have HT := Lib.hid ht
        have nb := NN.out
        rw [List.take_length] at nb
        have NB := Lib.hid nb
        clear row0 ht nb
        go_wp2_with fail
        go_ret
        exact ⟨ret_int (by have := NB.out; omega), by simp only [D.top, D.K]; exact ⟨_, c, by rw [D.marks_length], by rw [D.marks_length]; exact H2.out, H3.out, .inr ⟨b, off, f, rfl, Nat.lt_of_lt_of_le h6 HT.out.size, rfl, ROW.out⟩⟩, HT.out⟩
set_option maxRecDepth 100000 in
set_option maxHeartbeats 2000000 in
theorem heldStringS_of (xs : List D) (hn : xs.length ≤ 140737488351232) (ih : ∀ x ∈ xs, ∃ (sX : ByteArray), x = (.str sX : D)) : HdO Tryd.prog 9 (.slice 1 xs) := by
  intro w v k h hk
  simp only [D.top] at h
  obtain ⟨A, c, rfl, _, _, hrow⟩ := rd_slice1 h
  simp only [D.tcnt] at hk ⊢
  rw [D.marks_length]
  have IH := Lib.hid ih
  have H := Lib.hid hrow
  clear ih h hrow
  go_enter Tryd.func9, Tryd.ntmps9
  go_wp2_with fail
  go_loopw [1, 5] (fun q i wr => ∃ j n : Nat, j ≤ xs.length ∧ i = .int .i64 j ∧ q = .int .i64 n ∧ n ≤ 1125899906842624 ∧ Hid (n = k + D.cnts (xs.take j)) ∧ Hid (Below w.heap.size w wr)) (fun _ i _ => xs.length - (intOf i).toNat)
  case atStart => exact ⟨0, k, Nat.zero_le _, rfl, rfl, by omega, Lib.hid (by simp [D.cnts]), Lib.hid (Below.refl _ _)⟩
  case round =>
    obtain ⟨j, n, hj, rfl, rfl, hnb, hnn, hrel⟩ := hrel
    have HB := Lib.hid hrel.out
    have NN := Lib.hid hnn.out
    clear hrel hnn
    by_cases hlt : j < xs.length
    · obtain ⟨sX, hx⟩ := IH.out _ (List.getElem_mem hlt)
      have hget := marks_get hlt k
      have hct := cnt_take hlt
      have hcl := cnts_take_le xs (j + 1)
      have nb := NN.out
      rw [← nb, hx] at hget
      rw [hx] at hct
      have ct : n + (.str sX : D).cnt = k + D.cnts (xs.take (j + 1)) := by omega
      have CB : Hid (k + D.cnts (xs.take (j + 1)) ≤ 1125899906842624) := by show _ ≤ _; omega
      have CT := Lib.hid ct
      have cb := CB.out
      simp only [D.cnt, D.cnts, Nat.add_zero] at ct
      obtain ⟨b, off, cs, rfl, hcl2, hrd0, hc⟩ := (RdRow.below H.out (by omega) HB.out).get hget
      have hrd : RdF wr [.str (markT (n))] cs := by
        have h1 := rd_flat.1 hrd0
        simpa [D.mark, D.marks, D.flat, D.flats, D.top, D.cnt, D.cnts, Nat.add_assoc, Nat.add_comm, Nat.add_left_comm] using h1
      simp only [rdF_cons, rdF_nil, rd_int, rd_bool, rd_str] at hrd
      obtain ⟨q0, s0, rfl, rfl, rfl⟩ := hrd
      have C0 : Hid (∀ w', Below wr.heap.size wr w' → w'.cell? ⟨b, off + j, none⟩ = some (.string (markT (n)))) := fun w' hb => (fun h0 : wr.cell? ⟨b, off + j, none⟩ = some (.string (markT (n))) => (hb.cell (World.block_lt_of_cell? wr _ h0)).trans h0) (by simpa using hc 0 _ rfl)
      have W0 := Lib.hid (Below.refl wr.heap.size wr)
      clear hct hcl nb hx hget hrd0 hcl2 hc
      have z0 : World.cell? _ ⟨b, off + j, none⟩ = some (.string (markT (n))) := (C0.out _ W0.out).trans (congrArg (fun q => some (Value.string (markT q))) (by omega))
      go_wp2_with fail
      go_region_held3 (fun w' => w'.cell? ⟨b, off + j, none⟩ = some (.string (markT (n))))
        (first | exact z0 | exact (C0.out _ W1.out).trans (congrArg (fun q => some (Value.string (markT q))) (by omega)))
        (first
          | (go_at_call 16; (with_reducible refine (markText_at _ (n) (by omega) (by omega) _).mono ?_); rintro e y0 ⟨rfl, hb⟩; have W1 := Lib.hid (W0.out.drew.trans (hb.mono W0.out.drew.size)); clear hb))
      clear z0
      go_wp2_with fail
      go_roundw
      case rel =>
        exact ⟨j + 1, n + 1, by omega, by go_num, by go_num, by omega, Lib.hid (by have h_ := CT.out; simp only [D.cnt, D.cnts, Nat.add_zero] at h_; omega), Lib.hid (HB.out.trans (W1.out.mono HB.out.size))⟩
      case measure => simp [intOf]; omega
    · obtain rfl : j = xs.length := by omega
      have nb := NN.out
      rw [List.take_length] at nb
      have NB := Lib.hid nb
      clear nb
      go_wp2_with fail
      go_ret
      exact ⟨ret_int (by have := NB.out; omega), HB.out⟩

end Go.Proofs.YthidbmjdphfddaaDoor
