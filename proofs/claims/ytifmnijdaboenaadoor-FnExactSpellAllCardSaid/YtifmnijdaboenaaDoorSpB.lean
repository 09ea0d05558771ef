/- The reference's 'TokenFault' and 'Spell' walked; no condition. -/
import Derived.Test.YtifmnijdaboenaaDoorSpA
import Derived.Test.YtifmnijdaboenaaDoorLxH
namespace Go.Proofs.YtifmnijdaboenaaDoor
open Go.RowKit
set_option linter.unusedVariables false
set_option linter.unusedSimpArgs false

/-- A token's cells, as it is handed over. -/
def tkV (k : Int) (x : ByteArray) (l c : Int) : Value := .agg #[.int .i64 k, .string x, .int .i64 l, .int .i64 c]
theorem escL_small {x : ByteArray} (m : UInt8) (h : x.size ≤ 1048576) : (escL m x.data.toList).length ≤ 2097154 := by
  have := esc_len2 m x.data.toList
  rw [size_data] at this
  omega
theorem size_mk (l : List UInt8) : (⟨l.toArray⟩ : ByteArray).size = l.length := by simp [ByteArray.size]
theorem tk_new (w : World) (k : Int) (x : ByteArray) (l c : Int) : (w.alloc (.cells #[.int .i64 k, .string x, .int .i64 l, .int .i64 c] 33)).heap[w.heap.size]? = some (.cells #[.int .i64 k, .string x, .int .i64 l, .int .i64 c] 33 (0, 0)) := blk_new w _

set_option maxRecDepth 100000 in
set_option maxHeartbeats 2000000 in
theorem specL2Spell (k : Int) (x : ByteArray) (l c : Int) (hx : x.size ≤ 1048576) (w : World) :
    Calls Tryd.prog 30 #[.agg #[.int .i64 k, .string x, .int .i64 l, .int .i64 c]] w fun e w' => e = .returned (.string (spR k x)) ∧ Below w.heap.size w w' := by
  have HB := Lib.hid (below_alloc1 w (.cells #[.int .i64 k, .string x, .int .i64 l, .int .i64 c] 33))
  have z0 := (blk_cell (tk_new w k x l c) 0).trans rfl
  have z1 := (blk_cell (tk_new w k x l c) 1).trans rfl
  go_enter Tryd.func30, Tryd.ntmps30
  by_cases h7 : k = 7
  · have HE : Hid (spR k x = ⟨(escL 34 x.data.toList).toArray⟩) := by unfold spR; rw [if_pos h7]; exact Lib.hid rfl
    have CE := Lib.hid (specEscape x hx 34 (w.alloc (.cells #[.int .i64 k, .string x, .int .i64 l, .int .i64 c] 33)))
    rw [HE.out]
    clear HE
    subst h7
    go_wp2_with fail
    refine CE.out.mono ?_
    rintro e w2 ⟨rfl, hb⟩
    have HB2 := Lib.hid (HB.out.trans (hb.mono HB.out.size))
    clear hb z0 z1
    go_wp2
    go_ret
    exact ⟨rfl, HB2.out⟩
  · by_cases h6 : k = 6
    · have HE : Hid (spR k x = ⟨(escL 39 x.data.toList).toArray⟩) := by unfold spR; rw [if_neg h7, if_pos h6]; exact Lib.hid rfl
      have CE := Lib.hid (specEscape x hx 39 (w.alloc (.cells #[.int .i64 k, .string x, .int .i64 l, .int .i64 c] 33)))
      rw [HE.out]
      clear HE h7
      subst h6
      go_wp2_with fail
      refine CE.out.mono ?_
      rintro e w2 ⟨rfl, hb⟩
      have HB2 := Lib.hid (HB.out.trans (hb.mono HB.out.size))
      clear hb z0 z1
      go_wp2
      go_ret
      exact ⟨rfl, HB2.out⟩
    · have HE : Hid (spR k x = x) := by unfold spR; rw [if_neg h7, if_neg h6]; exact Lib.hid rfl
      rw [HE.out]
      go_wp2
      go_ret
      exact ⟨rfl, HB.out⟩

/-- What the last comparison reads of the lexer's answer. -/
theorem lexres_parts {B : Nat} {w : World} {r : LexR} {cs : List Value} (h : Fr B w r.d cs) : ∃ A c, cs = [.int .i64 r.code, .int .i64 r.l, .int .i64 r.c, .slice A r.ts.length c] ∧ RdRow w 4 A (r.ts.map Tk.d) := by
  have h1 := h.rd
  unfold LexR.d at h1
  rw [rd_struct] at h1
  simp only [rdF_cons, rdF_nil, rd_int] at h1
  obtain ⟨e0, r0, rfl, rfl, e1, r1, rfl, rfl, e2, r2, rfl, rfl, e3, r3, rfl, h3, rfl⟩ := h1
  obtain ⟨A, c, rfl, _, _, h4⟩ := rd_slice h3
  exact ⟨A, c, by simp, h4⟩
theorem tkrow_parts {w : World} {A : Option Addr} {ts : List Tk} (h : RdRow w 4 A (ts.map Tk.d)) {i : Nat} {y : Tk} (hy : ts[i]? = some y) : ∃ b off, A = some ⟨b, off, none⟩ ∧ w.cell? ⟨b, off + i * 4, none⟩ = some (.int .i64 y.k) ∧ w.cell? ⟨b, off + i * 4 + 1, none⟩ = some (.string y.x) ∧ w.cell? ⟨b, off + i * 4 + 2, none⟩ = some (.int .i64 y.l) ∧ w.cell? ⟨b, off + i * 4 + 3, none⟩ = some (.int .i64 y.c) := by
  obtain ⟨b, off, es, hA, hcl, hrd, hc⟩ := h.get (i := i) (x := y.d) (by simp [hy])
  unfold Tk.d at hrd
  rw [rd_struct] at hrd
  simp only [rdF_cons, rdF_nil, rd_int, rd_str] at hrd
  obtain ⟨e0, r0, rfl, rfl, e1, r1, rfl, rfl, e2, r2, rfl, rfl, e3, r3, rfl, rfl, rfl⟩ := hrd
  exact ⟨b, off, hA, hc 0 _ rfl, hc 1 _ rfl, hc 2 _ rfl, hc 3 _ rfl⟩
theorem oneTk_eq (r : LexR) (k : Int) (x : ByteArray) : oneTk r k x = true ↔ ∃ y, r.ts = [y] ∧ r.code = 0 ∧ y.k = k ∧ y.x = x := by
  unfold oneTk
  match h : r.ts with
  | [] => simp
  | [y] =>
    simp only [Bool.and_eq_true, beq_iff_eq, List.cons.injEq, and_true]
    constructor
    · rintro ⟨⟨h1, h2⟩, h3⟩
      exact ⟨y, rfl, h1, h2, by
        have : y.x.data.toList = x.data.toList := by simpa [ByteArray.toList_eq] using h3
        apply ByteArray.ext
        apply Array.ext'
        exact this⟩
    · rintro ⟨z, rfl, h1, h2, h3⟩
      exact ⟨⟨h1, h2⟩, by rw [h3]⟩
  | a :: b :: q => simp
theorem tf_big {k : Int} {x : ByteArray} (h : 60000 < x.size) : tfR k x = true := by unfold tfR; rw [if_pos h]
theorem tf_str {k : Int} {x : ByteArray} (h : ¬ 60000 < x.size) (h7 : k = 7) : tfR k x = !(okB x.data.toList && decide ((escL 34 x.data.toList).length ≤ 60000)) := by unfold tfR; rw [if_neg h, if_pos h7]
theorem tf_chr {k : Int} {x : ByteArray} (h : ¬ 60000 < x.size) (h6 : k = 6) : tfR k x = !(decide (x.size = 1) && okB x.data.toList) := by unfold tfR; rw [if_neg h, if_neg (by omega), if_pos h6]
theorem tf_lay {k : Int} {x : ByteArray} (h : ¬ 60000 < x.size) (h11 : k = 11) : tfR k x = !(layL.contains x.data.toList) := by unfold tfR; rw [if_neg h, if_neg (by omega), if_neg (by omega), if_pos h11]
theorem tf_nil {k : Int} {x : ByteArray} (h : ¬ 60000 < x.size) (h7 : k ≠ 7) (h6 : k ≠ 6) (h11 : k ≠ 11) (h0 : x.size = 0) : tfR k x = true := by unfold tfR; rw [if_neg h, if_neg h7, if_neg h6, if_neg h11, if_pos h0]
theorem tf_lex {k : Int} {x : ByteArray} (h : ¬ 60000 < x.size) (h7 : k ≠ 7) (h6 : k ≠ 6) (h11 : k ≠ 11) (h0 : ¬ x.size = 0) : tfR k x = !(oneTk (lexR x) k x) := by unfold tfR; rw [if_neg h, if_neg h7, if_neg h6, if_neg h11, if_neg h0]
theorem lay_has (x : ByteArray) : layL.contains x.data.toList = true ↔ x.toList = [123] ∨ x.toList = [59] ∨ x.toList = [125] := by
  rw [ByteArray.toList_eq]
  simp only [layL, List.contains_iff_mem, List.mem_cons, List.not_mem_nil, or_false]

set_option maxRecDepth 100000 in
set_option maxHeartbeats 4000000 in
theorem specTokenFault (k : Int) (x : ByteArray) (l c : Int) (hx : x.size ≤ 1048576) (w : World) :
    Calls Tryd.prog 13 #[.agg #[.int .i64 k, .string x, .int .i64 l, .int .i64 c]] w fun e w' => e = .returned (.bool (tfR k x)) ∧ Below w.heap.size w w' := by
  have HB := Lib.hid (below_alloc1 w (.cells #[.int .i64 k, .string x, .int .i64 l, .int .i64 c] 33))
  have BT := Lib.hid (tk_new w k x l c)
  have z0 := (blk_cell BT.out 0).trans rfl
  have z1 := (blk_cell BT.out 1).trans rfl
  have z2 := (blk_cell BT.out 2).trans rfl
  have z3 := (blk_cell BT.out 3).trans rfl
  go_enter Tryd.func13, Tryd.ntmps13
  by_cases hbig : 60000 < x.size
  · have hb1 : (60000 : Int) < (x.size : Int) := by omega
    rw [tf_big hbig]
    clear hbig
    go_wp2
    go_ret
    exact ⟨rfl, HB.out⟩
  have hb1 : ¬ (60000 : Int) < (x.size : Int) := by omega
  by_cases h7 : k = 7
  · have HE := Lib.hid (tf_str hbig h7)
    rw [HE.out]
    clear HE hbig
    subst h7
    have CB := Lib.hid (specBytes x hx)
    cases ho : okB x.data.toList
    · go_wp2_with (go_at_call 29; refine (CB.out _).mono ?_; rintro e w1 ⟨rfl, hw⟩; obtain rfl := hw.symm; rw [ho])
      go_ret
      exact ⟨rfl, HB.out⟩
    · have CS := Lib.hid (specL2Spell 7 x l c hx)
      have HS : Hid (spR 7 x = ⟨(escL 34 x.data.toList).toArray⟩) := by show _ = _; unfold spR; rw [if_pos rfl]
      obtain ⟨y, hy⟩ : ∃ y : ByteArray, y = ⟨(escL 34 x.data.toList).toArray⟩ := ⟨_, rfl⟩
      rw [← hy] at HS
      have HL : Hid ((escL 34 x.data.toList).length = y.size) := by show _ = _; rw [hy, size_mk]
      rw [HL.out]
      clear hy
      by_cases hl : 60000 < y.size
      · have hl1 : (60000 : Int) < (y.size : Int) := by omega
        have HV : Hid ((!(true && decide (y.size ≤ 60000))) = true) := by show _ = _; simp; omega
        rw [HV.out]
        clear hl HV
        go_wp2_with (first | (go_at_call 29; refine (CB.out _).mono ?_; rintro e w1 ⟨rfl, hw⟩; obtain rfl := hw.symm; rw [ho]) | (go_at_call 30; refine (CS.out _).mono ?_; rintro e w1 ⟨rfl, hb⟩; have HB1 := Lib.hid (HB.out.trans (hb.mono HB.out.size)); clear hb z0 z1 z2 z3; rw [HS.out]))
        go_ret
        exact ⟨rfl, HB1.out⟩
      · have hl1 : ¬ (60000 : Int) < (y.size : Int) := by omega
        have HV : Hid ((!(true && decide (y.size ≤ 60000))) = false) := by show _ = _; simp; omega
        rw [HV.out]
        clear hl HV
        go_wp2_with (first | (go_at_call 29; refine (CB.out _).mono ?_; rintro e w1 ⟨rfl, hw⟩; obtain rfl := hw.symm; rw [ho]) | (go_at_call 30; refine (CS.out _).mono ?_; rintro e w1 ⟨rfl, hb⟩; have HB1 := Lib.hid (HB.out.trans (hb.mono HB.out.size)); clear hb z0 z1 z2 z3; rw [HS.out]))
        go_ret
        exact ⟨ret_bool (by simp; omega), HB1.out⟩
  by_cases h6 : k = 6
  · have HE := Lib.hid (tf_chr hbig h6)
    rw [HE.out]
    clear HE hbig h7
    subst h6
    have CB := Lib.hid (specBytes x hx)
    by_cases h1 : x.size = 1
    · have h1i : ((x.size : Int) == 1) = true := by simp; omega
      cases ho : okB x.data.toList
      · go_wp2_with (go_at_call 29; refine (CB.out _).mono ?_; rintro e w1 ⟨rfl, hw⟩; obtain rfl := hw.symm; rw [ho])
        go_ret
        exact ⟨ret_bool (by simp), HB.out⟩
      · go_wp2_with (go_at_call 29; refine (CB.out _).mono ?_; rintro e w1 ⟨rfl, hw⟩; obtain rfl := hw.symm; rw [ho])
        go_ret
        exact ⟨ret_bool (by simp [h1]), HB.out⟩
    · have h1i : ((x.size : Int) == 1) = false := by simp; omega
      go_wp2
      go_ret
      exact ⟨ret_bool (by simp [h1]), HB.out⟩
  by_cases h11 : k = 11
  · have HE := Lib.hid (tf_lay hbig h11)
    rw [HE.out]
    clear HE hbig h7 h6
    subst h11
    have HLY := Lib.hid (lay_has x)
    by_cases e1 : x.toList = [123]
    · have b1 : (x.toList == [123]) = true := by simpa using e1
      rw [HLY.out.2 (.inl e1)]
      clear e1
      go_wp2
      go_ret
      exact ⟨ret_bool (by simp), HB.out⟩
    · have b1 : (x.toList == [123]) = false := by simpa using e1
      by_cases e2 : x.toList = [59]
      · have b2 : (x.toList == [59]) = true := by simpa using e2
        rw [HLY.out.2 (.inr (.inl e2))]
        clear e1 e2
        go_wp2
        go_ret
        exact ⟨ret_bool (by simp), HB.out⟩
      · have b2 : (x.toList == [59]) = false := by simpa using e2
        by_cases e3 : x.toList = [125]
        · have b3 : (x.toList == [125]) = true := by simpa using e3
          rw [HLY.out.2 (.inr (.inr e3))]
          clear e1 e2 e3
          go_wp2
          go_ret
          exact ⟨ret_bool (by simp), HB.out⟩
        · have b3 : (x.toList == [125]) = false := by simpa using e3
          have HN : Hid (layL.contains x.data.toList = false) := by
            show _ = _
            cases hh : layL.contains x.data.toList
            · rfl
            · rcases HLY.out.1 hh with h | h | h
              · exact absurd h e1
              · exact absurd h e2
              · exact absurd h e3
          rw [HN.out]
          clear e1 e2 e3 HN HLY
          go_wp2
          go_ret
          exact ⟨ret_bool (by simp), HB.out⟩
  by_cases h0 : x.size = 0
  · have h0i : ((x.size : Int) == 0) = true := by rw [h0]; rfl
    rw [tf_nil hbig h7 h6 h11 h0]
    clear h0 hbig
    go_wp2
    go_ret
    exact ⟨rfl, HB.out⟩
  have h0i : ((x.size : Int) == 0) = false := by rw [beq_eq_false_iff_ne]; omega
  have HE := Lib.hid (tf_lex hbig h7 h6 h11 h0)
  rw [HE.out]
  clear HE hbig h0
  have CL := Lib.hid (specLex x hx)
  have H1 := Lib.hid (oneTk_eq (lexR x) k x)
  generalize lexR x = r at *
  obtain ⟨R, hR⟩ : ∃ R, R = !(oneTk r k x) := ⟨_, rfl⟩
  rw [← hR]
  have NOT : Hid (∀ b : Bool, ((b = true) ↔ oneTk r k x = true) → R = !b) := by
    show ∀ b : Bool, _
    intro b hb
    rw [hR]
    congr 1
    exact (Bool.eq_iff_iff.2 hb).symm
  clear z2 z3 hR
  go_wp2_with (go_at_call 7; refine (CL.out _).mono ?_; rintro e w1 ⟨cs', rfl, hfr, hbl⟩; obtain ⟨A, cc, rfl, hrow⟩ := lexres_parts hfr; have HB1 := Lib.hid (HB.out.trans (hbl.mono HB.out.size)); have BT1 := Lib.hid (blk_below BT.out hbl); have HR := Lib.hid hrow; clear hfr hbl hrow z0 z1)
  have z0 : (w1.alloc (.cells #[.int .i64 r.code, .int .i64 r.l, .int .i64 r.c, .slice A r.ts.length cc] 24)).cell? ⟨w.heap.size, 0, none⟩ = some (.int .i64 k) := (blk_cell (blk_old BT1.out _) 0).trans rfl
  have y0 : (w1.alloc (.cells #[.int .i64 r.code, .int .i64 r.l, .int .i64 r.c, .slice A r.ts.length cc] 24)).cell? ⟨w1.heap.size, 0, none⟩ = some (.int .i64 r.code) := (blk_cell (blk_new w1 _) 0).trans rfl
  have y3 : (w1.alloc (.cells #[.int .i64 r.code, .int .i64 r.l, .int .i64 r.c, .slice A r.ts.length cc] 24)).cell? ⟨w1.heap.size, 3, none⟩ = some (.slice A r.ts.length cc) := (blk_cell (blk_new w1 _) 3).trans rfl
  have HBW := Lib.hid (HB1.out.alloc HB1.out.size (.cells #[.int .i64 r.code, .int .i64 r.l, .int .i64 r.c, .slice A r.ts.length cc] 24))
  have HRW := Lib.hid (fun (ts : List Tk) i y (h : ts[i]? = some y) (hr : RdRow w1 4 A (ts.map Tk.d)) => tkrow_parts (hr.below (by decide) (below_alloc1 w1 (.cells #[.int .i64 r.code, .int .i64 r.l, .int .i64 r.c, .slice A r.ts.length cc] 24))) h)
  generalize hW : w1.alloc (.cells #[.int .i64 r.code, .int .i64 r.l, .int .i64 r.c, .slice A r.ts.length cc] 24) = W at *
  clear hW
  by_cases hc : r.code = 0
  · by_cases hl : r.ts.length = 1
    · obtain ⟨y, hy⟩ : ∃ y, r.ts = [y] := List.length_eq_one_iff.1 hl
      obtain ⟨b, off, rfl, q0, q1, q2, q3⟩ := HRW.out r.ts 0 y (by rw [hy]; rfl) HR.out
      have hli : ((r.ts.length : Nat) : Int) = 1 := by omega
      rw [hl] at y3
      rw [hc] at y0
      simp only [Nat.zero_mul, Nat.add_zero] at q0 q1
      by_cases hk : y.k = k
      · have bk : (y.k == k) = true := by simpa using hk
        by_cases hx2 : y.x.toList = x.toList
        · have bx : (y.x.toList == x.toList) = true := by simpa using hx2
          have E := Lib.hid (NOT.out true (by rw [H1.out]; refine ⟨fun _ => ⟨y, hy, hc, hk, ?_⟩, fun _ => rfl⟩; exact ByteArray.ext (Array.ext' (by rw [ByteArray.toList_eq, ByteArray.toList_eq] at hx2; exact hx2))))
          clear NOT H1 hy hc hl hli HRW HR
          go_wp2
          go_quiet (fail)
          go_wp2
          go_ret
          exact ⟨ret_bool (by simp [E.out]), drewN_below HBW.out nq⟩
        · have bx : (y.x.toList == x.toList) = false := by simpa using hx2
          have E := Lib.hid (NOT.out false (by rw [H1.out]; refine ⟨fun h => (by cases h), fun hz => ?_⟩; obtain ⟨z, h1, _, _, h4⟩ := hz; rw [hy] at h1; injection h1 with h1; subst h1; exact absurd (by rw [h4]) hx2))
          clear NOT H1 hy hc hl hli HRW HR hx2
          go_wp2
          go_quiet (fail)
          go_wp2
          go_ret
          exact ⟨ret_bool (by simp [E.out]), drewN_below HBW.out nq⟩
      · have bk : (y.k == k) = false := by simpa using hk
        have dk : (y.k != k) = true := by simpa using hk
        have E := Lib.hid (NOT.out false (by rw [H1.out]; refine ⟨fun h => (by cases h), fun hz => ?_⟩; obtain ⟨z, h1, _, h3, _⟩ := hz; rw [hy] at h1; injection h1 with h1; subst h1; exact absurd h3 hk))
        clear NOT H1 hy hc hl hli HRW HR hk
        go_wp2
        go_quiet (fail)
        go_wp2
        go_ret
        exact ⟨ret_bool (by simp [E.out]), drewN_below HBW.out nq⟩
    · have hli : (((r.ts.length : Nat) : Int) == 1) = false := by rw [beq_eq_false_iff_ne]; omega
      have dli : (((r.ts.length : Nat) : Int) != 1) = true := by rw [bne_iff_ne]; omega
      have E := Lib.hid (NOT.out false (by rw [H1.out]; refine ⟨fun h => (by cases h), fun hz => ?_⟩; obtain ⟨z, h1, _⟩ := hz; exact absurd (by rw [h1]; rfl) hl))
      rw [hc] at y0
      generalize r.ts.length = n at *
      clear NOT H1 hc hl HRW HR
      go_wp2
      go_quiet (fail)
      go_wp2
      go_ret
      exact ⟨ret_bool (by simp [E.out]), drewN_below HBW.out nq⟩
  · have bc : (r.code == 0) = false := by simpa using hc
    have dc : (r.code != 0) = true := by simpa using hc
    have E := Lib.hid (NOT.out false (by rw [H1.out]; refine ⟨fun h => (by cases h), fun hz => ?_⟩; obtain ⟨z, _, h2, _⟩ := hz; exact absurd h2 hc))
    clear NOT H1 hc HRW HR
    go_wp2
    go_quiet (fail)
    go_wp2
    go_ret
    exact ⟨ret_bool (by simp [E.out]), drewN_below HBW.out nq⟩

end Go.Proofs.YtifmnijdaboenaaDoor
