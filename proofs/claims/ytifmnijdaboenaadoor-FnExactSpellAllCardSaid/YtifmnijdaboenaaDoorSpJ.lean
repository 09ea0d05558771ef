/- The program's 'TokenFault' and 'Spell' walked; one condition: the library's table of blanks holds what its text lays. -/
import Derived.Test.YtifmnijdaboenaaDoorSpI
import Derived.Test.YtifmnijdaboenaaDoorSpC
namespace Go.Proofs.YtifmnijdaboenaaDoor
open Go Go.RowKit
set_option linter.unusedVariables false
set_option linter.unusedSimpArgs false

theorem spR_size {k : Int} {x : ByteArray} (hx : x.size ≤ 60000) : (spR k x).size ≤ 120003 := by
  have h1 := esc_len2 34 x.data.toList
  have h2 := esc_len2 39 x.data.toList
  rw [size_data] at h1 h2
  unfold spR
  split
  · rw [size_mk]; omega
  · split
    · rw [size_mk]; omega
    · omega
theorem tf_lay' {k : Int} {x : ByteArray} (h11 : k = 11) : tfR k x = !(layL.contains x.data.toList) := by
  by_cases h : 60000 < x.size
  · rw [tf_big h]
    cases hh : layL.contains x.data.toList
    · rfl
    · have := (lay_has x).1 hh
      rw [ByteArray.toList_eq] at this
      have h2 := size_data x
      rcases this with e | e | e <;> (rw [e] at h2; simp at h2; omega)
  · exact tf_lay h h11

set_option maxRecDepth 100000 in
set_option maxHeartbeats 2000000 in
theorem implSpellRaw (k : Int) (x : ByteArray) (l c : Int) (hx : x.size ≤ 1048576) (w : World) :
    Calls Tryd.prog 31 #[.agg #[.int .i64 k, .string x, .int .i64 l, .int .i64 c]] w fun e w' => e = .returned (.string (spR k x)) ∧ Below w.heap.size w w' := by
  have HB := Lib.hid (below_alloc1 w (.cells #[.int .i64 k, .string x, .int .i64 l, .int .i64 c] 33))
  have z0 := (blk_cell (tk_new w k x l c) 0).trans rfl
  have z1 := (blk_cell (tk_new w k x l c) 1).trans rfl
  go_enter Tryd.func31, Tryd.ntmps31
  by_cases h7 : k = 7
  · have HE : Hid (spR k x = ⟨(escL 34 x.data.toList).toArray⟩) := by unfold spR; rw [if_pos h7]; exact Lib.hid rfl
    have CE := Lib.hid (implSpellQuoted x hx 34 (w.alloc (.cells #[.int .i64 k, .string x, .int .i64 l, .int .i64 c] 33)))
    rw [HE.out]
    clear HE
    subst h7
    go_wp2_with fail
    refine CE.out.mono ?_
    rintro e w2 ⟨rfl, hb⟩
    have HB2 := Lib.hid (HB.out.trans (hb.mono HB.out.size))
    clear hb z0 z1
    go_wp2
    go_ret
    exact ⟨rfl, HB2.out⟩
  · by_cases h6 : k = 6
    · have HE : Hid (spR k x = ⟨(escL 39 x.data.toList).toArray⟩) := by unfold spR; rw [if_neg h7, if_pos h6]; exact Lib.hid rfl
      have CE := Lib.hid (implSpellQuoted x hx 39 (w.alloc (.cells #[.int .i64 k, .string x, .int .i64 l, .int .i64 c] 33)))
      rw [HE.out]
      clear HE h7
      subst h6
      go_wp2_with fail
      refine CE.out.mono ?_
      rintro e w2 ⟨rfl, hb⟩
      have HB2 := Lib.hid (HB.out.trans (hb.mono HB.out.size))
      clear hb z0 z1
      go_wp2
      go_ret
      exact ⟨rfl, HB2.out⟩
    · have HE : Hid (spR k x = x) := by unfold spR; rw [if_neg h7, if_neg h6]; exact Lib.hid rfl
      rw [HE.out]
      go_wp2
      go_ret
      exact ⟨rfl, HB.out⟩

set_option maxRecDepth 100000 in
set_option maxHeartbeats 4000000 in
theorem implTokenFault (k : Int) (x : ByteArray) (l c : Int) (hx : x.size ≤ 1048576) (w : World) (hT : Tab w) :
    Calls Tryd.prog 15 #[.agg #[.int .i64 k, .string x, .int .i64 l, .int .i64 c]] w fun e w' => e = .returned (.bool (tfR k x)) ∧ Below w.heap.size w w' := by
  have HB := Lib.hid (below_alloc1 w (.cells #[.int .i64 k, .string x, .int .i64 l, .int .i64 c] 33))
  have BT := Lib.hid (tk_new w k x l c)
  have HT := Lib.hid hT
  clear hT
  have z0 := (blk_cell BT.out 0).trans rfl
  have z1 := (blk_cell BT.out 1).trans rfl
  have z2 := (blk_cell BT.out 2).trans rfl
  have z3 := (blk_cell BT.out 3).trans rfl
  go_enter Tryd.func15, Tryd.ntmps15
  by_cases h11 : k = 11
  · have HE := Lib.hid (tf_lay' (x := x) h11)
    rw [HE.out]
    clear HE
    subst h11
    have HLY := Lib.hid (lay_has x)
    by_cases e1 : x.toList = [123]
    · have b1 : (x.toList == [123]) = true := by simpa using e1
      rw [HLY.out.2 (.inl e1)]
      clear e1
      go_wp2
      go_ret
      exact ⟨ret_bool (by simp), HB.out⟩
    · have b1 : (x.toList == [123]) = false := by simpa using e1
      by_cases e2 : x.toList = [59]
      · have b2 : (x.toList == [59]) = true := by simpa using e2
        rw [HLY.out.2 (.inr (.inl e2))]
        clear e1 e2
        go_wp2
        go_ret
        exact ⟨ret_bool (by simp), HB.out⟩
      · have b2 : (x.toList == [59]) = false := by simpa using e2
        by_cases e3 : x.toList = [125]
        · have b3 : (x.toList == [125]) = true := by simpa using e3
          rw [HLY.out.2 (.inr (.inr e3))]
          clear e1 e2 e3
          go_wp2
          go_ret
          exact ⟨ret_bool (by simp), HB.out⟩
        · have b3 : (x.toList == [125]) = false := by simpa using e3
          have HN : Hid (layL.contains x.data.toList = false) := by
            show _ = _
            cases hh : layL.contains x.data.toList
            · rfl
            · rcases HLY.out.1 hh with h | h | h
              · exact absurd h e1
              · exact absurd h e2
              · exact absurd h e3
          rw [HN.out]
          clear e1 e2 e3 HN HLY
          go_wp2
          go_ret
          exact ⟨ret_bool (by simp), HB.out⟩
  by_cases hbig : 60000 < x.size
  · have hb1 : (60000 : Int) < (x.size : Int) := by omega
    rw [tf_big hbig]
    clear hbig
    go_wp2
    go_ret
    exact ⟨rfl, HB.out⟩
  have hb1 : ¬ (60000 : Int) < (x.size : Int) := by omega
  have HE := Lib.hid (tfR_spell k x h11 (by omega))
  rw [HE.out]
  clear HE
  have CS := Lib.hid (implSpellRaw k x l c hx)
  have SS := Lib.hid (spR_size (k := k) (x := x) (by omega))
  clear hbig
  generalize spR k x = sx at *
  have CL := Lib.hid (implLex sx (Nat.le_trans SS.out (by decide)))
  have H1 := Lib.hid (oneTk_eq (lexR sx) k x)
  generalize lexR sx = r at *
  obtain ⟨R, hR⟩ : ∃ R, R = !(oneTk r k x) := ⟨_, rfl⟩
  rw [← hR]
  have NOT : Hid (∀ b : Bool, ((b = true) ↔ oneTk r k x = true) → R = !b) := by
    show ∀ b : Bool, _
    intro b hb
    rw [hR]
    congr 1
    exact (Bool.eq_iff_iff.2 hb).symm
  clear hR
  go_wp2_with (first | (go_at_call 31; refine (CS.out _).mono ?_; rintro e wa ⟨rfl, hb⟩; have HBa := Lib.hid (HB.out.trans (hb.mono HB.out.size)); have BTa := Lib.hid (blk_below BT.out hb); clear hb z0 z1 z2 z3) | (go_at_call 8; refine (CL.out _ (HT.out.below HBa.out)).mono ?_; rintro e w1 ⟨cs', rfl, hfr, hbl⟩; obtain ⟨A, cc, rfl, hrow⟩ := lexres_parts hfr; have HB1 := Lib.hid (HBa.out.trans (hbl.mono HBa.out.size)); have BT1 := Lib.hid (blk_below BTa.out hbl); have HR := Lib.hid hrow; clear hfr hbl hrow))
  have z0 : (w1.alloc (.cells #[.int .i64 r.code, .int .i64 r.l, .int .i64 r.c, .slice A r.ts.length cc] 24)).cell? ⟨w.heap.size, 0, none⟩ = some (.int .i64 k) := (blk_cell (blk_old BT1.out _) 0).trans rfl
  have z1 : (w1.alloc (.cells #[.int .i64 r.code, .int .i64 r.l, .int .i64 r.c, .slice A r.ts.length cc] 24)).cell? ⟨w.heap.size, 1, none⟩ = some (.string x) := (blk_cell (blk_old BT1.out _) 1).trans rfl
  have y0 : (w1.alloc (.cells #[.int .i64 r.code, .int .i64 r.l, .int .i64 r.c, .slice A r.ts.length cc] 24)).cell? ⟨w1.heap.size, 0, none⟩ = some (.int .i64 r.code) := (blk_cell (blk_new w1 _) 0).trans rfl
  have y3 : (w1.alloc (.cells #[.int .i64 r.code, .int .i64 r.l, .int .i64 r.c, .slice A r.ts.length cc] 24)).cell? ⟨w1.heap.size, 3, none⟩ = some (.slice A r.ts.length cc) := (blk_cell (blk_new w1 _) 3).trans rfl
  have HBW := Lib.hid (HB1.out.alloc HB1.out.size (.cells #[.int .i64 r.code, .int .i64 r.l, .int .i64 r.c, .slice A r.ts.length cc] 24))
  have HRW := Lib.hid (fun (ts : List Tk) i y (h : ts[i]? = some y) (hr : RdRow w1 4 A (ts.map Tk.d)) => tkrow_parts (hr.below (by decide) (below_alloc1 w1 (.cells #[.int .i64 r.code, .int .i64 r.l, .int .i64 r.c, .slice A r.ts.length cc] 24))) h)
  generalize hW : w1.alloc (.cells #[.int .i64 r.code, .int .i64 r.l, .int .i64 r.c, .slice A r.ts.length cc] 24) = W at *
  clear hW
  by_cases hc : r.code = 0
  · by_cases hl : r.ts.length = 1
    · obtain ⟨y, hy⟩ : ∃ y, r.ts = [y] := List.length_eq_one_iff.1 hl
      obtain ⟨b, off, rfl, q0, q1, q2, q3⟩ := HRW.out r.ts 0 y (by rw [hy]; rfl) HR.out
      have hli : ((r.ts.length : Nat) : Int) = 1 := by omega
      rw [hl] at y3
      rw [hc] at y0
      simp only [Nat.zero_mul, Nat.add_zero] at q0 q1
      by_cases hk : y.k = k
      · have bk : (y.k == k) = true := by simpa using hk
        by_cases hx2 : y.x.toList = x.toList
        · have bx : (y.x.toList == x.toList) = true := by simpa using hx2
          have E := Lib.hid (NOT.out true (by rw [H1.out]; refine ⟨fun _ => ⟨y, hy, hc, hk, ?_⟩, fun _ => rfl⟩; exact ByteArray.ext (Array.ext' (by rw [ByteArray.toList_eq, ByteArray.toList_eq] at hx2; exact hx2))))
          clear NOT H1 hy hc hl hli HRW HR
          go_wp2
          go_quiet (fail)
          go_wp2
          go_ret
          exact ⟨ret_bool (by simp [E.out]), drewN_below HBW.out nq⟩
        · have bx : (y.x.toList == x.toList) = false := by simpa using hx2
          have E := Lib.hid (NOT.out false (by rw [H1.out]; refine ⟨fun h => (by cases h), fun hz => ?_⟩; obtain ⟨z, h1, _, _, h4⟩ := hz; rw [hy] at h1; injection h1 with h1; subst h1; exact absurd (by rw [h4]) hx2))
          clear NOT H1 hy hc hl hli HRW HR hx2
          go_wp2
          go_quiet (fail)
          go_wp2
          go_ret
          exact ⟨ret_bool (by simp [E.out]), drewN_below HBW.out nq⟩
      · have bk : (y.k == k) = false := by simpa using hk
        have dk : (y.k != k) = true := by simpa using hk
        have E := Lib.hid (NOT.out false (by rw [H1.out]; refine ⟨fun h => (by cases h), fun hz => ?_⟩; obtain ⟨z, h1, _, h3, _⟩ := hz; rw [hy] at h1; injection h1 with h1; subst h1; exact absurd h3 hk))
        clear NOT H1 hy hc hl hli HRW HR hk
        go_wp2
        go_quiet (fail)
        go_wp2
        go_ret
        exact ⟨ret_bool (by simp [E.out]), drewN_below HBW.out nq⟩
    · have hli : (((r.ts.length : Nat) : Int) == 1) = false := by rw [beq_eq_false_iff_ne]; omega
      have dli : (((r.ts.length : Nat) : Int) != 1) = true := by rw [bne_iff_ne]; omega
      have E := Lib.hid (NOT.out false (by rw [H1.out]; refine ⟨fun h => (by cases h), fun hz => ?_⟩; obtain ⟨z, h1, _⟩ := hz; exact absurd (by rw [h1]; rfl) hl))
      rw [hc] at y0
      generalize r.ts.length = n at *
      clear NOT H1 hc hl HRW HR
      go_wp2
      go_quiet (fail)
      go_wp2
      go_ret
      exact ⟨ret_bool (by simp [E.out]), drewN_below HBW.out nq⟩
  · have bc : (r.code == 0) = false := by simpa using hc
    have dc : (r.code != 0) = true := by simpa using hc
    have E := Lib.hid (NOT.out false (by rw [H1.out]; refine ⟨fun h => (by cases h), fun hz => ?_⟩; obtain ⟨z, _, h2, _⟩ := hz; exact absurd h2 hc))
    clear NOT H1 hc HRW HR
    go_wp2
    go_quiet (fail)
    go_wp2
    go_ret
    exact ⟨ret_bool (by simp [E.out]), drewN_below HBW.out nq⟩


set_option maxRecDepth 100000 in
set_option maxHeartbeats 2000000 in
theorem implSpell (k : Int) (x : ByteArray) (l c : Int) (hx : x.size ≤ 1048576) (w : World) (hT : Tab w) :
    Calls Tryd.prog 17 #[.agg #[.int .i64 k, .string x, .int .i64 l, .int .i64 c]] w fun e w' => e = .returned (.string (spellR k x)) ∧ Below w.heap.size w w' := by
  have HB := Lib.hid (below_alloc1 w (.cells #[.int .i64 k, .string x, .int .i64 l, .int .i64 c] 33))
  have BT := Lib.hid (tk_new w k x l c)
  have HT := Lib.hid (hT.below HB.out)
  clear hT
  have z0 := (blk_cell BT.out 0).trans rfl
  have z1 := (blk_cell BT.out 1).trans rfl
  have z2 := (blk_cell BT.out 2).trans rfl
  have z3 := (blk_cell BT.out 3).trans rfl
  have CT := Lib.hid (implTokenFault k x l c hx _ HT.out)
  have CS := Lib.hid (implSpellRaw k x l c hx)
  obtain ⟨R, hR⟩ : ∃ R, R = spellR k x := ⟨_, rfl⟩
  rw [← hR]
  have HR := Lib.hid hR
  clear hR
  go_enter Tryd.func17, Tryd.ntmps17
  cases ht : tfR k x
  · have E : Hid (R = spR k x) := by show _ = _; rw [HR.out, sp_false ht]
    rw [E.out]
    clear HR E
    go_wp2_with (first | (go_at_call 15; refine CT.out.mono ?_; rintro e w1 ⟨rfl, hb⟩; have HB := Lib.hid (HB.out.trans (hb.mono HB.out.size)); have BT := Lib.hid (blk_below BT.out hb); clear hb z0 z1 z2 z3; have z0 := (blk_cell BT.out 0).trans rfl; have z1 := (blk_cell BT.out 1).trans rfl; have z2 := (blk_cell BT.out 2).trans rfl; have z3 := (blk_cell BT.out 3).trans rfl; rw [ht]) | (go_at_call 31; refine (CS.out _).mono ?_; rintro e w2 ⟨rfl, hb⟩; have HB2 := Lib.hid (HB.out.trans (hb.mono HB.out.size)); clear hb z0 z1 z2 z3))
    go_ret
    exact ⟨rfl, HB2.out⟩
  · have E : Hid (R = ⟨#[]⟩) := by show _ = _; rw [HR.out, sp_true ht]
    rw [E.out]
    clear HR E
    go_wp2_with (go_at_call 15; refine CT.out.mono ?_; rintro e w1 ⟨rfl, hb⟩; have HB := Lib.hid (HB.out.trans (hb.mono HB.out.size)); clear hb z0 z1 z2 z3; rw [ht])
    go_ret
    exact ⟨rfl, HB.out⟩

end Go.Proofs.YtifmnijdaboenaaDoor
