/- The reference's 'Spell' and 'SpellAll' walked; no condition. -/
import Derived.Test.YtifmnijdaboenaaDoorSpB
namespace Go.Proofs.YtifmnijdaboenaaDoor
open Go.RowKit
set_option linter.unusedVariables false
set_option linter.unusedSimpArgs false

theorem sp_true {k : Int} {x : ByteArray} (h : tfR k x = true) : spellR k x = ⟨#[]⟩ := by unfold spellR; rw [if_pos h]
theorem sp_false {k : Int} {x : ByteArray} (h : tfR k x = false) : spellR k x = spR k x := by unfold spellR; rw [if_neg (by rw [h]; decide)]
theorem spR_str (x : ByteArray) : spR 7 x = ⟨(escL 34 x.data.toList).toArray⟩ := by unfold spR; rw [if_pos rfl]
theorem spR_else {k : Int} {x : ByteArray} (h7 : k ≠ 7) (h6 : k ≠ 6) : spR k x = x := by unfold spR; rw [if_neg h7, if_neg h6]

set_option maxRecDepth 100000 in
set_option maxHeartbeats 4000000 in
theorem specSpell (k : Int) (x : ByteArray) (l c : Int) (hx : x.size ≤ 1048576) (w : World) :
    Calls Tryd.prog 16 #[.agg #[.int .i64 k, .string x, .int .i64 l, .int .i64 c]] w fun e w' => e = .returned (.string (spellR k x)) ∧ Below w.heap.size w w' := by
  have HB := Lib.hid (below_alloc1 w (.cells #[.int .i64 k, .string x, .int .i64 l, .int .i64 c] 33))
  have BT := Lib.hid (tk_new w k x l c)
  have z0 := (blk_cell BT.out 0).trans rfl
  have z1 := (blk_cell BT.out 1).trans rfl
  have z2 := (blk_cell BT.out 2).trans rfl
  have z3 := (blk_cell BT.out 3).trans rfl
  obtain ⟨R, hR⟩ : ∃ R, R = spellR k x := ⟨_, rfl⟩
  rw [← hR]
  have HR := Lib.hid hR
  clear hR
  go_enter Tryd.func16, Tryd.ntmps16
  by_cases h7 : k = 7
  · have CB := Lib.hid (specBytes x hx)
    subst h7
    cases ho : okB x.data.toList
    · have E : Hid (R = ⟨#[]⟩) := by
        show _ = _
        rw [HR.out, sp_true]
        by_cases hb : 60000 < x.size
        · exact tf_big hb
        · rw [tf_str hb rfl, ho]; rfl
      rw [E.out]
      clear HR E
      go_wp2_with (go_at_call 29; refine (CB.out _).mono ?_; rintro e w1 ⟨rfl, hw⟩; obtain rfl := hw.symm; rw [ho])
      go_ret
      exact ⟨rfl, HB.out⟩
    · by_cases hb : 60000 < x.size
      · have hb1 : (60000 : Int) < (x.size : Int) := by omega
        have hb2 : decide ((60000 : Int) < (x.size : Int)) = true := decide_eq_true hb1
        have E : Hid (R = ⟨#[]⟩) := by show _ = _; rw [HR.out, sp_true (tf_big hb)]
        rw [E.out]
        clear HR E hb
        go_wp2_with (go_at_call 29; refine (CB.out _).mono ?_; rintro e w1 ⟨rfl, hw⟩; obtain rfl := hw.symm; rw [ho])
        go_ret
        exact ⟨rfl, HB.out⟩
      · have hb1 : ¬ (60000 : Int) < (x.size : Int) := by omega
        have hb2 : decide ((60000 : Int) < (x.size : Int)) = false := decide_eq_false hb1
        have CS := Lib.hid (specL2Spell 7 x l c hx)
        have TF := Lib.hid (tf_str (x := x) hb (rfl : (7 : Int) = 7))
        obtain ⟨y, hy⟩ : ∃ y : ByteArray, y = spR 7 x := ⟨_, rfl⟩
        have HY := Lib.hid hy
        have HL : Hid ((escL 34 x.data.toList).length = y.size) := by show _ = _; rw [hy, spR_str, size_mk]
        rw [← hy] at CS
        clear hy hb
        by_cases hl : 60000 < y.size
        · have hl1 : (60000 : Int) < (y.size : Int) := by omega
          have hl2 : decide ((60000 : Int) < (y.size : Int)) = true := decide_eq_true hl1
          have E : Hid (R = ⟨#[]⟩) := by show _ = _; rw [HR.out, sp_true]; rw [TF.out, ho, HL.out]; simp; omega
          rw [E.out]
          clear HR E hl TF HL HY
          go_wp2_with (first | (go_at_call 29; refine (CB.out _).mono ?_; rintro e w1 ⟨rfl, hw⟩; obtain rfl := hw.symm; rw [ho]) | (go_at_call 30; refine (CS.out _).mono ?_; rintro e w1 ⟨rfl, hb⟩; have HB1 := Lib.hid (HB.out.trans (hb.mono HB.out.size)); clear hb z0 z1 z2 z3))
          go_ret
          exact ⟨rfl, HB1.out⟩
        · have hl1 : ¬ (60000 : Int) < (y.size : Int) := by omega
          have hl2 : decide ((60000 : Int) < (y.size : Int)) = false := decide_eq_false hl1
          have E : Hid (R = y) := by show _ = _; rw [HR.out, sp_false (by rw [TF.out, ho, HL.out]; simp; omega), HY.out]
          rw [E.out]
          clear HR E hl TF HL HY
          go_wp2_with (first | (go_at_call 29; refine (CB.out _).mono ?_; rintro e w1 ⟨rfl, hw⟩; obtain rfl := hw.symm; rw [ho]) | (go_at_call 30; refine (CS.out _).mono ?_; rintro e w1 ⟨rfl, hb⟩; have HB := Lib.hid (HB.out.trans (hb.mono HB.out.size)); have BT := Lib.hid (blk_below BT.out hb); clear hb z0 z1 z2 z3; have z0 := (blk_cell BT.out 0).trans rfl; have z1 := (blk_cell BT.out 1).trans rfl; have z2 := (blk_cell BT.out 2).trans rfl; have z3 := (blk_cell BT.out 3).trans rfl))
          go_ret
          exact ⟨rfl, HB.out⟩
  by_cases h6 : k = 6
  · have CB := Lib.hid (specBytes x hx)
    clear h7
    subst h6
    by_cases h1 : x.size = 1
    · have h1i : ((x.size : Int) == 1) = true := by rw [h1]; rfl
      have h1j : ((x.size : Int) != 1) = false := by rw [h1]; rfl
      cases ho : okB x.data.toList
      · have E : Hid (R = ⟨#[]⟩) := by show _ = _; rw [HR.out, sp_true]; rw [tf_chr (by omega) rfl, ho]; simp
        rw [E.out]
        clear HR E h1
        go_wp2_with (go_at_call 29; refine (CB.out _).mono ?_; rintro e w1 ⟨rfl, hw⟩; obtain rfl := hw.symm; rw [ho])
        go_ret
        exact ⟨rfl, HB.out⟩
      · have CS := Lib.hid (specL2Spell 6 x l c hx)
        have E : Hid (R = spR 6 x) := by show _ = _; rw [HR.out, sp_false]; rw [tf_chr (by omega) rfl, ho, h1]; rfl
        rw [E.out]
        clear HR E h1
        go_wp2_with (first | (go_at_call 29; refine (CB.out _).mono ?_; rintro e w1 ⟨rfl, hw⟩; obtain rfl := hw.symm; rw [ho]) | (go_at_call 30; refine (CS.out _).mono ?_; rintro e w1 ⟨rfl, hb⟩; have HB1 := Lib.hid (HB.out.trans (hb.mono HB.out.size)); clear hb z0 z1 z2 z3))
        go_ret
        exact ⟨rfl, HB1.out⟩
    · have h1i : ((x.size : Int) == 1) = false := by rw [beq_eq_false_iff_ne]; omega
      have h1j : ((x.size : Int) != 1) = true := by rw [bne_iff_ne]; omega
      have E : Hid (R = ⟨#[]⟩) := by
        show _ = _
        rw [HR.out, sp_true]
        by_cases hb : 60000 < x.size
        · exact tf_big hb
        · rw [tf_chr hb rfl]; simp [h1]
      rw [E.out]
      clear HR E h1
      go_wp2
      go_ret
      exact ⟨rfl, HB.out⟩
  have CT := Lib.hid (specTokenFault k x l c hx)
  have HS := Lib.hid (spR_else (x := x) h7 h6)
  cases ht : tfR k x
  · have E : Hid (R = x) := by show _ = _; rw [HR.out, sp_false ht, HS.out]
    rw [E.out]
    clear HR E HS
    go_wp2_with (go_at_call 13; refine (CT.out _).mono ?_; rintro e w1 ⟨rfl, hb⟩; have HB := Lib.hid (HB.out.trans (hb.mono HB.out.size)); have BT := Lib.hid (blk_below BT.out hb); clear hb z0 z1 z2 z3; have z0 := (blk_cell BT.out 0).trans rfl; have z1 := (blk_cell BT.out 1).trans rfl; rw [ht])
    go_ret
    exact ⟨rfl, HB.out⟩
  · have E : Hid (R = ⟨#[]⟩) := by show _ = _; rw [HR.out, sp_true ht]
    rw [E.out]
    clear HR E HS
    go_wp2_with (go_at_call 13; refine (CT.out _).mono ?_; rintro e w1 ⟨rfl, hb⟩; have HB := Lib.hid (HB.out.trans (hb.mono HB.out.size)); clear hb z0 z1 z2 z3; rw [ht])
    go_ret
    exact ⟨rfl, HB.out⟩

end Go.Proofs.YtifmnijdaboenaaDoor
