-- PRINTED BY print.sh 35421559b90ae4d0a3588c463048766b98c2df88dd9212a6774a882060cdf62d: not written by this session
import Derived.Test.YtgogfloppnhceaaPFnExactPrimCountx0
namespace Go.Proofs.Ytgogfloppnhceaa.PFnExactPrimCount
open Go.RowKit Go.Proofs.YtgogfloppnhceaaW.PrintWords Go.Proofs.YtgogfloppnhceaaW.PrintLast Go.Proofs.YtgogfloppnhceaaW.PrintMore
attribute [local go_sem] max2_int min2_int max_two min_two max_three min_three max_four min_four   -- for this text's walks alone
set_option linter.unusedVariables false
set_option linter.unusedSimpArgs false

/-! ### spec_PrimCount: function 14 -/
def spec_PrimCount.j0 : Nat → ByteArray → Bool → Option (Int)
  | 0, _, _ => none
  | k + 1, x3, x4 => if x4 = true then (some 2) else (if x3.toList = ([112, 114, 105, 109, 79, 114, 100] : List UInt8) then (some 1) else (if x3.toList = ([112, 114, 105, 109, 67, 104, 114] : List UInt8) then (some 1) else (if x3.toList = ([112, 114, 105, 109, 83, 104, 111, 119] : List UInt8) then (some 1) else (if x3.toList = ([112, 114, 105, 109, 69, 114, 114, 111, 114] : List UInt8) then (some 1) else (some 0)))))
def spec_PrimCount.f (k : Nat) (a0 : ByteArray) : Option (Int) := if a0.toList = ([112, 114, 105, 109, 65, 100, 100] : List UInt8) then (spec_PrimCount.j0 k a0 (a0.toList == ([112, 114, 105, 109, 65, 100, 100] : List UInt8))) else (if a0.toList = ([112, 114, 105, 109, 83, 117, 98] : List UInt8) then (spec_PrimCount.j0 k a0 (a0.toList == ([112, 114, 105, 109, 83, 117, 98] : List UInt8))) else (if a0.toList = ([112, 114, 105, 109, 77, 117, 108] : List UInt8) then (spec_PrimCount.j0 k a0 (a0.toList == ([112, 114, 105, 109, 77, 117, 108] : List UInt8))) else (if a0.toList = ([112, 114, 105, 109, 68, 105, 118] : List UInt8) then (spec_PrimCount.j0 k a0 (a0.toList == ([112, 114, 105, 109, 68, 105, 118] : List UInt8))) else (if a0.toList = ([112, 114, 105, 109, 77, 111, 100] : List UInt8) then (spec_PrimCount.j0 k a0 (a0.toList == ([112, 114, 105, 109, 77, 111, 100] : List UInt8))) else (if a0.toList = ([112, 114, 105, 109, 69, 113] : List UInt8) then (spec_PrimCount.j0 k a0 (a0.toList == ([112, 114, 105, 109, 69, 113] : List UInt8))) else (if a0.toList = ([112, 114, 105, 109, 76, 101, 115, 115] : List UInt8) then (spec_PrimCount.j0 k a0 (a0.toList == ([112, 114, 105, 109, 76, 101, 115, 115] : List UInt8))) else (spec_PrimCount.j0 k a0 (a0.toList == ([112, 114, 105, 109, 83, 101, 113] : List UInt8)))))))))
theorem spec_PrimCount.mono_l : ∀ k, (∀ y0 y1, LeO (spec_PrimCount.j0 k y0 y1) (spec_PrimCount.j0 (k + 1) y0 y1))
  | 0 => fun _ _ r h => by simp [spec_PrimCount.j0] at h
  | k + 1 => by
    have ih0 := spec_PrimCount.mono_l k
    · intro y0 y1
      unfold spec_PrimCount.j0
      repeat' first
      | (with_reducible exact ih0 _ _)
      | (with_reducible exact LeO.refl _)
      | (with_reducible exact LeO.none _)
      | (with_reducible refine LeO.ite ?_ ?_)
      | (with_reducible refine LeO.bind ?_ (fun _ => ?_))
      | exact ih0 _ _
      | exact LeO.none _
      | refine LeO.ite ?_ ?_
      | refine LeO.bind ?_ (fun _ => ?_)
theorem spec_PrimCount.mono : ∀ a0 k, LeO (spec_PrimCount.f k a0) (spec_PrimCount.f (k + 1) a0) := by
  intro a0 k
  have ih0 := spec_PrimCount.mono_l k
  unfold spec_PrimCount.f
  repeat' first
      | (with_reducible exact ih0 _ _)
      | (with_reducible exact LeO.refl _)
      | (with_reducible exact LeO.none _)
      | (with_reducible refine LeO.ite ?_ ?_)
      | (with_reducible refine LeO.bind ?_ (fun _ => ?_))
      | exact ih0 _ _
      | exact LeO.none _
      | refine LeO.ite ?_ ?_
      | refine LeO.bind ?_ (fun _ => ?_)
set_option maxHeartbeats 8000000 in
set_option maxRecDepth 100000 in
theorem spec_PrimCount.calls (k : Nat) (a0 : ByteArray) (r : Int) (w : World) (h : spec_PrimCount.f k a0 = some r) :
    Calls Try.prog 14 #[.string a0] w fun e w' => e = .returned (.int .i64 r) ∧ Drawn0 w w' := by
  have H : (if a0.toList = ([112, 114, 105, 109, 65, 100, 100] : List UInt8) then (spec_PrimCount.j0 k a0 (a0.toList == ([112, 114, 105, 109, 65, 100, 100] : List UInt8))) else (if a0.toList = ([112, 114, 105, 109, 83, 117, 98] : List UInt8) then (spec_PrimCount.j0 k a0 (a0.toList == ([112, 114, 105, 109, 83, 117, 98] : List UInt8))) else (if a0.toList = ([112, 114, 105, 109, 77, 117, 108] : List UInt8) then (spec_PrimCount.j0 k a0 (a0.toList == ([112, 114, 105, 109, 77, 117, 108] : List UInt8))) else (if a0.toList = ([112, 114, 105, 109, 68, 105, 118] : List UInt8) then (spec_PrimCount.j0 k a0 (a0.toList == ([112, 114, 105, 109, 68, 105, 118] : List UInt8))) else (if a0.toList = ([112, 114, 105, 109, 77, 111, 100] : List UInt8) then (spec_PrimCount.j0 k a0 (a0.toList == ([112, 114, 105, 109, 77, 111, 100] : List UInt8))) else (if a0.toList = ([112, 114, 105, 109, 69, 113] : List UInt8) then (spec_PrimCount.j0 k a0 (a0.toList == ([112, 114, 105, 109, 69, 113] : List UInt8))) else (if a0.toList = ([112, 114, 105, 109, 76, 101, 115, 115] : List UInt8) then (spec_PrimCount.j0 k a0 (a0.toList == ([112, 114, 105, 109, 76, 101, 115, 115] : List UInt8))) else (spec_PrimCount.j0 k a0 (a0.toList == ([112, 114, 105, 109, 83, 101, 113] : List UInt8)))))))))) = some r := h
  clear h
  have HC2 := Aside0.mk H
  clear H
  go_enter Try.func14, Try.ntmps14
  go_upto_if 4 with (fail)
  go_cut [4] (fun v4 wc => ∃ (kq : Nat) (x4_1 : Bool), v4 = .bool x4_1 ∧ Aside0 (spec_PrimCount.j0 kq a0 x4_1 = some r) ∧ Aside0 (kq ≤ k) ∧ Drawn0 w wc)
  case first =>
    have H := HC2.out
    clear HC2
    by_cases c3 : a0.toList = ([112, 114, 105, 109, 65, 100, 100] : List UInt8)
    · rw [if_pos c3] at H
      have c3b0 : (a0.toList == ([112, 114, 105, 109, 65, 100, 100] : List UInt8)) = true := beq_iff_eq.mpr c3
      have c3b1 : (a0.toList != ([112, 114, 105, 109, 65, 100, 100] : List UInt8)) = false := bne_eq_false_iff_eq.mpr c3
      clear c3
      (first | rw [c3b0] | (simp only [i64_w, i32_w]; rw [c3b0]) | skip)
      have H' := Aside0.mk H
      clear H
      go_wp2
      go_meet
      case rel => exact ⟨_, ((a0.toList == ([112, 114, 105, 109, 65, 100, 100] : List UInt8))), (by first | rfl | (simp; done) | (simp [*]; done)), H', ⟨by first | omega | exact Nat.le_refl _⟩, by repeat (first | exact Drawn0.refl _ | apply Drawn0.step)⟩
    · rw [if_neg c3] at H
      have c3b0 : (a0.toList == ([112, 114, 105, 109, 65, 100, 100] : List UInt8)) = false := beq_eq_false_iff_ne.mpr c3
      have c3b1 : (a0.toList != ([112, 114, 105, 109, 65, 100, 100] : List UInt8)) = true := bne_iff_ne.mpr c3
      (first | rw [c3b0] | (simp only [i64_w, i32_w]; rw [c3b0]) | skip)
      by_cases c4 : a0.toList = ([112, 114, 105, 109, 83, 117, 98] : List UInt8)
      · rw [if_pos c4] at H
        have c4b0 : (a0.toList == ([112, 114, 105, 109, 83, 117, 98] : List UInt8)) = true := beq_iff_eq.mpr c4
        have c4b1 : (a0.toList != ([112, 114, 105, 109, 83, 117, 98] : List UInt8)) = false := bne_eq_false_iff_eq.mpr c4
        clear c4
        have H' := Aside0.mk H
        clear H
        go_wp2
        go_meet
        case rel => exact ⟨_, ((a0.toList == ([112, 114, 105, 109, 83, 117, 98] : List UInt8))), (by first | rfl | (simp; done) | (simp [*]; done)), H', ⟨by first | omega | exact Nat.le_refl _⟩, by repeat (first | exact Drawn0.refl _ | apply Drawn0.step)⟩
      · rw [if_neg c4] at H
        have c4b0 : (a0.toList == ([112, 114, 105, 109, 83, 117, 98] : List UInt8)) = false := beq_eq_false_iff_ne.mpr c4
        have c4b1 : (a0.toList != ([112, 114, 105, 109, 83, 117, 98] : List UInt8)) = true := bne_iff_ne.mpr c4
        by_cases c5 : a0.toList = ([112, 114, 105, 109, 77, 117, 108] : List UInt8)
        · rw [if_pos c5] at H
          have c5b0 : (a0.toList == ([112, 114, 105, 109, 77, 117, 108] : List UInt8)) = true := beq_iff_eq.mpr c5
          have c5b1 : (a0.toList != ([112, 114, 105, 109, 77, 117, 108] : List UInt8)) = false := bne_eq_false_iff_eq.mpr c5
          clear c5
          have H' := Aside0.mk H
          clear H
          go_wp2
          go_meet
          case rel => exact ⟨_, ((a0.toList == ([112, 114, 105, 109, 77, 117, 108] : List UInt8))), (by first | rfl | (simp; done) | (simp [*]; done)), H', ⟨by first | omega | exact Nat.le_refl _⟩, by repeat (first | exact Drawn0.refl _ | apply Drawn0.step)⟩
        · rw [if_neg c5] at H
          have c5b0 : (a0.toList == ([112, 114, 105, 109, 77, 117, 108] : List UInt8)) = false := beq_eq_false_iff_ne.mpr c5
          have c5b1 : (a0.toList != ([112, 114, 105, 109, 77, 117, 108] : List UInt8)) = true := bne_iff_ne.mpr c5
          by_cases c6 : a0.toList = ([112, 114, 105, 109, 68, 105, 118] : List UInt8)
          · rw [if_pos c6] at H
            have c6b0 : (a0.toList == ([112, 114, 105, 109, 68, 105, 118] : List UInt8)) = true := beq_iff_eq.mpr c6
            have c6b1 : (a0.toList != ([112, 114, 105, 109, 68, 105, 118] : List UInt8)) = false := bne_eq_false_iff_eq.mpr c6
            clear c6
            have H' := Aside0.mk H
            clear H
            go_wp2
            go_meet
            case rel => exact ⟨_, ((a0.toList == ([112, 114, 105, 109, 68, 105, 118] : List UInt8))), (by first | rfl | (simp; done) | (simp [*]; done)), H', ⟨by first | omega | exact Nat.le_refl _⟩, by repeat (first | exact Drawn0.refl _ | apply Drawn0.step)⟩
          · rw [if_neg c6] at H
            have c6b0 : (a0.toList == ([112, 114, 105, 109, 68, 105, 118] : List UInt8)) = false := beq_eq_false_iff_ne.mpr c6
            have c6b1 : (a0.toList != ([112, 114, 105, 109, 68, 105, 118] : List UInt8)) = true := bne_iff_ne.mpr c6
            by_cases c7 : a0.toList = ([112, 114, 105, 109, 77, 111, 100] : List UInt8)
            · rw [if_pos c7] at H
              have c7b0 : (a0.toList == ([112, 114, 105, 109, 77, 111, 100] : List UInt8)) = true := beq_iff_eq.mpr c7
              have c7b1 : (a0.toList != ([112, 114, 105, 109, 77, 111, 100] : List UInt8)) = false := bne_eq_false_iff_eq.mpr c7
              clear c7
              have H' := Aside0.mk H
              clear H
              go_wp2
              go_meet
              case rel => exact ⟨_, ((a0.toList == ([112, 114, 105, 109, 77, 111, 100] : List UInt8))), (by first | rfl | (simp; done) | (simp [*]; done)), H', ⟨by first | omega | exact Nat.le_refl _⟩, by repeat (first | exact Drawn0.refl _ | apply Drawn0.step)⟩
            · rw [if_neg c7] at H
              have c7b0 : (a0.toList == ([112, 114, 105, 109, 77, 111, 100] : List UInt8)) = false := beq_eq_false_iff_ne.mpr c7
              have c7b1 : (a0.toList != ([112, 114, 105, 109, 77, 111, 100] : List UInt8)) = true := bne_iff_ne.mpr c7
              by_cases c8 : a0.toList = ([112, 114, 105, 109, 69, 113] : List UInt8)
              · rw [if_pos c8] at H
                have c8b0 : (a0.toList == ([112, 114, 105, 109, 69, 113] : List UInt8)) = true := beq_iff_eq.mpr c8
                have c8b1 : (a0.toList != ([112, 114, 105, 109, 69, 113] : List UInt8)) = false := bne_eq_false_iff_eq.mpr c8
                clear c8
                have H' := Aside0.mk H
                clear H
                go_wp2
                go_meet
                case rel => exact ⟨_, ((a0.toList == ([112, 114, 105, 109, 69, 113] : List UInt8))), (by first | rfl | (simp; done) | (simp [*]; done)), H', ⟨by first | omega | exact Nat.le_refl _⟩, by repeat (first | exact Drawn0.refl _ | apply Drawn0.step)⟩
              · rw [if_neg c8] at H
                have c8b0 : (a0.toList == ([112, 114, 105, 109, 69, 113] : List UInt8)) = false := beq_eq_false_iff_ne.mpr c8
                have c8b1 : (a0.toList != ([112, 114, 105, 109, 69, 113] : List UInt8)) = true := bne_iff_ne.mpr c8
                by_cases c9 : a0.toList = ([112, 114, 105, 109, 76, 101, 115, 115] : List UInt8)
                · rw [if_pos c9] at H
                  have c9b0 : (a0.toList == ([112, 114, 105, 109, 76, 101, 115, 115] : List UInt8)) = true := beq_iff_eq.mpr c9
                  have c9b1 : (a0.toList != ([112, 114, 105, 109, 76, 101, 115, 115] : List UInt8)) = false := bne_eq_false_iff_eq.mpr c9
                  clear c9
                  have H' := Aside0.mk H
                  clear H
                  go_wp2
                  go_meet
                  case rel => exact ⟨_, ((a0.toList == ([112, 114, 105, 109, 76, 101, 115, 115] : List UInt8))), (by first | rfl | (simp; done) | (simp [*]; done)), H', ⟨by first | omega | exact Nat.le_refl _⟩, by repeat (first | exact Drawn0.refl _ | apply Drawn0.step)⟩
                · rw [if_neg c9] at H
                  have c9b0 : (a0.toList == ([112, 114, 105, 109, 76, 101, 115, 115] : List UInt8)) = false := beq_eq_false_iff_ne.mpr c9
                  have c9b1 : (a0.toList != ([112, 114, 105, 109, 76, 101, 115, 115] : List UInt8)) = true := bne_iff_ne.mpr c9
                  have H' := Aside0.mk H
                  clear H
                  go_wp2
                  go_meet
                  case rel => exact ⟨_, ((a0.toList == ([112, 114, 105, 109, 83, 101, 113] : List UInt8))), (by first | rfl | (simp; done) | (simp [*]; done)), H', ⟨by first | omega | exact Nat.le_refl _⟩, by repeat (first | exact Drawn0.refl _ | apply Drawn0.step)⟩
  case rest =>
    clear HC2
    try clear c1
    try clear p2
    try clear c3
    try clear c3b0
    try clear c3b1
    try clear c4
    try clear c4b0
    try clear c4b1
    try clear c5
    try clear c5b0
    try clear c5b1
    try clear c6
    try clear c6b0
    try clear c6b1
    try clear c7
    try clear c7b0
    try clear c7b1
    try clear c8
    try clear c8b0
    try clear c8b1
    try clear c9
    try clear c9b0
    try clear c9b1
    obtain ⟨kq, x4_1, rfl, HA, HJ1, ⟨mc1, rfl⟩⟩ := hcut
    cases kq with
    | zero => exact absurd HA.out (by simp [spec_PrimCount.j0])
    | succ kj1 =>
      have H := HA.out
      clear HA
      simp only [spec_PrimCount.j0] at H
      by_cases c10 : x4_1 = true
      · subst c10
        have H1 : (some 2) = some r := by rw [if_pos rfl] at H; exact H
        clear H
        have H := H1
        clear H1
        obtain rfl := Option.some.inj H
        go_wp2
        go_ret
        exact ⟨by first | rfl | (simp; done) | (simp [*]; done), by repeat (first | exact Drawn0.refl _ | apply Drawn0.step)⟩
      · replace c10 := Bool.eq_false_iff.mpr c10
        subst c10
        have H1 : (if a0.toList = ([112, 114, 105, 109, 79, 114, 100] : List UInt8) then (some 1) else (if a0.toList = ([112, 114, 105, 109, 67, 104, 114] : List UInt8) then (some 1) else (if a0.toList = ([112, 114, 105, 109, 83, 104, 111, 119] : List UInt8) then (some 1) else (if a0.toList = ([112, 114, 105, 109, 69, 114, 114, 111, 114] : List UInt8) then (some 1) else (some 0))))) = some r := by rw [if_neg (show ¬ (false = true) by decide)] at H; exact H
        clear H
        have H := H1
        clear H1
        by_cases c11 : a0.toList = ([112, 114, 105, 109, 79, 114, 100] : List UInt8)
        · rw [if_pos c11] at H
          have c11b0 : (a0.toList == ([112, 114, 105, 109, 79, 114, 100] : List UInt8)) = true := beq_iff_eq.mpr c11
          have c11b1 : (a0.toList != ([112, 114, 105, 109, 79, 114, 100] : List UInt8)) = false := bne_eq_false_iff_eq.mpr c11
          clear c11
          obtain rfl := Option.some.inj H
          go_wp2
          go_ret
          exact ⟨by first | rfl | (simp; done) | (simp [*]; done), by repeat (first | exact Drawn0.refl _ | apply Drawn0.step)⟩
        · rw [if_neg c11] at H
          have c11b0 : (a0.toList == ([112, 114, 105, 109, 79, 114, 100] : List UInt8)) = false := beq_eq_false_iff_ne.mpr c11
          have c11b1 : (a0.toList != ([112, 114, 105, 109, 79, 114, 100] : List UInt8)) = true := bne_iff_ne.mpr c11
          by_cases c12 : a0.toList = ([112, 114, 105, 109, 67, 104, 114] : List UInt8)
          · rw [if_pos c12] at H
            have c12b0 : (a0.toList == ([112, 114, 105, 109, 67, 104, 114] : List UInt8)) = true := beq_iff_eq.mpr c12
            have c12b1 : (a0.toList != ([112, 114, 105, 109, 67, 104, 114] : List UInt8)) = false := bne_eq_false_iff_eq.mpr c12
            clear c12
            obtain rfl := Option.some.inj H
            go_wp2
            go_ret
            exact ⟨by first | rfl | (simp; done) | (simp [*]; done), by repeat (first | exact Drawn0.refl _ | apply Drawn0.step)⟩
          · rw [if_neg c12] at H
            have c12b0 : (a0.toList == ([112, 114, 105, 109, 67, 104, 114] : List UInt8)) = false := beq_eq_false_iff_ne.mpr c12
            have c12b1 : (a0.toList != ([112, 114, 105, 109, 67, 104, 114] : List UInt8)) = true := bne_iff_ne.mpr c12
            by_cases c13 : a0.toList = ([112, 114, 105, 109, 83, 104, 111, 119] : List UInt8)
            · rw [if_pos c13] at H
              have c13b0 : (a0.toList == ([112, 114, 105, 109, 83, 104, 111, 119] : List UInt8)) = true := beq_iff_eq.mpr c13
              have c13b1 : (a0.toList != ([112, 114, 105, 109, 83, 104, 111, 119] : List UInt8)) = false := bne_eq_false_iff_eq.mpr c13
              clear c13
              obtain rfl := Option.some.inj H
              go_wp2
              go_ret
              exact ⟨by first | rfl | (simp; done) | (simp [*]; done), by repeat (first | exact Drawn0.refl _ | apply Drawn0.step)⟩
            · rw [if_neg c13] at H
              have c13b0 : (a0.toList == ([112, 114, 105, 109, 83, 104, 111, 119] : List UInt8)) = false := beq_eq_false_iff_ne.mpr c13
              have c13b1 : (a0.toList != ([112, 114, 105, 109, 83, 104, 111, 119] : List UInt8)) = true := bne_iff_ne.mpr c13
              by_cases c14 : a0.toList = ([112, 114, 105, 109, 69, 114, 114, 111, 114] : List UInt8)
              · rw [if_pos c14] at H
                have c14b0 : (a0.toList == ([112, 114, 105, 109, 69, 114, 114, 111, 114] : List UInt8)) = true := beq_iff_eq.mpr c14
                have c14b1 : (a0.toList != ([112, 114, 105, 109, 69, 114, 114, 111, 114] : List UInt8)) = false := bne_eq_false_iff_eq.mpr c14
                clear c14
                obtain rfl := Option.some.inj H
                go_wp2
                go_ret
                exact ⟨by first | rfl | (simp; done) | (simp [*]; done), by repeat (first | exact Drawn0.refl _ | apply Drawn0.step)⟩
              · rw [if_neg c14] at H
                have c14b0 : (a0.toList == ([112, 114, 105, 109, 69, 114, 114, 111, 114] : List UInt8)) = false := beq_eq_false_iff_ne.mpr c14
                have c14b1 : (a0.toList != ([112, 114, 105, 109, 69, 114, 114, 111, 114] : List UInt8)) = true := bne_iff_ne.mpr c14
                obtain rfl := Option.some.inj H
                go_wp2
                go_ret
                exact ⟨by first | rfl | (simp; done) | (simp [*]; done), by repeat (first | exact Drawn0.refl _ | apply Drawn0.step)⟩

/-! ### impl_PrimCount: function 15 -/
def impl_PrimCount.j0 : Nat → ByteArray → Bool → Option (Int)
  | 0, _, _ => none
  | k + 1, x3, x4 => if x4 = true then (some 2) else (if x3.toList = ([112, 114, 105, 109, 79, 114, 100] : List UInt8) then (some 1) else (if x3.toList = ([112, 114, 105, 109, 67, 104, 114] : List UInt8) then (some 1) else (if x3.toList = ([112, 114, 105, 109, 83, 104, 111, 119] : List UInt8) then (some 1) else (if x3.toList = ([112, 114, 105, 109, 69, 114, 114, 111, 114] : List UInt8) then (some 1) else (some 0)))))
def impl_PrimCount.f (k : Nat) (a0 : ByteArray) : Option (Int) := if a0.toList = ([112, 114, 105, 109, 65, 100, 100] : List UInt8) then (impl_PrimCount.j0 k a0 (a0.toList == ([112, 114, 105, 109, 65, 100, 100] : List UInt8))) else (if a0.toList = ([112, 114, 105, 109, 83, 117, 98] : List UInt8) then (impl_PrimCount.j0 k a0 (a0.toList == ([112, 114, 105, 109, 83, 117, 98] : List UInt8))) else (if a0.toList = ([112, 114, 105, 109, 77, 117, 108] : List UInt8) then (impl_PrimCount.j0 k a0 (a0.toList == ([112, 114, 105, 109, 77, 117, 108] : List UInt8))) else (if a0.toList = ([112, 114, 105, 109, 68, 105, 118] : List UInt8) then (impl_PrimCount.j0 k a0 (a0.toList == ([112, 114, 105, 109, 68, 105, 118] : List UInt8))) else (if a0.toList = ([112, 114, 105, 109, 77, 111, 100] : List UInt8) then (impl_PrimCount.j0 k a0 (a0.toList == ([112, 114, 105, 109, 77, 111, 100] : List UInt8))) else (if a0.toList = ([112, 114, 105, 109, 69, 113] : List UInt8) then (impl_PrimCount.j0 k a0 (a0.toList == ([112, 114, 105, 109, 69, 113] : List UInt8))) else (if a0.toList = ([112, 114, 105, 109, 76, 101, 115, 115] : List UInt8) then (impl_PrimCount.j0 k a0 (a0.toList == ([112, 114, 105, 109, 76, 101, 115, 115] : List UInt8))) else (impl_PrimCount.j0 k a0 (a0.toList == ([112, 114, 105, 109, 83, 101, 113] : List UInt8)))))))))
theorem impl_PrimCount.mono_l : ∀ k, (∀ y0 y1, LeO (impl_PrimCount.j0 k y0 y1) (impl_PrimCount.j0 (k + 1) y0 y1))
  | 0 => fun _ _ r h => by simp [impl_PrimCount.j0] at h
  | k + 1 => by
    have ih0 := impl_PrimCount.mono_l k
    · intro y0 y1
      unfold impl_PrimCount.j0
      repeat' first
      | (with_reducible exact ih0 _ _)
      | (with_reducible exact LeO.refl _)
      | (with_reducible exact LeO.none _)
      | (with_reducible refine LeO.ite ?_ ?_)
      | (with_reducible refine LeO.bind ?_ (fun _ => ?_))
      | exact ih0 _ _
      | exact LeO.none _
      | refine LeO.ite ?_ ?_
      | refine LeO.bind ?_ (fun _ => ?_)
theorem impl_PrimCount.mono : ∀ a0 k, LeO (impl_PrimCount.f k a0) (impl_PrimCount.f (k + 1) a0) := by
  intro a0 k
  have ih0 := impl_PrimCount.mono_l k
  unfold impl_PrimCount.f
  repeat' first
      | (with_reducible exact ih0 _ _)
      | (with_reducible exact LeO.refl _)
      | (with_reducible exact LeO.none _)
      | (with_reducible refine LeO.ite ?_ ?_)
      | (with_reducible refine LeO.bind ?_ (fun _ => ?_))
      | exact ih0 _ _
      | exact LeO.none _
      | refine LeO.ite ?_ ?_
      | refine LeO.bind ?_ (fun _ => ?_)
set_option maxHeartbeats 8000000 in
set_option maxRecDepth 100000 in
theorem impl_PrimCount.calls (k : Nat) (a0 : ByteArray) (r : Int) (w : World) (h : impl_PrimCount.f k a0 = some r) :
    Calls Try.prog 15 #[.string a0] w fun e w' => e = .returned (.int .i64 r) ∧ Drawn0 w w' := by
  have H : (if a0.toList = ([112, 114, 105, 109, 65, 100, 100] : List UInt8) then (impl_PrimCount.j0 k a0 (a0.toList == ([112, 114, 105, 109, 65, 100, 100] : List UInt8))) else (if a0.toList = ([112, 114, 105, 109, 83, 117, 98] : List UInt8) then (impl_PrimCount.j0 k a0 (a0.toList == ([112, 114, 105, 109, 83, 117, 98] : List UInt8))) else (if a0.toList = ([112, 114, 105, 109, 77, 117, 108] : List UInt8) then (impl_PrimCount.j0 k a0 (a0.toList == ([112, 114, 105, 109, 77, 117, 108] : List UInt8))) else (if a0.toList = ([112, 114, 105, 109, 68, 105, 118] : List UInt8) then (impl_PrimCount.j0 k a0 (a0.toList == ([112, 114, 105, 109, 68, 105, 118] : List UInt8))) else (if a0.toList = ([112, 114, 105, 109, 77, 111, 100] : List UInt8) then (impl_PrimCount.j0 k a0 (a0.toList == ([112, 114, 105, 109, 77, 111, 100] : List UInt8))) else (if a0.toList = ([112, 114, 105, 109, 69, 113] : List UInt8) then (impl_PrimCount.j0 k a0 (a0.toList == ([112, 114, 105, 109, 69, 113] : List UInt8))) else (if a0.toList = ([112, 114, 105, 109, 76, 101, 115, 115] : List UInt8) then (impl_PrimCount.j0 k a0 (a0.toList == ([112, 114, 105, 109, 76, 101, 115, 115] : List UInt8))) else (impl_PrimCount.j0 k a0 (a0.toList == ([112, 114, 105, 109, 83, 101, 113] : List UInt8)))))))))) = some r := h
  clear h
  have HC2 := Aside0.mk H
  clear H
  go_enter Try.func15, Try.ntmps15
  go_upto_if 4 with (fail)
  go_cut [4] (fun v4 wc => ∃ (kq : Nat) (x4_1 : Bool), v4 = .bool x4_1 ∧ Aside0 (impl_PrimCount.j0 kq a0 x4_1 = some r) ∧ Aside0 (kq ≤ k) ∧ Drawn0 w wc)
  case first =>
    have H := HC2.out
    clear HC2
    by_cases c3 : a0.toList = ([112, 114, 105, 109, 65, 100, 100] : List UInt8)
    · rw [if_pos c3] at H
      have c3b0 : (a0.toList == ([112, 114, 105, 109, 65, 100, 100] : List UInt8)) = true := beq_iff_eq.mpr c3
      have c3b1 : (a0.toList != ([112, 114, 105, 109, 65, 100, 100] : List UInt8)) = false := bne_eq_false_iff_eq.mpr c3
      clear c3
      (first | rw [c3b0] | (simp only [i64_w, i32_w]; rw [c3b0]) | skip)
      have H' := Aside0.mk H
      clear H
      go_wp2
      go_meet
      case rel => exact ⟨_, ((a0.toList == ([112, 114, 105, 109, 65, 100, 100] : List UInt8))), (by first | rfl | (simp; done) | (simp [*]; done)), H', ⟨by first | omega | exact Nat.le_refl _⟩, by repeat (first | exact Drawn0.refl _ | apply Drawn0.step)⟩
    · rw [if_neg c3] at H
      have c3b0 : (a0.toList == ([112, 114, 105, 109, 65, 100, 100] : List UInt8)) = false := beq_eq_false_iff_ne.mpr c3
      have c3b1 : (a0.toList != ([112, 114, 105, 109, 65, 100, 100] : List UInt8)) = true := bne_iff_ne.mpr c3
      (first | rw [c3b0] | (simp only [i64_w, i32_w]; rw [c3b0]) | skip)
      by_cases c4 : a0.toList = ([112, 114, 105, 109, 83, 117, 98] : List UInt8)
      · rw [if_pos c4] at H
        have c4b0 : (a0.toList == ([112, 114, 105, 109, 83, 117, 98] : List UInt8)) = true := beq_iff_eq.mpr c4
        have c4b1 : (a0.toList != ([112, 114, 105, 109, 83, 117, 98] : List UInt8)) = false := bne_eq_false_iff_eq.mpr c4
        clear c4
        have H' := Aside0.mk H
        clear H
        go_wp2
        go_meet
        case rel => exact ⟨_, ((a0.toList == ([112, 114, 105, 109, 83, 117, 98] : List UInt8))), (by first | rfl | (simp; done) | (simp [*]; done)), H', ⟨by first | omega | exact Nat.le_refl _⟩, by repeat (first | exact Drawn0.refl _ | apply Drawn0.step)⟩
      · rw [if_neg c4] at H
        have c4b0 : (a0.toList == ([112, 114, 105, 109, 83, 117, 98] : List UInt8)) = false := beq_eq_false_iff_ne.mpr c4
        have c4b1 : (a0.toList != ([112, 114, 105, 109, 83, 117, 98] : List UInt8)) = true := bne_iff_ne.mpr c4
        by_cases c5 : a0.toList = ([112, 114, 105, 109, 77, 117, 108] : List UInt8)
        · rw [if_pos c5] at H
          have c5b0 : (a0.toList == ([112, 114, 105, 109, 77, 117, 108] : List UInt8)) = true := beq_iff_eq.mpr c5
          have c5b1 : (a0.toList != ([112, 114, 105, 109, 77, 117, 108] : List UInt8)) = false := bne_eq_false_iff_eq.mpr c5
          clear c5
          have H' := Aside0.mk H
          clear H
          go_wp2
          go_meet
          case rel => exact ⟨_, ((a0.toList == ([112, 114, 105, 109, 77, 117, 108] : List UInt8))), (by first | rfl | (simp; done) | (simp [*]; done)), H', ⟨by first | omega | exact Nat.le_refl _⟩, by repeat (first | exact Drawn0.refl _ | apply Drawn0.step)⟩
        · rw [if_neg c5] at H
          have c5b0 : (a0.toList == ([112, 114, 105, 109, 77, 117, 108] : List UInt8)) = false := beq_eq_false_iff_ne.mpr c5
          have c5b1 : (a0.toList != ([112, 114, 105, 109, 77, 117, 108] : List UInt8)) = true := bne_iff_ne.mpr c5
          by_cases c6 : a0.toList = ([112, 114, 105, 109, 68, 105, 118] : List UInt8)
          · rw [if_pos c6] at H
            have c6b0 : (a0.toList == ([112, 114, 105, 109, 68, 105, 118] : List UInt8)) = true := beq_iff_eq.mpr c6
            have c6b1 : (a0.toList != ([112, 114, 105, 109, 68, 105, 118] : List UInt8)) = false := bne_eq_false_iff_eq.mpr c6
            clear c6
            have H' := Aside0.mk H
            clear H
            go_wp2
            go_meet
            case rel => exact ⟨_, ((a0.toList == ([112, 114, 105, 109, 68, 105, 118] : List UInt8))), (by first | rfl | (simp; done) | (simp [*]; done)), H', ⟨by first | omega | exact Nat.le_refl _⟩, by repeat (first | exact Drawn0.refl _ | apply Drawn0.step)⟩
          · rw [if_neg c6] at H
            have c6b0 : (a0.toList == ([112, 114, 105, 109, 68, 105, 118] : List UInt8)) = false := beq_eq_false_iff_ne.mpr c6
            have c6b1 : (a0.toList != ([112, 114, 105, 109, 68, 105, 118] : List UInt8)) = true := bne_iff_ne.mpr c6
            by_cases c7 : a0.toList = ([112, 114, 105, 109, 77, 111, 100] : List UInt8)
            · rw [if_pos c7] at H
              have c7b0 : (a0.toList == ([112, 114, 105, 109, 77, 111, 100] : List UInt8)) = true := beq_iff_eq.mpr c7
              have c7b1 : (a0.toList != ([112, 114, 105, 109, 77, 111, 100] : List UInt8)) = false := bne_eq_false_iff_eq.mpr c7
              clear c7
              have H' := Aside0.mk H
              clear H
              go_wp2
              go_meet
              case rel => exact ⟨_, ((a0.toList == ([112, 114, 105, 109, 77, 111, 100] : List UInt8))), (by first | rfl | (simp; done) | (simp [*]; done)), H', ⟨by first | omega | exact Nat.le_refl _⟩, by repeat (first | exact Drawn0.refl _ | apply Drawn0.step)⟩
            · rw [if_neg c7] at H
              have c7b0 : (a0.toList == ([112, 114, 105, 109, 77, 111, 100] : List UInt8)) = false := beq_eq_false_iff_ne.mpr c7
              have c7b1 : (a0.toList != ([112, 114, 105, 109, 77, 111, 100] : List UInt8)) = true := bne_iff_ne.mpr c7
              by_cases c8 : a0.toList = ([112, 114, 105, 109, 69, 113] : List UInt8)
              · rw [if_pos c8] at H
                have c8b0 : (a0.toList == ([112, 114, 105, 109, 69, 113] : List UInt8)) = true := beq_iff_eq.mpr c8
                have c8b1 : (a0.toList != ([112, 114, 105, 109, 69, 113] : List UInt8)) = false := bne_eq_false_iff_eq.mpr c8
                clear c8
                have H' := Aside0.mk H
                clear H
                go_wp2
                go_meet
                case rel => exact ⟨_, ((a0.toList == ([112, 114, 105, 109, 69, 113] : List UInt8))), (by first | rfl | (simp; done) | (simp [*]; done)), H', ⟨by first | omega | exact Nat.le_refl _⟩, by repeat (first | exact Drawn0.refl _ | apply Drawn0.step)⟩
              · rw [if_neg c8] at H
                have c8b0 : (a0.toList == ([112, 114, 105, 109, 69, 113] : List UInt8)) = false := beq_eq_false_iff_ne.mpr c8
                have c8b1 : (a0.toList != ([112, 114, 105, 109, 69, 113] : List UInt8)) = true := bne_iff_ne.mpr c8
                by_cases c9 : a0.toList = ([112, 114, 105, 109, 76, 101, 115, 115] : List UInt8)
                · rw [if_pos c9] at H
                  have c9b0 : (a0.toList == ([112, 114, 105, 109, 76, 101, 115, 115] : List UInt8)) = true := beq_iff_eq.mpr c9
                  have c9b1 : (a0.toList != ([112, 114, 105, 109, 76, 101, 115, 115] : List UInt8)) = false := bne_eq_false_iff_eq.mpr c9
                  clear c9
                  have H' := Aside0.mk H
                  clear H
                  go_wp2
                  go_meet
                  case rel => exact ⟨_, ((a0.toList == ([112, 114, 105, 109, 76, 101, 115, 115] : List UInt8))), (by first | rfl | (simp; done) | (simp [*]; done)), H', ⟨by first | omega | exact Nat.le_refl _⟩, by repeat (first | exact Drawn0.refl _ | apply Drawn0.step)⟩
                · rw [if_neg c9] at H
                  have c9b0 : (a0.toList == ([112, 114, 105, 109, 76, 101, 115, 115] : List UInt8)) = false := beq_eq_false_iff_ne.mpr c9
                  have c9b1 : (a0.toList != ([112, 114, 105, 109, 76, 101, 115, 115] : List UInt8)) = true := bne_iff_ne.mpr c9
                  have H' := Aside0.mk H
                  clear H
                  go_wp2
                  go_meet
                  case rel => exact ⟨_, ((a0.toList == ([112, 114, 105, 109, 83, 101, 113] : List UInt8))), (by first | rfl | (simp; done) | (simp [*]; done)), H', ⟨by first | omega | exact Nat.le_refl _⟩, by repeat (first | exact Drawn0.refl _ | apply Drawn0.step)⟩
  case rest =>
    clear HC2
    try clear c1
    try clear p2
    try clear c3
    try clear c3b0
    try clear c3b1
    try clear c4
    try clear c4b0
    try clear c4b1
    try clear c5
    try clear c5b0
    try clear c5b1
    try clear c6
    try clear c6b0
    try clear c6b1
    try clear c7
    try clear c7b0
    try clear c7b1
    try clear c8
    try clear c8b0
    try clear c8b1
    try clear c9
    try clear c9b0
    try clear c9b1
    obtain ⟨kq, x4_1, rfl, HA, HJ1, ⟨mc1, rfl⟩⟩ := hcut
    cases kq with
    | zero => exact absurd HA.out (by simp [impl_PrimCount.j0])
    | succ kj1 =>
      have H := HA.out
      clear HA
      simp only [impl_PrimCount.j0] at H
      by_cases c10 : x4_1 = true
      · subst c10
        have H1 : (some 2) = some r := by rw [if_pos rfl] at H; exact H
        clear H
        have H := H1
        clear H1
        obtain rfl := Option.some.inj H
        go_wp2
        go_ret
        exact ⟨by first | rfl | (simp; done) | (simp [*]; done), by repeat (first | exact Drawn0.refl _ | apply Drawn0.step)⟩
      · replace c10 := Bool.eq_false_iff.mpr c10
        subst c10
        have H1 : (if a0.toList = ([112, 114, 105, 109, 79, 114, 100] : List UInt8) then (some 1) else (if a0.toList = ([112, 114, 105, 109, 67, 104, 114] : List UInt8) then (some 1) else (if a0.toList = ([112, 114, 105, 109, 83, 104, 111, 119] : List UInt8) then (some 1) else (if a0.toList = ([112, 114, 105, 109, 69, 114, 114, 111, 114] : List UInt8) then (some 1) else (some 0))))) = some r := by rw [if_neg (show ¬ (false = true) by decide)] at H; exact H
        clear H
        have H := H1
        clear H1
        by_cases c11 : a0.toList = ([112, 114, 105, 109, 79, 114, 100] : List UInt8)
        · rw [if_pos c11] at H
          have c11b0 : (a0.toList == ([112, 114, 105, 109, 79, 114, 100] : List UInt8)) = true := beq_iff_eq.mpr c11
          have c11b1 : (a0.toList != ([112, 114, 105, 109, 79, 114, 100] : List UInt8)) = false := bne_eq_false_iff_eq.mpr c11
          clear c11
          obtain rfl := Option.some.inj H
          go_wp2
          go_ret
          exact ⟨by first | rfl | (simp; done) | (simp [*]; done), by repeat (first | exact Drawn0.refl _ | apply Drawn0.step)⟩
        · rw [if_neg c11] at H
          have c11b0 : (a0.toList == ([112, 114, 105, 109, 79, 114, 100] : List UInt8)) = false := beq_eq_false_iff_ne.mpr c11
          have c11b1 : (a0.toList != ([112, 114, 105, 109, 79, 114, 100] : List UInt8)) = true := bne_iff_ne.mpr c11
          by_cases c12 : a0.toList = ([112, 114, 105, 109, 67, 104, 114] : List UInt8)
          · rw [if_pos c12] at H
            have c12b0 : (a0.toList == ([112, 114, 105, 109, 67, 104, 114] : List UInt8)) = true := beq_iff_eq.mpr c12
            have c12b1 : (a0.toList != ([112, 114, 105, 109, 67, 104, 114] : List UInt8)) = false := bne_eq_false_iff_eq.mpr c12
            clear c12
            obtain rfl := Option.some.inj H
            go_wp2
            go_ret
            exact ⟨by first | rfl | (simp; done) | (simp [*]; done), by repeat (first | exact Drawn0.refl _ | apply Drawn0.step)⟩
          · rw [if_neg c12] at H
            have c12b0 : (a0.toList == ([112, 114, 105, 109, 67, 104, 114] : List UInt8)) = false := beq_eq_false_iff_ne.mpr c12
            have c12b1 : (a0.toList != ([112, 114, 105, 109, 67, 104, 114] : List UInt8)) = true := bne_iff_ne.mpr c12
            by_cases c13 : a0.toList = ([112, 114, 105, 109, 83, 104, 111, 119] : List UInt8)
            · rw [if_pos c13] at H
              have c13b0 : (a0.toList == ([112, 114, 105, 109, 83, 104, 111, 119] : List UInt8)) = true := beq_iff_eq.mpr c13
              have c13b1 : (a0.toList != ([112, 114, 105, 109, 83, 104, 111, 119] : List UInt8)) = false := bne_eq_false_iff_eq.mpr c13
              clear c13
              obtain rfl := Option.some.inj H
              go_wp2
              go_ret
              exact ⟨by first | rfl | (simp; done) | (simp [*]; done), by repeat (first | exact Drawn0.refl _ | apply Drawn0.step)⟩
            · rw [if_neg c13] at H
              have c13b0 : (a0.toList == ([112, 114, 105, 109, 83, 104, 111, 119] : List UInt8)) = false := beq_eq_false_iff_ne.mpr c13
              have c13b1 : (a0.toList != ([112, 114, 105, 109, 83, 104, 111, 119] : List UInt8)) = true := bne_iff_ne.mpr c13
              by_cases c14 : a0.toList = ([112, 114, 105, 109, 69, 114, 114, 111, 114] : List UInt8)
              · rw [if_pos c14] at H
                have c14b0 : (a0.toList == ([112, 114, 105, 109, 69, 114, 114, 111, 114] : List UInt8)) = true := beq_iff_eq.mpr c14
                have c14b1 : (a0.toList != ([112, 114, 105, 109, 69, 114, 114, 111, 114] : List UInt8)) = false := bne_eq_false_iff_eq.mpr c14
                clear c14
                obtain rfl := Option.some.inj H
                go_wp2
                go_ret
                exact ⟨by first | rfl | (simp; done) | (simp [*]; done), by repeat (first | exact Drawn0.refl _ | apply Drawn0.step)⟩
              · rw [if_neg c14] at H
                have c14b0 : (a0.toList == ([112, 114, 105, 109, 69, 114, 114, 111, 114] : List UInt8)) = false := beq_eq_false_iff_ne.mpr c14
                have c14b1 : (a0.toList != ([112, 114, 105, 109, 69, 114, 114, 111, 114] : List UInt8)) = true := bne_iff_ne.mpr c14
                obtain rfl := Option.some.inj H
                go_wp2
                go_ret
                exact ⟨by first | rfl | (simp; done) | (simp [*]; done), by repeat (first | exact Drawn0.refl _ | apply Drawn0.step)⟩

/-! ### laws_FnExactPrimCount: function 4 -/
def laws_FnExactPrimCount.f (k : Nat) (a0 : ByteArray) : Option (Bool) := if (a0.size : Int) > 1048576 then (some true) else ((spec_PrimCount.f k a0).bind fun t101 => ((impl_PrimCount.f k a0).bind fun t102 => (if t102 = t101 then (some true) else (some false))))
theorem laws_FnExactPrimCount.mono : ∀ a0 k, LeO (laws_FnExactPrimCount.f k a0) (laws_FnExactPrimCount.f (k + 1) a0) := by
  intro a0 k
  unfold laws_FnExactPrimCount.f
  repeat' first
      | (with_reducible exact impl_PrimCount.mono _ _)
      | (with_reducible exact spec_PrimCount.mono _ _)
      | (with_reducible exact LeO.refl _)
      | (with_reducible exact LeO.none _)
      | (with_reducible refine LeO.ite ?_ ?_)
      | (with_reducible refine LeO.bind ?_ (fun _ => ?_))
      | exact impl_PrimCount.mono _ _
      | exact spec_PrimCount.mono _ _
      | exact LeO.none _
      | refine LeO.ite ?_ ?_
      | refine LeO.bind ?_ (fun _ => ?_)
set_option maxHeartbeats 8000000 in
set_option maxRecDepth 100000 in
theorem laws_FnExactPrimCount.calls (k : Nat) (a0 : ByteArray) (r : Bool) (w : World) (h : laws_FnExactPrimCount.f k a0 = some r) :
    Calls Try.prog 4 #[.string a0] w fun e w' => e = .returned (.bool r) ∧ Drawn0 w w' := by
  have H : (if (a0.size : Int) > 1048576 then (some true) else ((spec_PrimCount.f k a0).bind fun t101 => ((impl_PrimCount.f k a0).bind fun t102 => (if t102 = t101 then (some true) else (some false))))) = some r := h
  clear h
  by_cases c2 : (a0.size : Int) > 1048576
  · rw [if_pos c2] at H
    have c2b0 : decide (1048576 < (a0.size : Int)) = true := decide_eq_true c2
    have c2b1 : decide (1048576 < a0.size) = true := decide_eq_true (by omega)
    clear c2
    obtain rfl := Option.some.inj H
    go_enter Try.func4, Try.ntmps4
    go_wp2
    go_ret
    exact ⟨by first | rfl | (simp; done) | (simp [*]; done), by repeat (first | exact Drawn0.refl _ | apply Drawn0.step)⟩
  · rw [if_neg c2] at H
    have c2b0 : decide (1048576 < (a0.size : Int)) = false := decide_eq_false c2
    have c2b1 : decide (1048576 < a0.size) = false := decide_eq_false (by omega)
    clear c2
    replace H := Option.bind_eq_some_iff.mp H
    obtain ⟨t101, A30, H⟩ := H
    replace H : ((impl_PrimCount.f k a0).bind fun t102 => (if t102 = t101 then (some true) else (some false))) = some r := H
    have A3 := Aside0.mk A30
    clear A30
    replace H := Option.bind_eq_some_iff.mp H
    obtain ⟨t102, A40, H⟩ := H
    replace H : (if t102 = t101 then (some true) else (some false)) = some r := H
    have A4 := Aside0.mk A40
    clear A40
    by_cases c5 : t102 = t101
    · rw [if_pos c5] at H
      have c5b0 : (t102 == t101) = true := beq_iff_eq.mpr c5
      have c5b1 : (t102 != t101) = false := bne_eq_false_iff_eq.mpr c5
      clear c5
      obtain rfl := Option.some.inj H
      go_enter Try.func4, Try.ntmps4
      go_wp2_with (first | ((with_reducible refine gate_callee (f := 14) rfl ?_); refine goesL_ (some 9) rfl rfl Try.func14 (by kernel_rfl) rfl #[.string a0] rfl (by (try simp only [List.map_toArray, List.map_cons, List.map_nil]); first | done | rfl | (simp only [List.length_drop, List.length_take]; rfl)) ?_; (with_reducible refine (spec_PrimCount.calls k a0 t101 _ A3.out).mono ?_); rintro e w' ⟨rfl, ⟨nd, rfl⟩⟩; refine ⟨_, rfl, ?_⟩) | ((with_reducible refine gate_callee (f := 15) rfl ?_); refine goesL_ (some 11) rfl rfl Try.func15 (by kernel_rfl) rfl #[.string a0] rfl (by (try simp only [List.map_toArray, List.map_cons, List.map_nil]); first | done | rfl | (simp only [List.length_drop, List.length_take]; rfl)) ?_; (with_reducible refine (impl_PrimCount.calls k a0 t102 _ A4.out).mono ?_); rintro e w' ⟨rfl, ⟨nd, rfl⟩⟩; refine ⟨_, rfl, ?_⟩))
      go_ret
      exact ⟨by first | rfl | (simp; done) | (simp [*]; done), by repeat (first | exact Drawn0.refl _ | apply Drawn0.step)⟩
    · rw [if_neg c5] at H
      have c5b0 : (t102 == t101) = false := beq_eq_false_iff_ne.mpr c5
      have c5b1 : (t102 != t101) = true := bne_iff_ne.mpr c5
      obtain rfl := Option.some.inj H
      go_enter Try.func4, Try.ntmps4
      go_wp2_with (first | ((with_reducible refine gate_callee (f := 14) rfl ?_); refine goesL_ (some 9) rfl rfl Try.func14 (by kernel_rfl) rfl #[.string a0] rfl (by (try simp only [List.map_toArray, List.map_cons, List.map_nil]); first | done | rfl | (simp only [List.length_drop, List.length_take]; rfl)) ?_; (with_reducible refine (spec_PrimCount.calls k a0 t101 _ A3.out).mono ?_); rintro e w' ⟨rfl, ⟨nd, rfl⟩⟩; refine ⟨_, rfl, ?_⟩) | ((with_reducible refine gate_callee (f := 15) rfl ?_); refine goesL_ (some 11) rfl rfl Try.func15 (by kernel_rfl) rfl #[.string a0] rfl (by (try simp only [List.map_toArray, List.map_cons, List.map_nil]); first | done | rfl | (simp only [List.length_drop, List.length_take]; rfl)) ?_; (with_reducible refine (impl_PrimCount.calls k a0 t102 _ A4.out).mono ?_); rintro e w' ⟨rfl, ⟨nd, rfl⟩⟩; refine ⟨_, rfl, ?_⟩))
      go_ret
      exact ⟨by first | rfl | (simp; done) | (simp [*]; done), by repeat (first | exact Drawn0.refl _ | apply Drawn0.step)⟩

/-- THE ONE PURE STATEMENT of laws_FnExactPrimCount: yours. -/
def laws_FnExactPrimCount.Pure : Prop := ∀ (a0 : ByteArray), a0.size ≤ 140737488351232 → ∃ k, laws_FnExactPrimCount.f k a0 = some true
theorem laws_FnExactPrimCount.walk (P : laws_FnExactPrimCount.Pure) (a0 : ByteArray) (w : World) (w0 : a0.size ≤ 140737488351232) :
    Calls Try.prog 4 #[.string a0] w fun e w' => e = .returned (.bool true) ∧ Below w.heap.size w w' := by
  obtain ⟨k, h⟩ := P a0 w0
  refine (laws_FnExactPrimCount.calls k a0 true w h).mono ?_
  rintro e w' ⟨rfl, hd⟩
  exact ⟨rfl, hd.below⟩

end Go.Proofs.Ytgogfloppnhceaa.PFnExactPrimCount
