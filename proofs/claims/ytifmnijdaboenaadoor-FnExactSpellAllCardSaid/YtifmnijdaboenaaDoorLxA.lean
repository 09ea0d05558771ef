/- The reference's lexer: what each byte is, and runs of bytes; no condition. -/
import Derived.Test.YtifmnijdaboenaaDoorProg
import Derived.Test.YtifmnijdaboenaaDoorLexN
import Derived.Test.YtifmnijdaboenaaDoorHs
namespace Go.Proofs.YtifmnijdaboenaaDoor
open Go.RowKit
set_option linter.unusedVariables false
set_option linter.unusedSimpArgs false

theorem i64_in {x : Int} (h : -9223372036854775808 ≤ x) (h2 : x ≤ 9223372036854775807) : IntKind.i64.wrap x = x := by
  simp [IntKind.wrap, IntKind.signed, IntKind.bits]
  omega
theorem inL_any (l : ByteArray) (c : Int) : inL l.data.toList c = true ↔ ∃ k, k < l.size ∧ cb l k = c := by
  unfold inL
  rw [List.any_eq_true]
  constructor
  · rintro ⟨x, hx, he⟩
    obtain ⟨k, hk⟩ := List.getElem?_of_mem hx
    have h1 : k < l.size := by
      have := (List.getElem?_eq_some_iff.1 hk).1
      have h2 : l.data.toList.length = l.size := rfl
      omega
    refine ⟨k, h1, ?_⟩
    have h2 := (List.getElem?_eq_some_iff.1 hk).2
    have h3 : l[k]'h1 = x := (Array.getElem_toList (xs := l.data) (i := k) h1).symm.trans h2
    rw [← cb_at h1, h3]
    simpa using he
  · rintro ⟨k, h1, he⟩
    refine ⟨l[k]'h1, ?_, by rw [← cb_at h1] at he; simpa using he⟩
    exact List.mem_of_getElem? (i := k) (List.getElem?_eq_some_iff.2 ⟨h1, (Array.getElem_toList (xs := l.data) (i := k) h1)⟩)

theorem specDigit (c : Int) (w : World) : Calls Tryd.prog 43 #[.int .u8 c] w fun e w' => e = .returned (.bool (isDig c)) ∧ w' = w := by
  go_enter Tryd.func43, Tryd.ntmps43
  go_wp2
  all_goals
    go_ret
    refine ⟨ret_bool ?_, rfl⟩
    simp_all [isDig] <;> omega
theorem specSmall (c : Int) (w : World) : Calls Tryd.prog 39 #[.int .u8 c] w fun e w' => e = .returned (.bool (isSm c)) ∧ w' = w := by
  go_enter Tryd.func39, Tryd.ntmps39
  go_wp2
  all_goals
    go_ret
    refine ⟨ret_bool ?_, rfl⟩
    simp_all [isSm] <;> omega
theorem specCapital (c : Int) (w : World) : Calls Tryd.prog 40 #[.int .u8 c] w fun e w' => e = .returned (.bool (isCap c)) ∧ w' = w := by
  go_enter Tryd.func40, Tryd.ntmps40
  go_wp2
  all_goals
    go_ret
    refine ⟨ret_bool ?_, rfl⟩
    simp_all [isCap] <;> omega
theorem specInside (c : Int) (w : World) : Calls Tryd.prog 70 #[.int .u8 c] w fun e w' => e = .returned (.bool (isIn c)) ∧ w' = w := by
  go_enter Tryd.func70, Tryd.ntmps70
  go_wp2_with (first | (go_at_call 39; refine (specSmall _ _).mono ?_; rintro e w1 ⟨rfl, rfl⟩) | (go_at_call 40; refine (specCapital _ _).mono ?_; rintro e w1 ⟨rfl, rfl⟩) | (go_at_call 43; refine (specDigit _ _).mono ?_; rintro e w1 ⟨rfl, rfl⟩))
  all_goals
    go_ret
    refine ⟨ret_bool ?_, rfl⟩
    simp_all [isIn]
theorem specIn (c : Int) (l : ByteArray) (hl : l.size ≤ 140737488351232) (w : World) : Calls Tryd.prog 71 #[.int .u8 c, .string l] w fun e w' => e = .returned (.bool (inL l.data.toList c)) ∧ w' = w := by
  go_enter Tryd.func71, Tryd.ntmps71
  go_wp2
  go_loop [5] (fun i => ∃ j : Nat, i = .int .i64 j ∧ j ≤ l.size ∧ ∀ k, k < j → cb l k ≠ c) (fun i => l.size - (intOf i).toNat)
  case atStart => exact ⟨0, rfl, Nat.zero_le _, fun k hk => by omega⟩
  case round =>
    obtain ⟨j, rfl, hj, hn⟩ := hrel
    by_cases hlt : j < l.size
    · have hc := cb_at hlt
      by_cases he : cb l j = c
      · go_wp2
        go_ret
        refine ⟨ret_bool ?_, rfl⟩
        exact ((inL_any l c).2 ⟨j, hlt, he⟩).symm
      · go_wp2
        go_roundw
        case rel => exact ⟨j + 1, by go_num, hlt, fun k hk => by
          rcases Nat.lt_succ_iff_lt_or_eq.1 hk with hk | rfl
          · exact hn k hk
          · exact he⟩
        case measure => simp [intOf]; omega
    · have hje : j = l.size := by omega
      go_wp2
      go_ret
      refine ⟨ret_bool ?_, rfl⟩
      have : ¬ inL l.data.toList c = true := fun h => by
        obtain ⟨k, hk, hk2⟩ := (inL_any l c).1 h
        exact hn k (by omega) hk2
      simpa using this
theorem specSymbol (c : Int) (w : World) : Calls Tryd.prog 45 #[.int .u8 c] w fun e w' => e = .returned (.bool (isSym c)) ∧ w' = w := by
  go_enter Tryd.func45, Tryd.ntmps45
  go_wp2_with (go_at_call 71; refine (specIn c ⟨#[33, 35, 36, 37, 38, 42, 43, 46, 47, 60, 61, 62, 63, 64, 92, 94, 124, 45, 126, 58]⟩ (by decide) _).mono ?_; rintro e w1 ⟨rfl, rfl⟩)
  go_ret
  exact ⟨rfl, rfl⟩
theorem specSpecial (c : Int) (w : World) : Calls Tryd.prog 47 #[.int .u8 c] w fun e w' => e = .returned (.bool (isSpc c)) ∧ w' = w := by
  go_enter Tryd.func47, Tryd.ntmps47
  go_wp2_with (go_at_call 71; refine (specIn c ⟨#[40, 41, 91, 93, 44, 59, 96, 123, 125]⟩ (by decide) _).mono ?_; rintro e w1 ⟨rfl, rfl⟩)
  go_ret
  exact ⟨rfl, rfl⟩
def pK (k : Int) : Int → Bool := if k = 0 then isIn else if k = 1 then isSym else isDig
theorem specRun (t : ByteArray) (ht : t.size ≤ 1048576) (a : Nat) (ha : a ≤ t.size) (k : Int) (hk : k = 0 ∨ k = 1 ∨ k = 2) (w : World) : Calls Tryd.prog 38 #[.string t, .int .i64 a, .int .i64 k] w fun e w' => e = .returned (.int .i64 (runL (pK k) t a)) ∧ w' = w := by
  go_enter Tryd.func38, Tryd.ntmps38
  go_wp2
  go_loop [7, 8] (fun i u => ∃ j : Nat, i = .int .i64 j ∧ a + j ≤ t.size ∧ ∀ q, q < j → pK k (cb t (a + q)) = true) (fun i _ => t.size - (intOf i).toNat)
  case atStart => exact ⟨0, rfl, by omega, fun k hk => by omega⟩
  case round =>
    obtain ⟨j, rfl, hj, hn⟩ := hrel
    by_cases hlt : a + j < t.size
    · have hc := cb_at hlt
      have hw : IntKind.i64.wrap ((a : Int) + (j : Int)) = ((a + j : Nat) : Int) := (i64_in (by omega) (by omega)).trans (by omega)
      have hq : ∀ b, pK k (cb t (a + j)) = b → pK k (cb t (a + j)) = b := fun _ h => h
      cases he : pK k (cb t (a + j))
      · have hr := runL_is (pK k) t j a hn (by omega) (fun _ => he)
        rcases hk with rfl | rfl | rfl
        · have he' : isIn (cb t (a + j)) = false := he
          go_wp2_with (first | (go_at_call 70; refine (specInside _ _).mono ?_; rintro e w1 ⟨rfl, rfl⟩) | (go_at_call 45; refine (specSymbol _ _).mono ?_; rintro e w1 ⟨rfl, rfl⟩) | (go_at_call 43; refine (specDigit _ _).mono ?_; rintro e w1 ⟨rfl, rfl⟩))
          go_ret
          exact ⟨ret_int (by rw [hr]), rfl⟩
        · have he' : isSym (cb t (a + j)) = false := he
          go_wp2_with (first | (go_at_call 70; refine (specInside _ _).mono ?_; rintro e w1 ⟨rfl, rfl⟩) | (go_at_call 45; refine (specSymbol _ _).mono ?_; rintro e w1 ⟨rfl, rfl⟩) | (go_at_call 43; refine (specDigit _ _).mono ?_; rintro e w1 ⟨rfl, rfl⟩))
          go_ret
          exact ⟨ret_int (by rw [hr]), rfl⟩
        · have he' : isDig (cb t (a + j)) = false := he
          go_wp2_with (first | (go_at_call 70; refine (specInside _ _).mono ?_; rintro e w1 ⟨rfl, rfl⟩) | (go_at_call 45; refine (specSymbol _ _).mono ?_; rintro e w1 ⟨rfl, rfl⟩) | (go_at_call 43; refine (specDigit _ _).mono ?_; rintro e w1 ⟨rfl, rfl⟩))
          go_ret
          exact ⟨ret_int (by rw [hr]), rfl⟩
      · have hx : ∀ q, q < j + 1 → pK k (cb t (a + q)) = true := fun q hq => by
          rcases Nat.lt_succ_iff_lt_or_eq.1 hq with hq | rfl
          · exact hn q hq
          · exact he
        rcases hk with rfl | rfl | rfl
        · have he' : isIn (cb t (a + j)) = true := he
          go_wp2_with (first | (go_at_call 70; refine (specInside _ _).mono ?_; rintro e w1 ⟨rfl, rfl⟩) | (go_at_call 45; refine (specSymbol _ _).mono ?_; rintro e w1 ⟨rfl, rfl⟩) | (go_at_call 43; refine (specDigit _ _).mono ?_; rintro e w1 ⟨rfl, rfl⟩))
          go_roundw
          case rel => exact ⟨j + 1, by go_num, by omega, hx⟩
          case measure => simp [intOf]; omega
        · have he' : isSym (cb t (a + j)) = true := he
          go_wp2_with (first | (go_at_call 70; refine (specInside _ _).mono ?_; rintro e w1 ⟨rfl, rfl⟩) | (go_at_call 45; refine (specSymbol _ _).mono ?_; rintro e w1 ⟨rfl, rfl⟩) | (go_at_call 43; refine (specDigit _ _).mono ?_; rintro e w1 ⟨rfl, rfl⟩))
          go_roundw
          case rel => exact ⟨j + 1, by go_num, by omega, hx⟩
          case measure => simp [intOf]; omega
        · have he' : isDig (cb t (a + j)) = true := he
          go_wp2_with (first | (go_at_call 70; refine (specInside _ _).mono ?_; rintro e w1 ⟨rfl, rfl⟩) | (go_at_call 45; refine (specSymbol _ _).mono ?_; rintro e w1 ⟨rfl, rfl⟩) | (go_at_call 43; refine (specDigit _ _).mono ?_; rintro e w1 ⟨rfl, rfl⟩))
          go_roundw
          case rel => exact ⟨j + 1, by go_num, by omega, hx⟩
          case measure => simp [intOf]; omega
    · have hr := runL_is (pK k) t j a hn (by omega) (fun h => absurd h hlt)
      go_wp2
      go_ret
      exact ⟨ret_int (by first | rw [hr] | rfl), rfl⟩

end Go.Proofs.YtifmnijdaboenaaDoor
