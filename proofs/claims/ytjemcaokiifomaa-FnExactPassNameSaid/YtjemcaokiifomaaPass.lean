/- 'PassName' in both; no condition. -/
import Derived.Test.YtjemcaokiifomaaHs
import Derived.Test.YtjemcaokiifomaaProg
import Derived.LoopN
import Derived.Laws.EntriesVeiled
namespace Go.Proofs.Ytjemcaokiifomaa
open Go.RowKit
set_option linter.unusedVariables false
set_option linter.unusedSimpArgs false

def passNm (p : Int) : ByteArray :=
  if p = 1 then ⟨#[98, 101, 116, 97]⟩ else if p = 2 then ⟨#[107, 110, 111, 119, 110]⟩ else if p = 3 then ⟨#[100, 101, 97, 100]⟩ else if p = 4 then ⟨#[105, 110, 108, 105, 110, 101]⟩ else if p = 5 then ⟨#[102, 108, 111, 97, 116]⟩ else if p = 6 then ⟨#[115, 116, 114, 105, 99, 116]⟩ else ⟨#[]⟩

set_option maxRecDepth 100000 in
set_option maxHeartbeats 2000000 in
theorem specPass (p : Int) (w : World) : Calls Try.prog 30 #[.int .i64 p] w fun e w' => e = .returned (.string (passNm p)) ∧ Below w.heap.size w w' := by
  by_cases h0 : p < 1
  · have hq : passNm p = ⟨#[]⟩ := by simp only [passNm]; repeat (rw [if_neg (by omega)])
    rw [hq]
    have d0 : decide (p < 1) = true := decide_eq_true h0
    go_enter Try.func30, Try.ntmps30
    go_wp2
    go_ret
    exact ⟨rfl, Below.refl _ _⟩
  · have d0 : decide (p < 1) = false := decide_eq_false h0
    by_cases h1 : 6 < p
    · have hq : passNm p = ⟨#[]⟩ := by simp only [passNm]; repeat (rw [if_neg (by omega)])
      rw [hq]
      have d1 : decide (6 < p) = true := decide_eq_true h1
      go_enter Try.func30, Try.ntmps30
      go_wp2
      go_ret
      exact ⟨rfl, Below.refl _ _⟩
    · have hp : p = 1 ∨ p = 2 ∨ p = 3 ∨ p = 4 ∨ p = 5 ∨ p = 6 := by omega
      clear h0 h1 d0
      rcases hp with rfl | rfl | rfl | rfl | rfl | rfl
      all_goals
        go_enter Try.func30, Try.ntmps30
        go_wp2
        go_ret
        exact ⟨rfl, (Below.refl _ _).alloc (Nat.le_refl _) _⟩

abbrev passBlock : Obj := .cells #[.int .i64 1, .string ⟨#[98, 101, 116, 97]⟩, .func (.func 109) #[] #[], .int .i64 2, .string ⟨#[107, 110, 111, 119, 110]⟩, .func (.func 110) #[] #[], .int .i64 3, .string ⟨#[100, 101, 97, 100]⟩, .func (.func 111) #[] #[], .int .i64 4, .string ⟨#[105, 110, 108, 105, 110, 101]⟩, .func (.func 112) #[] #[], .int .i64 5, .string ⟨#[102, 108, 111, 97, 116]⟩, .func (.func 113) #[] #[], .int .i64 6, .string ⟨#[115, 116, 114, 105, 99, 116]⟩, .func (.func 114) #[] #[]] 91
set_option maxRecDepth 100000 in
theorem passes_is (w : World) : Calls Try.prog 89 #[] w fun e w' => e = .returned (.slice (some ⟨w.heap.size, 0, none⟩) 6 6) ∧ w' = w.alloc passBlock := by
  go_enter Try.func89, Try.ntmps89
  go_wp2
  go_ret
  exact ⟨rfl, rfl⟩

set_option maxRecDepth 100000 in
set_option maxHeartbeats 4000000 in
theorem passOf_1 (w : World) : Calls Try.prog 69 #[.int .i64 1] w fun e w' => (∃ a f b, (f = .nilFunc ∨ ∃ g, f = .func g #[] #[]) ∧ e = .returned (.tuple #[.agg #[.int .i64 a, .string (passNm 1), f], .bool b])) ∧ Below w.heap.size w w' := by
  go_enter Try.func69, Try.ntmps69
  go_wp2_with fail
  refine (passes_is _).mono ?_
  rintro e w1 ⟨rfl, rfl⟩
  go_wp2_with fail
  refine wp_loop_rounds 7 ?_
  rw [rounds_succ]
  go_wp2
  refine bodyPost_ret (v := .tuple #[.agg #[.int .i64 1, .string ⟨#[98, 101, 116, 97]⟩, .func (.func 109) #[] #[]], .bool true]) (by simp [results, Try.results69, go_sem]) rfl ⟨⟨_, _, _, .inr ⟨_, rfl⟩, rfl⟩, ?_⟩
  exact (((Below.refl _ _).alloc (Nat.le_refl _) _).alloc (by first | (simp; done) | (simp; omega)) _).alloc (by first | (simp; done) | (simp; omega)) _
set_option maxRecDepth 100000 in
set_option maxHeartbeats 4000000 in
theorem passOf_2 (w : World) : Calls Try.prog 69 #[.int .i64 2] w fun e w' => (∃ a f b, (f = .nilFunc ∨ ∃ g, f = .func g #[] #[]) ∧ e = .returned (.tuple #[.agg #[.int .i64 a, .string (passNm 2), f], .bool b])) ∧ Below w.heap.size w w' := by
  go_enter Try.func69, Try.ntmps69
  go_wp2_with fail
  refine (passes_is _).mono ?_
  rintro e w1 ⟨rfl, rfl⟩
  go_wp2_with fail
  refine wp_loop_rounds 7 ?_
  rw [rounds_succ]
  go_wp2
  rw [rounds_succ]
  go_wp2
  refine bodyPost_ret (v := .tuple #[.agg #[.int .i64 2, .string ⟨#[107, 110, 111, 119, 110]⟩, .func (.func 110) #[] #[]], .bool true]) (by simp [results, Try.results69, go_sem]) rfl ⟨⟨_, _, _, .inr ⟨_, rfl⟩, rfl⟩, ?_⟩
  exact ((((Below.refl _ _).alloc (Nat.le_refl _) _).alloc (by first | (simp; done) | (simp; omega)) _).alloc (by first | (simp; done) | (simp; omega)) _).alloc (by first | (simp; done) | (simp; omega)) _
set_option maxRecDepth 100000 in
set_option maxHeartbeats 4000000 in
theorem passOf_3 (w : World) : Calls Try.prog 69 #[.int .i64 3] w fun e w' => (∃ a f b, (f = .nilFunc ∨ ∃ g, f = .func g #[] #[]) ∧ e = .returned (.tuple #[.agg #[.int .i64 a, .string (passNm 3), f], .bool b])) ∧ Below w.heap.size w w' := by
  go_enter Try.func69, Try.ntmps69
  go_wp2_with fail
  refine (passes_is _).mono ?_
  rintro e w1 ⟨rfl, rfl⟩
  go_wp2_with fail
  refine wp_loop_rounds 7 ?_
  rw [rounds_succ]
  go_wp2
  rw [rounds_succ]
  go_wp2
  rw [rounds_succ]
  go_wp2
  refine bodyPost_ret (v := .tuple #[.agg #[.int .i64 3, .string ⟨#[100, 101, 97, 100]⟩, .func (.func 111) #[] #[]], .bool true]) (by simp [results, Try.results69, go_sem]) rfl ⟨⟨_, _, _, .inr ⟨_, rfl⟩, rfl⟩, ?_⟩
  exact (((((Below.refl _ _).alloc (Nat.le_refl _) _).alloc (by first | (simp; done) | (simp; omega)) _).alloc (by first | (simp; done) | (simp; omega)) _).alloc (by first | (simp; done) | (simp; omega)) _).alloc (by first | (simp; done) | (simp; omega)) _
set_option maxRecDepth 100000 in
set_option maxHeartbeats 4000000 in
theorem passOf_4 (w : World) : Calls Try.prog 69 #[.int .i64 4] w fun e w' => (∃ a f b, (f = .nilFunc ∨ ∃ g, f = .func g #[] #[]) ∧ e = .returned (.tuple #[.agg #[.int .i64 a, .string (passNm 4), f], .bool b])) ∧ Below w.heap.size w w' := by
  go_enter Try.func69, Try.ntmps69
  go_wp2_with fail
  refine (passes_is _).mono ?_
  rintro e w1 ⟨rfl, rfl⟩
  go_wp2_with fail
  refine wp_loop_rounds 7 ?_
  rw [rounds_succ]
  go_wp2
  rw [rounds_succ]
  go_wp2
  rw [rounds_succ]
  go_wp2
  rw [rounds_succ]
  go_wp2
  refine bodyPost_ret (v := .tuple #[.agg #[.int .i64 4, .string ⟨#[105, 110, 108, 105, 110, 101]⟩, .func (.func 112) #[] #[]], .bool true]) (by simp [results, Try.results69, go_sem]) rfl ⟨⟨_, _, _, .inr ⟨_, rfl⟩, rfl⟩, ?_⟩
  exact ((((((Below.refl _ _).alloc (Nat.le_refl _) _).alloc (by first | (simp; done) | (simp; omega)) _).alloc (by first | (simp; done) | (simp; omega)) _).alloc (by first | (simp; done) | (simp; omega)) _).alloc (by first | (simp; done) | (simp; omega)) _).alloc (by first | (simp; done) | (simp; omega)) _
set_option maxRecDepth 100000 in
set_option maxHeartbeats 4000000 in
theorem passOf_5 (w : World) : Calls Try.prog 69 #[.int .i64 5] w fun e w' => (∃ a f b, (f = .nilFunc ∨ ∃ g, f = .func g #[] #[]) ∧ e = .returned (.tuple #[.agg #[.int .i64 a, .string (passNm 5), f], .bool b])) ∧ Below w.heap.size w w' := by
  go_enter Try.func69, Try.ntmps69
  go_wp2_with fail
  refine (passes_is _).mono ?_
  rintro e w1 ⟨rfl, rfl⟩
  go_wp2_with fail
  refine wp_loop_rounds 7 ?_
  rw [rounds_succ]
  go_wp2
  rw [rounds_succ]
  go_wp2
  rw [rounds_succ]
  go_wp2
  rw [rounds_succ]
  go_wp2
  rw [rounds_succ]
  go_wp2
  refine bodyPost_ret (v := .tuple #[.agg #[.int .i64 5, .string ⟨#[102, 108, 111, 97, 116]⟩, .func (.func 113) #[] #[]], .bool true]) (by simp [results, Try.results69, go_sem]) rfl ⟨⟨_, _, _, .inr ⟨_, rfl⟩, rfl⟩, ?_⟩
  exact (((((((Below.refl _ _).alloc (Nat.le_refl _) _).alloc (by first | (simp; done) | (simp; omega)) _).alloc (by first | (simp; done) | (simp; omega)) _).alloc (by first | (simp; done) | (simp; omega)) _).alloc (by first | (simp; done) | (simp; omega)) _).alloc (by first | (simp; done) | (simp; omega)) _).alloc (by first | (simp; done) | (simp; omega)) _
set_option maxRecDepth 100000 in
set_option maxHeartbeats 4000000 in
theorem passOf_6 (w : World) : Calls Try.prog 69 #[.int .i64 6] w fun e w' => (∃ a f b, (f = .nilFunc ∨ ∃ g, f = .func g #[] #[]) ∧ e = .returned (.tuple #[.agg #[.int .i64 a, .string (passNm 6), f], .bool b])) ∧ Below w.heap.size w w' := by
  go_enter Try.func69, Try.ntmps69
  go_wp2_with fail
  refine (passes_is _).mono ?_
  rintro e w1 ⟨rfl, rfl⟩
  go_wp2_with fail
  refine wp_loop_rounds 7 ?_
  rw [rounds_succ]
  go_wp2
  rw [rounds_succ]
  go_wp2
  rw [rounds_succ]
  go_wp2
  rw [rounds_succ]
  go_wp2
  rw [rounds_succ]
  go_wp2
  rw [rounds_succ]
  go_wp2
  refine bodyPost_ret (v := .tuple #[.agg #[.int .i64 6, .string ⟨#[115, 116, 114, 105, 99, 116]⟩, .func (.func 114) #[] #[]], .bool true]) (by simp [results, Try.results69, go_sem]) rfl ⟨⟨_, _, _, .inr ⟨_, rfl⟩, rfl⟩, ?_⟩
  exact ((((((((Below.refl _ _).alloc (Nat.le_refl _) _).alloc (by first | (simp; done) | (simp; omega)) _).alloc (by first | (simp; done) | (simp; omega)) _).alloc (by first | (simp; done) | (simp; omega)) _).alloc (by first | (simp; done) | (simp; omega)) _).alloc (by first | (simp; done) | (simp; omega)) _).alloc (by first | (simp; done) | (simp; omega)) _).alloc (by first | (simp; done) | (simp; omega)) _
set_option maxRecDepth 100000 in
set_option maxHeartbeats 4000000 in
theorem passOf_none (p : Int) (h1 : ¬ p = 1) (h2 : ¬ p = 2) (h3 : ¬ p = 3) (h4 : ¬ p = 4) (h5 : ¬ p = 5) (h6 : ¬ p = 6) (w : World) : Calls Try.prog 69 #[.int .i64 p] w fun e w' => (∃ a f b, (f = .nilFunc ∨ ∃ g, f = .func g #[] #[]) ∧ e = .returned (.tuple #[.agg #[.int .i64 a, .string (passNm p), f], .bool b])) ∧ Below w.heap.size w w' := by
  have hq : passNm p = ⟨#[]⟩ := by simp only [passNm]; repeat (rw [if_neg (by omega)])
  rw [hq]
  have t1 : ((1 : Int) == p) = false := by rw [beq_eq_false_iff_ne]; omega
  have t2 : ((2 : Int) == p) = false := by rw [beq_eq_false_iff_ne]; omega
  have t3 : ((3 : Int) == p) = false := by rw [beq_eq_false_iff_ne]; omega
  have t4 : ((4 : Int) == p) = false := by rw [beq_eq_false_iff_ne]; omega
  have t5 : ((5 : Int) == p) = false := by rw [beq_eq_false_iff_ne]; omega
  have t6 : ((6 : Int) == p) = false := by rw [beq_eq_false_iff_ne]; omega
  clear h1 h2 h3 h4 h5 h6 hq
  go_enter Try.func69, Try.ntmps69
  go_wp2_with fail
  refine (passes_is _).mono ?_
  rintro e w1 ⟨rfl, rfl⟩
  go_wp2_with fail
  refine wp_loop_rounds 7 ?_
  rw [rounds_succ]
  go_wp2
  rw [rounds_succ]
  go_wp2
  rw [rounds_succ]
  go_wp2
  rw [rounds_succ]
  go_wp2
  rw [rounds_succ]
  go_wp2
  rw [rounds_succ]
  go_wp2
  rw [rounds_succ]
  go_wp2
  refine bodyPost_ret (v := .tuple #[.agg #[.int .i64 0, .string ⟨#[]⟩, .nilFunc], .bool false]) (by simp [results, Try.results69, go_sem]) rfl ⟨⟨_, _, _, .inl rfl, rfl⟩, ?_⟩
  exact ((((((((Below.refl _ _).alloc (Nat.le_refl _) _).alloc (by first | (simp; done) | (simp; omega)) _).alloc (by first | (simp; done) | (simp; omega)) _).alloc (by first | (simp; done) | (simp; omega)) _).alloc (by first | (simp; done) | (simp; omega)) _).alloc (by first | (simp; done) | (simp; omega)) _).alloc (by first | (simp; done) | (simp; omega)) _).alloc (by first | (simp; done) | (simp; omega)) _
theorem passOf_is (p : Int) (w : World) : Calls Try.prog 69 #[.int .i64 p] w fun e w' => (∃ a f b, (f = .nilFunc ∨ ∃ g, f = .func g #[] #[]) ∧ e = .returned (.tuple #[.agg #[.int .i64 a, .string (passNm p), f], .bool b])) ∧ Below w.heap.size w w' := by
  by_cases h1 : p = 1
  · subst h1; exact passOf_1 w
  by_cases h2 : p = 2
  · subst h2; exact passOf_2 w
  by_cases h3 : p = 3
  · subst h3; exact passOf_3 w
  by_cases h4 : p = 4
  · subst h4; exact passOf_4 w
  by_cases h5 : p = 5
  · subst h5; exact passOf_5 w
  by_cases h6 : p = 6
  · subst h6; exact passOf_6 w
  exact passOf_none p h1 h2 h3 h4 h5 h6 w
set_option maxRecDepth 100000 in
theorem implPass (p : Int) (w : World) : Calls Try.prog 31 #[.int .i64 p] w fun e w' => e = .returned (.string (passNm p)) ∧ Below w.heap.size w w' := by
  generalize hn : passNm p = nm
  have CAL := passOf_is p w
  rw [hn] at CAL
  have CAL := Lib.hid CAL
  clear hn
  go_enter Try.func31, Try.ntmps31
  go_wp2_with fail
  refine CAL.out.mono ?_
  rintro e w1 ⟨⟨a, f, b, rfl | ⟨g, rfl⟩, rfl⟩, hb⟩
  all_goals
    have HB := Lib.hid hb
    clear hb CAL
    go_wp2_with fail
    go_ret
    exact ⟨rfl, HB.out.alloc HB.out.size _⟩

end Go.Proofs.Ytjemcaokiifomaa
