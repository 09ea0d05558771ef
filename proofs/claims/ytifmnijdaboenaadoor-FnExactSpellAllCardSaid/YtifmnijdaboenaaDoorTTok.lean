/- The laws 'FnExactTokenFault' and 'FnExactSpell' with what both functions answer; one condition: the library's table of blanks holds what its text lays. -/
import Derived.Test.YtifmnijdaboenaaDoorLawTokenFault
import Derived.Test.YtifmnijdaboenaaDoorLawSpell
import Derived.Test.YtifmnijdaboenaaDoorSpJ
import Derived.Test.YtifmnijdaboenaaDoorTLex
namespace Go.Proofs.YtifmnijdaboenaaDoor
open Go Go.RowKit
set_option linter.unusedVariables false
set_option linter.unusedSimpArgs false

theorem reach_tk : reachBytes = 140737488351232 := by decide
theorem opensLToken (N : Nat) : Opens Tryd.prog 30 (fun y => ∃ z : Tk, y = z.d ∧ z.x.size ≤ 140737488351232) N := by
  refine ((opens_struct (N := N) Tryd.underlying30 (by kernel_rfl) (opensF_cons (c := 1) rfl (by kernel_rfl) (opens_int Tryd.underlying2 (by kernel_rfl) N) (opensF_cons (c := 1) rfl (by kernel_rfl) (opens_str Tryd.underlying9 (by kernel_rfl) N) (opensF_cons (c := 1) rfl (by kernel_rfl) (opens_int Tryd.underlying2 (by kernel_rfl) N) (opensF_cons (c := 1) rfl (by kernel_rfl) (opens_int Tryd.underlying2 (by kernel_rfl) N) opensF_nil))))).le (Nat.le_succ N)).imp ?_
  rintro y ⟨ys, rfl, _, _, rfl, ⟨k, rfl, hk⟩, _, _, rfl, ⟨s, rfl, hs⟩, _, _, rfl, ⟨l, rfl, hl⟩, _, _, rfl, ⟨c, rfl, hc⟩, rfl⟩
  exact ⟨⟨k, s, l, c⟩, rfl, by rw [reach_tk] at hs; exact hs⟩
theorem tks_of : ∀ {xs : List D}, (∀ x ∈ xs, ∃ z : Tk, x = z.d ∧ z.x.size ≤ 140737488351232) → ∃ l : List Tk, xs = l.map Tk.d ∧ ∀ z ∈ l, z.x.size ≤ 140737488351232
  | [], _ => ⟨[], rfl, fun _ h => by cases h⟩
  | x :: xs, h => by
    obtain ⟨z, rfl, hz⟩ := h x List.mem_cons_self
    obtain ⟨l, rfl, hl⟩ := tks_of (xs := xs) fun y hy => h y (List.mem_cons_of_mem _ hy)
    exact ⟨z :: l, rfl, fun b hb => by
      rcases List.mem_cons.1 hb with rfl | hb
      · exact hz
      · exact hl b hb⟩
theorem opensLTokens (N : Nat) : Opens Tryd.prog 37 (fun y => ∃ l : List Tk, y = D.slice 4 (l.map Tk.d) ∧ l.length ≤ 140737488351232 ∧ ∀ z ∈ l, z.x.size ≤ 140737488351232) N := by
  refine ((opens_slice (sz := 4) (B := 40) Tryd.underlying37 (by kernel_rfl) (by kernel_rfl) (by omega) (by kernel_rfl) (opensLToken N)).le (Nat.le_succ N)).imp ?_
  rintro y ⟨xs, rfl, hl, hx⟩
  obtain ⟨l, rfl, hw⟩ := tks_of hx
  have hr := reach_tk
  rw [List.length_map] at hl
  exact ⟨l, rfl, by omega, hw⟩
theorem tk_bulk {z : Tk} (h : z.d.bulk ≤ 1048576) : z.x.size ≤ 1048576 := by
  simp only [Tk.d, D.bulk, D.bulks] at h
  omega
theorem walkTokenFault (z : Tk) (hs : z.x.size ≤ 140737488351232) (w : World) (hT : Tab w) (cs : List Value) (h : Rd w z.d cs) :
    Calls Tryd.prog 4 #[.agg cs.toArray] w fun e w' => e = .returned (.bool true) ∧ Below w.heap.size w w' :=
  lawFnExactTokenFault z.d (tfR z.k z.x) rfl (szToken_of _ _ _ _ hs) (fun _ => toToken_of _ _ _ _) (eqToken_of _ _ _ _)
    (fun hb w1 cs1 h1 => by
      obtain rfl := openToken h1
      exact specTokenFault _ _ _ _ (tk_bulk hb) w1)
    w (fun hb w1 cs1 hbl h1 => by
      obtain rfl := openToken h1
      exact implTokenFault _ _ _ _ (tk_bulk hb) w1 (hT.below hbl)) cs h
theorem walkSpell (z : Tk) (hs : z.x.size ≤ 140737488351232) (w : World) (hT : Tab w) (cs : List Value) (h : Rd w z.d cs) :
    Calls Tryd.prog 5 #[.agg cs.toArray] w fun e w' => e = .returned (.bool true) ∧ Below w.heap.size w w' :=
  lawFnExactSpell z.d (spellR z.k z.x) rfl (szToken_of _ _ _ _ hs) (fun _ => toToken_of _ _ _ _) (eqToken_of _ _ _ _)
    (fun hb w1 cs1 h1 => by
      obtain rfl := openToken h1
      exact specSpell _ _ _ _ (tk_bulk hb) w1)
    w (fun hb w1 cs1 hbl h1 => by
      obtain rfl := openToken h1
      exact implSpell _ _ _ _ (tk_bulk hb) w1 (hT.below hbl)) cs h

end Go.Proofs.YtifmnijdaboenaaDoor
