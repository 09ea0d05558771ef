/- The law 'FnExactLex' with what both functions answer; one condition: the library's table of blanks holds what its text lays. -/
import Derived.Test.YtifmnijdaboenaaDoorLawLex
import Derived.Test.YtifmnijdaboenaaDoorIxL
namespace Go.Proofs.YtifmnijdaboenaaDoor
open Go Go.RowKit
set_option linter.unusedVariables false
set_option linter.unusedSimpArgs false

theorem lexL_len (t : ByteArray) : ∀ (f a : Nat) (p : Int × Int) (ts : List Tk), ts.length ≤ a → a ≤ t.size → (lexL t f a p ts).ts.length ≤ t.size
  | 0, a, p, ts, h1, h2 => by rw [lexL]; exact Nat.le_trans h1 h2
  | f + 1, a, p, ts, h1, h2 => by
    rw [lexL]
    split
    · exact Nat.le_trans h1 h2
    · next h3 =>
      split
      · next n hs =>
        have := stepL_skip hs (by omega)
        exact lexL_len t f (a + n) _ ts (by omega) this.2
      · next k x n hs =>
        have := stepL_tok hs (by omega)
        exact lexL_len t f (a + n) _ _ (by rw [List.length_append]; show _ + 1 ≤ _; omega) this.2
      · exact Nat.zero_le _
theorem lexR_len (t : ByteArray) : (lexR t).ts.length ≤ 60000 := by
  unfold lexR
  split
  · exact Nat.zero_le _
  · have := lexL_len t (t.size + 1) 0 (1, 1) [] (Nat.le_refl _) (Nat.zero_le _)
    omega
theorem tks_form {ts : List Tk} : ∀ x ∈ ts.map Tk.d, ∃ (iKind : Int) (sText : ByteArray) (iLine : Int) (iCol : Int), x = (.struct [.int .i64 iKind, .str sText, .int .i64 iLine, .int .i64 iCol] : D) := fun x hx => by
  obtain ⟨y, _, rfl⟩ := List.mem_map.1 hx
  exact ⟨y.k, y.x, y.l, y.c, rfl⟩
theorem tks_cnts : ∀ (ts : List Tk), D.cnts (ts.map Tk.d) ≤ 8 * ts.length
  | [] => by simp [D.cnts]
  | y :: ts => by
    have := tks_cnts ts
    simp only [List.map_cons, D.cnts, List.length_cons]
    have h2 : y.d.cnt ≤ 8 := by simp [Tk.d, D.cnt, D.cnts]
    omega
theorem eqTks (ts : List Tk) (h : ts.length ≤ 1048576) : EqO Tryd.prog 22 (.slice 4 (ts.map Tk.d)) :=
  eqTokenS_of _ (by rw [List.length_map]; omega) (fun x hx => by
    obtain ⟨a, b, c, d, rfl⟩ := tks_form x hx
    exact eqToken_of a b c d)
theorem walkLex (s : ByteArray) (hs : s.size ≤ 140737488351232) (w : World) (hT : Tab w) :
    Calls Tryd.prog 3 #[.string s] w fun e w' => e = .returned (.bool true) ∧ Below w.heap.size w w' := by
  have hl := lexR_len s
  exact lawFnExactLex s (lexR s).d rfl (eqLexResult_of _ _ _ _ (eqTks _ (by omega)))
      (fun _ => ⟨by
        have := tks_cnts (lexR s).ts
        show D.tcnt (.struct [_, _, _, .slice 4 ((lexR s).ts.map Tk.d)]) ≤ _
        simp only [D.tcnt, D.tcnts]
        omega, markLexResult_of _ _ _ _ (markTokenS_of _ (by rw [List.length_map]; omega) tks_form), heldLexResult_of _ _ _ _ (heldTokenS_of _ (by rw [List.length_map]; omega) tks_form)⟩)
      w (fun hz w1 => specLex s hz w1) (fun hz w1 hb => implLex s hz w1 (hT.below hb)) hs

end Go.Proofs.YtifmnijdaboenaaDoor
