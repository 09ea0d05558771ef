/- The law 'FnExactBigOf' with what both functions answer; no condition. -/
import Derived.Test.YtajmeeppigdjnaaOBigOf
import Derived.Test.YtajmeeppigdjnaaLawBigOf
namespace Go.Proofs.Ytajmeeppigdjnaa
open Go.RowKit Go.Proofs.YtajmeeppigdjnaaW.PrintWords
set_option linter.unusedVariables false
theorem i64_of_wf {n : Int} (h : (Lit.int .i64 n).wf = true) : -9223372036854775808 ≤ n ∧ n < 9223372036854775808 := by
  have h2 : IntKind.i64.min ≤ n ∧ n ≤ IntKind.i64.max := by simpa [Lit.wf] using h
  have e1 : IntKind.i64.min = -9223372036854775808 := by decide
  have e2 : IntKind.i64.max = 9223372036854775807 := by decide
  omega
theorem lims_of_len {v : Int} (h1 : -9223372036854775808 ≤ v) (h2 : v < 9223372036854775808) : (lims v).length ≤ 2 := by
  have h := of_val h1 h2
  have h3 := lim_len_le (val_nonneg h.1) (val_lt h.1)
  rw [h.2.1, h.2.2] at h3
  exact h3
theorem fr_big {B : Nat} {w : World} {m : Bool} {l : List Int} {v : Value} (h : Fr B w (.slice 1 (u32s l)) [v]) : Fr B w (bigD m l) [.bool m, v] := by
  unfold bigD
  rw [fr_struct]
  exact frF_bool (frF_last h)
theorem walkBigOf (v : Int) (h1 : -9223372036854775808 ≤ v) (h2 : v < 9223372036854775808) (w : World) :
    Calls Try.prog 3 #[.int .i64 v] w fun e w' => e = .returned (.bool true) ∧ Below w.heap.size w w' := by
  have hl := lims_of_len h1 h2
  have hm := mkBg (bgOf v).1 (lims v) (by rw [bulk_bigD]; omega)
  exact lawFnExactBigOf v (bigD (bgOf v).1 (lims v)) rfl (eqBg (bgOf v).1 (lims v) (by omega))
    ⟨hm.1, hm.2, heldBig_of (bgOf v).1 (u32s (lims v)) (heldUint32S_of (u32s (lims v)) (by rw [u32s_length]; omega) (u32s_mem _))⟩
    (fun w => by
      refine (specBigOf v h1 h2 w).mono ?_
      rintro e w' ⟨u, rfl, hv, hb⟩
      exact ⟨_, rfl, fr_big (fr_of_kdR hv), hb⟩)
    (fun w => by
      refine (implBigOf v h1 h2 w).mono ?_
      rintro e w' ⟨u, rfl, hv, hb⟩
      exact ⟨_, rfl, fr_big (fr_of_kdR hv), hb⟩) w

end Go.Proofs.Ytajmeeppigdjnaa
