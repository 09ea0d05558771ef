/- Great numbers and answers of them: the laws' helpers, marks too. No condition. -/
import Derived.Test.YtajmeeppigdjnaaTB
import Derived.Test.YtajmeeppigdjnaaFmBig
import Derived.Test.YtajmeeppigdjnaaFamBigRes
namespace Go.Proofs.Ytajmeeppigdjnaa
open Go.RowKit
set_option linter.unusedVariables false
set_option linter.unusedSimpArgs false

theorem cnts_u32s (l : List Int) : D.cnts (u32s l) = l.length := by
  rw [cnts_Uint32S _ (u32s_mem l), u32s_length]
theorem mkBg (m : Bool) (l : List Int) : (bigD m l).bulk ≤ 1048576 → (bigD m l).tcnt ≤ 1099511627776 ∧ MkA Try.prog 18 (bigD m l) := by
  intro h
  rw [bulk_bigD] at h
  refine ⟨?_, markBig_of m (u32s l) (markUint32S_of (u32s l) (by rw [u32s_length]; omega) (u32s_mem l))⟩
  simp only [bigD, D.tcnt, D.tcnts, cnts_u32s]
  omega
/-- An answer. -/
def resD (r : Int × Bool × List Int) : D := .struct [.int .i64 r.1, bigD r.2.1 r.2.2]
theorem eqRes (r : Int × Bool × List Int) (h : r.2.2.length ≤ 1048576) : EqA Try.prog 31 (resD r) :=
  eqBigResult_of r.1 r.2.1 (u32s r.2.2) (eqBg r.2.1 r.2.2 (by omega))
theorem mkRes (r : Int × Bool × List Int) (h : r.2.2.length ≤ 1048576) : (resD r).tcnt ≤ 1099511627776 ∧ MkA Try.prog 32 (resD r) ∧ HdA Try.prog 33 (resD r) := by
  have hb := mkBg r.2.1 r.2.2 (by rw [bulk_bigD]; exact h)
  refine ⟨?_, markBigResult_of r.1 r.2.1 (u32s r.2.2) hb.2, heldBigResult_of r.1 r.2.1 (u32s r.2.2) (heldBig_of r.2.1 (u32s r.2.2) (heldUint32S_of (u32s r.2.2) (by rw [u32s_length]; omega) (u32s_mem _)))⟩
  simp only [resD, bigD, D.tcnt, D.tcnts, cnts_u32s]
  omega
theorem fr_res {B : Nat} {w : World} {r : Int × Bool × List Int} {v : Value} (h : Fr B w (.slice 1 (u32s r.2.2)) [v]) : Fr B w (resD r) [.int .i64 r.1, .bool r.2.1, v] := by
  unfold resD bigD
  rw [fr_struct]
  refine frF_int (frF_last ?_)
  rw [fr_struct]
  exact frF_bool (frF_last h)
theorem bgRes_len (z : Int) : (bgRes z).2.2.length ≤ 1048576 := by
  unfold bgRes
  split
  · simp
  · simp only; omega
theorem bgAdd_len (m : Bool) (l : List Int) (m' : Bool) (l' : List Int) : (bgAdd m l m' l').2.2.length ≤ 1048576 := by
  unfold bgAdd
  split
  · simp
  · exact bgRes_len _
theorem bgSub_len (m : Bool) (l : List Int) (m' : Bool) (l' : List Int) : (bgSub m l m' l').2.2.length ≤ 1048576 := by
  unfold bgSub
  split
  · simp
  · exact bgRes_len _
theorem bgMul_len (m : Bool) (l : List Int) (m' : Bool) (l' : List Int) : (bgMul m l m' l').2.2.length ≤ 1048576 := by
  unfold bgMul
  split
  · simp
  · exact bgRes_len _

end Go.Proofs.Ytajmeeppigdjnaa
