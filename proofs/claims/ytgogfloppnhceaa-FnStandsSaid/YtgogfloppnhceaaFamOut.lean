/- What the laws' own helpers do with Outcome; no condition. -/
import Derived.Test.YtgogfloppnhceaaHs
import Derived.Test.YtgogfloppnhceaaProg
namespace Go.Proofs.Ytgogfloppnhceaa
open Go.RowKit
set_option linter.unusedVariables false
set_option linter.unusedSimpArgs false

theorem openOutcome {iEnd : Int} {sOut : ByteArray} {sError : ByteArray} {iSteps : Int} {w : World} {cs : List Value} (h : Rd w (.struct [.int .i64 iEnd, .str sOut, .str sError, .int .i64 iSteps]) cs) : cs = [.int .i64 iEnd, .string sOut, .string sError, .int .i64 iSteps] := by
  rw [rd_struct] at h
  simp only [rdF_cons, rdF_nil, rd_int, rd_bool, rd_str] at h
  obtain ⟨e0, r0, rfl, rfl, e1, r1, rfl, rfl, e2, r2, rfl, rfl, e3, r3, rfl, rfl, rfl⟩ := h
  simp

set_option maxRecDepth 100000 in
theorem szOutcome_of (iEnd : Int) (sOut : ByteArray) (sError : ByteArray) (iSteps : Int) (hsOut : sOut.size ≤ 140737488351232) (hsError : sError.size ≤ 140737488351232) : SzA Try.prog 16 (.struct [.int .i64 iEnd, .str sOut, .str sError, .int .i64 iSteps]) := by
  intro w cs left h h0 h1
  obtain rfl := openOutcome h
  have TOT := Lib.hid (show D.bulk (.struct [.int .i64 iEnd, .str sOut, .str sError, .int .i64 iSteps]) = sOut.size + sError.size by simp only [D.bulk, D.bulks] <;> omega)
  have HB0 := Lib.hid ((Below.refl w.heap.size w).alloc (Nat.le_refl _) (.cells #[.int .i64 iEnd, .string sOut, .string sError, .int .i64 iSteps] 26))
  have BK0 := Lib.hid (blk_new w (.cells #[.int .i64 iEnd, .string sOut, .string sError, .int .i64 iSteps] 26))
  clear h
  go_enter Try.func16, Try.ntmps16
  go_wp2_with fail
  · go_ret
    exact ⟨ret_int (szR_neg' (by rw [TOT.out]; omega)).symm, HB0.out⟩
  · go_ret
    exact ⟨ret_int (szR_neg' (by rw [TOT.out]; omega)).symm, HB0.out⟩
  · skip
    go_ret
    exact ⟨ret_int ((szR_fit (by rw [TOT.out]; omega)).trans (by rw [TOT.out] <;> omega)).symm, HB0.out⟩

set_option maxRecDepth 100000 in
theorem toOutcome_of (iEnd : Int) (sOut : ByteArray) (sError : ByteArray) (iSteps : Int) : ToA Try.prog 18 (.struct [.int .i64 iEnd, .str sOut, .str sError, .int .i64 iSteps]) := by
  intro w cs h
  obtain rfl := openOutcome h
  clear h
  go_enter Try.func18, Try.ntmps18
  go_wp2
  refine bodyPost_ret (v := .agg #[.int .i64 iEnd, .string sOut, .string sError, .int .i64 iSteps]) (by simp [results, Try.results18, go_sem]) rfl ⟨[.int .i64 iEnd, .string sOut, .string sError, .int .i64 iSteps], rfl, ?_, ?_⟩
  · rw [fr_struct]
    exact frF_int (frF_str (frF_str (frF_int (frF_nil _ _))))
  · repeat (first | exact Below.refl _ _ | refine Below.setCell ?_ (by first | (simp; done) | (simp; omega)) _ | refine Below.alloc ?_ (by first | (simp; done) | (simp; omega)) _)

end Go.Proofs.Ytgogfloppnhceaa
