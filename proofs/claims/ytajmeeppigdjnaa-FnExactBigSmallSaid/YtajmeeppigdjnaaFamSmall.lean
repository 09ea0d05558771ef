/- What the laws' own helpers do with SmallResult; no condition. -/
import Derived.Test.YtajmeeppigdjnaaHs
import Derived.Test.YtajmeeppigdjnaaProg
namespace Go.Proofs.Ytajmeeppigdjnaa
open Go.RowKit
set_option linter.unusedVariables false
set_option linter.unusedSimpArgs false

theorem openSmallResult {bGood : Bool} {iValue : Int} {w : World} {cs : List Value} (h : Rd w (.struct [.bool bGood, .int .i64 iValue]) cs) : cs = [.bool bGood, .int .i64 iValue] := by
  rw [rd_struct] at h
  simp only [rdF_cons, rdF_nil, rd_int, rd_bool, rd_str] at h
  obtain ⟨e0, r0, rfl, rfl, e1, r1, rfl, rfl, rfl⟩ := h
  simp

set_option maxRecDepth 100000 in
theorem eqSmallResult_of (bGood : Bool) (iValue : Int) : EqA Try.prog 24 (.struct [.bool bGood, .int .i64 iValue]) := by
  intro w cs cs' h h'
  obtain rfl := openSmallResult h
  obtain rfl := openSmallResult h'
  have HB0 := Lib.hid (((Below.refl w.heap.size w).alloc (Nat.le_refl _) (.cells #[.bool bGood, .int .i64 iValue] 32)).alloc (by simp) (.cells #[.bool bGood, .int .i64 iValue] 32))
  have BK0 := Lib.hid (blk_old (blk_new w (.cells #[.bool bGood, .int .i64 iValue] 32)) (.cells #[.bool bGood, .int .i64 iValue] 32))
  have BJ0 := Lib.hid (blk_new (w.alloc (.cells #[.bool bGood, .int .i64 iValue] 32)) (.cells #[.bool bGood, .int .i64 iValue] 32))
  clear h h'
  go_enter Try.func24, Try.ntmps24
  go_wp2
  go_ret
  exact ⟨rfl, HB0.out⟩

end Go.Proofs.Ytajmeeppigdjnaa
