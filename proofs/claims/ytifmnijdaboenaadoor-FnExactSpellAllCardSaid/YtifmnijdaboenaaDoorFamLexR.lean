/- What the laws' own helpers do with LexResult; no condition. -/
import Derived.Test.YtifmnijdaboenaaDoorHs
import Derived.Test.YtifmnijdaboenaaDoorProg
import Derived.Test.YtifmnijdaboenaaDoorFamTok
namespace Go.Proofs.YtifmnijdaboenaaDoor
open Go.RowKit
set_option linter.unusedVariables false
set_option linter.unusedSimpArgs false

theorem openLexResult {iCode : Int} {iLine : Int} {iCol : Int} {xTokens : List D} {w : World} {cs : List Value} (h : Rd w (.struct [.int .i64 iCode, .int .i64 iLine, .int .i64 iCol, .slice 4 xTokens]) cs) : ∃ (ATokens : Option Addr) (cTokens : Nat), cs = [.int .i64 iCode, .int .i64 iLine, .int .i64 iCol, .slice ATokens xTokens.length cTokens] ∧ Rd w (D.slice 4 xTokens) [.slice ATokens xTokens.length cTokens] := by
  rw [rd_struct] at h
  simp only [rdF_cons, rdF_nil, rd_int, rd_bool, rd_str] at h
  obtain ⟨e0, r0, rfl, rfl, e1, r1, rfl, rfl, e2, r2, rfl, rfl, e3, r3, rfl, hTokens, rfl⟩ := h
  have kTokens := hTokens
  obtain ⟨ATokens, cTokens, rfl, _⟩ := rd_slice hTokens
  exact ⟨ATokens, cTokens, by simp, kTokens⟩

set_option maxRecDepth 100000 in
theorem eqLexResult_of (iCode : Int) (iLine : Int) (iCol : Int) (xTokens : List D) (ihTokens : EqO Tryd.prog 22 (D.slice 4 xTokens)) : EqA Tryd.prog 9 (.struct [.int .i64 iCode, .int .i64 iLine, .int .i64 iCol, .slice 4 xTokens]) := by
  intro w cs cs' h h'
  obtain ⟨ATokens, cTokens, rfl, rdTokens⟩ := openLexResult h
  obtain ⟨ATokens', cTokens', rfl, rdTokens'⟩ := openLexResult h'
  have HB0 := Lib.hid (((Below.refl w.heap.size w).alloc (Nat.le_refl _) (.cells #[.int .i64 iCode, .int .i64 iLine, .int .i64 iCol, .slice ATokens xTokens.length cTokens] 24)).alloc (by simp) (.cells #[.int .i64 iCode, .int .i64 iLine, .int .i64 iCol, .slice ATokens' xTokens.length cTokens'] 24))
  have BK0 := Lib.hid (blk_old (blk_new w (.cells #[.int .i64 iCode, .int .i64 iLine, .int .i64 iCol, .slice ATokens xTokens.length cTokens] 24)) (.cells #[.int .i64 iCode, .int .i64 iLine, .int .i64 iCol, .slice ATokens' xTokens.length cTokens'] 24))
  have BJ0 := Lib.hid (blk_new (w.alloc (.cells #[.int .i64 iCode, .int .i64 iLine, .int .i64 iCol, .slice ATokens xTokens.length cTokens] 24)) (.cells #[.int .i64 iCode, .int .i64 iLine, .int .i64 iCol, .slice ATokens' xTokens.length cTokens'] 24))
  have RDTokens := Lib.hid rdTokens
  have RDTokens' := Lib.hid rdTokens'
  have IHTokens := Lib.hid ihTokens
  clear h h' rdTokens rdTokens' ihTokens
  go_enter Tryd.func9, Tryd.ntmps9
  go_wp2_with fail
  refine (IHTokens.out _ _ _ (RDTokens.out.below HB0.out) (RDTokens'.out.below HB0.out)).mono ?_
  rintro e w1 ⟨rfl, hb⟩
  have HB1 := Lib.hid (HB0.out.trans (hb.mono HB0.out.size))
  have BK1 := Lib.hid (blk_below BK0.out hb)
  have BJ1 := Lib.hid (blk_below BJ0.out hb)
  clear hb
  have z1_0 := blk_cell BK1.out 0
  have z1_1 := blk_cell BK1.out 1
  have z1_2 := blk_cell BK1.out 2
  have z1_3 := blk_cell BK1.out 3
  have y1_0 := blk_cell BJ1.out 0
  have y1_1 := blk_cell BJ1.out 1
  have y1_2 := blk_cell BJ1.out 2
  have y1_3 := blk_cell BJ1.out 3
  simp at z1_0 z1_1 z1_2 z1_3 y1_0 y1_1 y1_2 y1_3
  go_wp2
  go_ret
  exact ⟨rfl, HB1.out⟩

end Go.Proofs.YtifmnijdaboenaaDoor
