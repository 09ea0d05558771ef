/- What the laws' own helpers do with BigResult,BigPair; no condition. -/
import Derived.Test.YtajmeeppigdjnaaHs
import Derived.Test.YtajmeeppigdjnaaProg
import Derived.Test.YtajmeeppigdjnaaFamBig
namespace Go.Proofs.Ytajmeeppigdjnaa
open Go.RowKit
set_option linter.unusedVariables false
set_option linter.unusedSimpArgs false

theorem openBigResult {iCode : Int} {bBigMinus : Bool} {xBigLimbs : List D} {w : World} {cs : List Value} (h : Rd w (.struct [.int .i64 iCode, .struct [.bool bBigMinus, .slice 1 xBigLimbs]]) cs) : ∃ (ABigLimbs : Option Addr) (cBigLimbs : Nat), cs = [.int .i64 iCode, .bool bBigMinus, .slice ABigLimbs xBigLimbs.length cBigLimbs] ∧ Rd w (D.struct [.bool bBigMinus, .slice 1 xBigLimbs]) [.bool bBigMinus, .slice ABigLimbs xBigLimbs.length cBigLimbs] := by
  rw [rd_struct] at h
  simp only [rdF_cons, rdF_nil, rd_int, rd_bool, rd_str] at h
  obtain ⟨e0, r0, rfl, rfl, e1, r1, rfl, hBig, rfl⟩ := h
  have kBig := hBig
  obtain ⟨ABigLimbs, cBigLimbs, rfl, _⟩ := openBig hBig
  exact ⟨ABigLimbs, cBigLimbs, by simp, kBig⟩

set_option maxRecDepth 100000 in
theorem eqBigResult_of (iCode : Int) (bBigMinus : Bool) (xBigLimbs : List D) (ihBig : EqA Try.prog 17 (D.struct [.bool bBigMinus, .slice 1 xBigLimbs])) : EqA Try.prog 31 (.struct [.int .i64 iCode, .struct [.bool bBigMinus, .slice 1 xBigLimbs]]) := by
  intro w cs cs' h h'
  obtain ⟨ABigLimbs, cBigLimbs, rfl, rdBig⟩ := openBigResult h
  obtain ⟨ABigLimbs', cBigLimbs', rfl, rdBig'⟩ := openBigResult h'
  have HB0 := Lib.hid (((Below.refl w.heap.size w).alloc (Nat.le_refl _) (.cells #[.int .i64 iCode, .bool bBigMinus, .slice ABigLimbs xBigLimbs.length cBigLimbs] 41)).alloc (by simp) (.cells #[.int .i64 iCode, .bool bBigMinus, .slice ABigLimbs' xBigLimbs.length cBigLimbs'] 41))
  have BK0 := Lib.hid (blk_old (blk_new w (.cells #[.int .i64 iCode, .bool bBigMinus, .slice ABigLimbs xBigLimbs.length cBigLimbs] 41)) (.cells #[.int .i64 iCode, .bool bBigMinus, .slice ABigLimbs' xBigLimbs.length cBigLimbs'] 41))
  have BJ0 := Lib.hid (blk_new (w.alloc (.cells #[.int .i64 iCode, .bool bBigMinus, .slice ABigLimbs xBigLimbs.length cBigLimbs] 41)) (.cells #[.int .i64 iCode, .bool bBigMinus, .slice ABigLimbs' xBigLimbs.length cBigLimbs'] 41))
  have RDBig := Lib.hid rdBig
  have RDBig' := Lib.hid rdBig'
  have IHBig := Lib.hid ihBig
  clear h h' rdBig rdBig' ihBig
  go_enter Try.func31, Try.ntmps31
  go_wp2_with fail
  refine (IHBig.out _ _ _ (RDBig.out.below HB0.out) (RDBig'.out.below HB0.out)).mono ?_
  rintro e w1 ⟨rfl, hb⟩
  have HB1 := Lib.hid (HB0.out.trans (hb.mono HB0.out.size))
  have BK1 := Lib.hid (blk_below BK0.out hb)
  have BJ1 := Lib.hid (blk_below BJ0.out hb)
  clear hb
  have z1_0 := blk_cell BK1.out 0
  have z1_1 := blk_cell BK1.out 1
  have z1_2 := blk_cell BK1.out 2
  have y1_0 := blk_cell BJ1.out 0
  have y1_1 := blk_cell BJ1.out 1
  have y1_2 := blk_cell BJ1.out 2
  simp at z1_0 z1_1 z1_2 y1_0 y1_1 y1_2
  go_wp2
  go_ret
  exact ⟨rfl, HB1.out⟩

theorem openBigPair {iCode : Int} {bQuotMinus : Bool} {xQuotLimbs : List D} {bRemMinus : Bool} {xRemLimbs : List D} {w : World} {cs : List Value} (h : Rd w (.struct [.int .i64 iCode, .struct [.bool bQuotMinus, .slice 1 xQuotLimbs], .struct [.bool bRemMinus, .slice 1 xRemLimbs]]) cs) : ∃ (AQuotLimbs : Option Addr) (cQuotLimbs : Nat) (ARemLimbs : Option Addr) (cRemLimbs : Nat), cs = [.int .i64 iCode, .bool bQuotMinus, .slice AQuotLimbs xQuotLimbs.length cQuotLimbs, .bool bRemMinus, .slice ARemLimbs xRemLimbs.length cRemLimbs] ∧ Rd w (D.struct [.bool bQuotMinus, .slice 1 xQuotLimbs]) [.bool bQuotMinus, .slice AQuotLimbs xQuotLimbs.length cQuotLimbs] ∧ Rd w (D.struct [.bool bRemMinus, .slice 1 xRemLimbs]) [.bool bRemMinus, .slice ARemLimbs xRemLimbs.length cRemLimbs] := by
  rw [rd_struct] at h
  simp only [rdF_cons, rdF_nil, rd_int, rd_bool, rd_str] at h
  obtain ⟨e0, r0, rfl, rfl, e1, r1, rfl, hQuot, e2, r2, rfl, hRem, rfl⟩ := h
  have kQuot := hQuot
  obtain ⟨AQuotLimbs, cQuotLimbs, rfl, _⟩ := openBig hQuot
  have kRem := hRem
  obtain ⟨ARemLimbs, cRemLimbs, rfl, _⟩ := openBig hRem
  exact ⟨AQuotLimbs, cQuotLimbs, ARemLimbs, cRemLimbs, by simp, kQuot, kRem⟩

set_option maxRecDepth 100000 in
theorem eqBigPair_of (iCode : Int) (bQuotMinus : Bool) (xQuotLimbs : List D) (bRemMinus : Bool) (xRemLimbs : List D) (ihQuot : EqA Try.prog 17 (D.struct [.bool bQuotMinus, .slice 1 xQuotLimbs])) (ihRem : EqA Try.prog 17 (D.struct [.bool bRemMinus, .slice 1 xRemLimbs])) : EqA Try.prog 42 (.struct [.int .i64 iCode, .struct [.bool bQuotMinus, .slice 1 xQuotLimbs], .struct [.bool bRemMinus, .slice 1 xRemLimbs]]) := by
  intro w cs cs' h h'
  obtain ⟨AQuotLimbs, cQuotLimbs, ARemLimbs, cRemLimbs, rfl, rdQuot, rdRem⟩ := openBigPair h
  obtain ⟨AQuotLimbs', cQuotLimbs', ARemLimbs', cRemLimbs', rfl, rdQuot', rdRem'⟩ := openBigPair h'
  have HB0 := Lib.hid (((Below.refl w.heap.size w).alloc (Nat.le_refl _) (.cells #[.int .i64 iCode, .bool bQuotMinus, .slice AQuotLimbs xQuotLimbs.length cQuotLimbs, .bool bRemMinus, .slice ARemLimbs xRemLimbs.length cRemLimbs] 48)).alloc (by simp) (.cells #[.int .i64 iCode, .bool bQuotMinus, .slice AQuotLimbs' xQuotLimbs.length cQuotLimbs', .bool bRemMinus, .slice ARemLimbs' xRemLimbs.length cRemLimbs'] 48))
  have BK0 := Lib.hid (blk_old (blk_new w (.cells #[.int .i64 iCode, .bool bQuotMinus, .slice AQuotLimbs xQuotLimbs.length cQuotLimbs, .bool bRemMinus, .slice ARemLimbs xRemLimbs.length cRemLimbs] 48)) (.cells #[.int .i64 iCode, .bool bQuotMinus, .slice AQuotLimbs' xQuotLimbs.length cQuotLimbs', .bool bRemMinus, .slice ARemLimbs' xRemLimbs.length cRemLimbs'] 48))
  have BJ0 := Lib.hid (blk_new (w.alloc (.cells #[.int .i64 iCode, .bool bQuotMinus, .slice AQuotLimbs xQuotLimbs.length cQuotLimbs, .bool bRemMinus, .slice ARemLimbs xRemLimbs.length cRemLimbs] 48)) (.cells #[.int .i64 iCode, .bool bQuotMinus, .slice AQuotLimbs' xQuotLimbs.length cQuotLimbs', .bool bRemMinus, .slice ARemLimbs' xRemLimbs.length cRemLimbs'] 48))
  have RDQuot := Lib.hid rdQuot
  have RDQuot' := Lib.hid rdQuot'
  have IHQuot := Lib.hid ihQuot
  have RDRem := Lib.hid rdRem
  have RDRem' := Lib.hid rdRem'
  have IHRem := Lib.hid ihRem
  clear h h' rdQuot rdQuot' ihQuot rdRem rdRem' ihRem
  go_enter Try.func42, Try.ntmps42
  go_wp2_with fail
  refine (IHQuot.out _ _ _ (RDQuot.out.below HB0.out) (RDQuot'.out.below HB0.out)).mono ?_
  rintro e w1 ⟨rfl, hb⟩
  have HB1 := Lib.hid (HB0.out.trans (hb.mono HB0.out.size))
  have BK1 := Lib.hid (blk_below BK0.out hb)
  have BJ1 := Lib.hid (blk_below BJ0.out hb)
  clear hb
  have z1_0 := blk_cell BK1.out 0
  have z1_1 := blk_cell BK1.out 1
  have z1_2 := blk_cell BK1.out 2
  have z1_3 := blk_cell BK1.out 3
  have z1_4 := blk_cell BK1.out 4
  have y1_0 := blk_cell BJ1.out 0
  have y1_1 := blk_cell BJ1.out 1
  have y1_2 := blk_cell BJ1.out 2
  have y1_3 := blk_cell BJ1.out 3
  have y1_4 := blk_cell BJ1.out 4
  simp at z1_0 z1_1 z1_2 z1_3 z1_4 y1_0 y1_1 y1_2 y1_3 y1_4
  go_wp2_with fail
  refine (IHRem.out _ _ _ (RDRem.out.below HB1.out) (RDRem'.out.below HB1.out)).mono ?_
  rintro e w2 ⟨rfl, hb⟩
  have HB2 := Lib.hid (HB1.out.trans (hb.mono HB1.out.size))
  have BK2 := Lib.hid (blk_below BK1.out hb)
  have BJ2 := Lib.hid (blk_below BJ1.out hb)
  clear hb
  have z2_0 := blk_cell BK2.out 0
  have z2_1 := blk_cell BK2.out 1
  have z2_2 := blk_cell BK2.out 2
  have z2_3 := blk_cell BK2.out 3
  have z2_4 := blk_cell BK2.out 4
  have y2_0 := blk_cell BJ2.out 0
  have y2_1 := blk_cell BJ2.out 1
  have y2_2 := blk_cell BJ2.out 2
  have y2_3 := blk_cell BJ2.out 3
  have y2_4 := blk_cell BJ2.out 4
  simp at z2_0 z2_1 z2_2 z2_3 z2_4 y2_0 y2_1 y2_2 y2_3 y2_4
  clear z1_0 y1_0 z1_1 y1_1 z1_2 y1_2 z1_3 y1_3 z1_4 y1_4
  go_wp2
  go_ret
  exact ⟨rfl, HB2.out⟩

end Go.Proofs.Ytajmeeppigdjnaa
