/- What the laws' helpers that mark and look for marks do with Scheme; no condition. -/
import Derived.Test.YtbbpkjcmbakfeaaHm
import Derived.Test.YtbbpkjcmbakfeaaHf
import Derived.Test.YtbbpkjcmbakfeaaProg
import Derived.Deep.RegionHeld3
namespace Go.Proofs.Ytbbpkjcmbakfeaa
open Go.RowKit
set_option linter.unusedVariables false
set_option linter.unusedSimpArgs false

set_option maxRecDepth 100000 in
theorem markScheme_of (iCount : Int) (xPreds : List D) (iTypeKind : Int) (iTypeId : Int) (sTypeName : ByteArray) (xTypeArgs : List D) (mkPreds : MkO Try.prog 43 (D.slice 2 xPreds)) (mkType : MkA Try.prog 18 (D.struct [.int .i64 iTypeKind, .int .i64 iTypeId, .str sTypeName, .slice 4 xTypeArgs])) : MkA Try.prog 24 (.struct [.int .i64 iCount, .slice 2 xPreds, .struct [.int .i64 iTypeKind, .int .i64 iTypeId, .str sTypeName, .slice 4 xTypeArgs]]) := by
  intro w cs fp k h hnd hl hk
  obtain ⟨u0, u1, u2, u3, u4, u5, rfl⟩ := cells6 (D.K_len _ h)
  have h0 := D.K_struct.1 h
  have hlt := D.Fields_lt _ h0
  have hb := (Below.refl w.heap.size w).alloc (Nat.le_refl _) (.cells #[u0, u1, u2, u3, u4, u5] 39)
  have hF := D.Fields_below h0 hb
  have BK := Lib.hid (blk_new w (.cells #[u0, u1, u2, u3, u4, u5] 39))
  have T0 := Lib.hid (TouchF.of_below (fp := fp) hb)
  have GN : Hid (w.heap.size ∉ fp) := fun hm => by have := hlt _ hm; omega
  have HL := Lib.hid hl
  have HND := Lib.hid hnd
  have HF := Lib.hid hF
  have TC : Hid (D.tcnt (.struct [.int .i64 iCount, .slice 2 xPreds, .struct [.int .i64 iTypeKind, .int .i64 iTypeId, .str sTypeName, .slice 4 xTypeArgs]]) = (D.slice 2 xPreds).tcnt + (D.struct [.int .i64 iTypeKind, .int .i64 iTypeId, .str sTypeName, .slice 4 xTypeArgs]).tcnt) := by show _ = _; simp only [D.tcnt, D.tcnts]; omega
  rw [TC.out] at hk
  clear h h0 hlt hb hF hl hnd
  have MKPreds := Lib.hid mkPreds
  clear mkPreds
  have MKType := Lib.hid mkType
  clear mkType
  go_enter Try.func24, Try.ntmps24
  go_wp2_with fail
  obtain ⟨g0, nd0, sub0, kk0, put0⟩ := D.Fields_at (ms := [(D.int .i64 iCount)]) (a := (D.slice 2 xPreds)) (rs := [(D.struct [.int .i64 iTypeKind, .int .i64 iTypeId, .str sTypeName, .slice 4 xTypeArgs])]) (n1 := 1) (n2 := 1) HF.out HND.out (by rfl) (by rfl)
  have CAL := MKPreds.out _ _ g0 (k) kk0 nd0 (fun j hj => T0.out.live j (sub0 j hj) (HL.out j (sub0 j hj))) (by omega)
  refine CAL.mono ?_
  clear CAL
  rintro e w1 ⟨rfl, kn, tn⟩
  have HF := Lib.hid (put0 _ _ tn kn)
  have T0 := Lib.hid (T0.out.trans (tn.mono sub0))
  have BK := Lib.hid (cells_touch BK.out tn (fun hm => GN.out (sub0 _ hm)))
  clear kn tn put0 kk0 nd0 sub0
  have z_0 := blk_cell BK.out 0
  have z_1 := blk_cell BK.out 1
  have z_2 := blk_cell BK.out 2
  have z_3 := blk_cell BK.out 3
  have z_4 := blk_cell BK.out 4
  have z_5 := blk_cell BK.out 5
  simp at z_0 z_1 z_2 z_3 z_4 z_5
  go_wp2_with fail
  obtain ⟨g1, nd1, sub1, kk1, put1⟩ := D.Fields_at (ms := [(D.int .i64 iCount), ((D.slice 2 xPreds).top (k))]) (a := (D.struct [.int .i64 iTypeKind, .int .i64 iTypeId, .str sTypeName, .slice 4 xTypeArgs])) (rs := []) (n1 := 2) (n2 := 4) HF.out HND.out (by rfl) (by rfl)
  have CAL := MKType.out _ [u2, u3, u4, u5] g1 (k + (D.slice 2 xPreds).tcnt) kk1 nd1 (fun j hj => T0.out.live j (sub1 j hj) (HL.out j (sub1 j hj))) (by omega)
  refine CAL.mono ?_
  clear CAL
  rintro e w2 ⟨rfl, kn, tn⟩
  have HF := Lib.hid (put1 _ _ tn kn)
  have T0 := Lib.hid (T0.out.trans (tn.mono sub1))
  have BK := Lib.hid (cells_touch BK.out tn (fun hm => GN.out (sub1 _ hm)))
  clear kn tn put1 kk1 nd1 sub1
  go_wp2
  go_ret
  exact ⟨ret_int (by rw [TC.out]; omega), D.K_struct.2 (by simpa only [D.tops, D.top, D.tcnt, D.tcnts, Nat.add_zero, Nat.zero_add, Nat.add_assoc, List.cons_append, List.nil_append] using HF.out), T0.out⟩

set_option maxRecDepth 100000 in
theorem heldScheme_of (iCount : Int) (xPreds : List D) (iTypeKind : Int) (iTypeId : Int) (sTypeName : ByteArray) (xTypeArgs : List D) (hdPreds : HdO Try.prog 75 (D.slice 2 xPreds)) (hdType : HdA Try.prog 30 (D.struct [.int .i64 iTypeKind, .int .i64 iTypeId, .str sTypeName, .slice 4 xTypeArgs])) : HdA Try.prog 25 (.struct [.int .i64 iCount, .slice 2 xPreds, .struct [.int .i64 iTypeKind, .int .i64 iTypeId, .str sTypeName, .slice 4 xTypeArgs]]) := by
  intro w cs k h hk
  obtain ⟨u0, u1, u2, u3, u4, u5, rfl⟩ := cells6 (show cs.length = 6 from h.len.trans (by simp only [D.top, D.tops, D.n, D.nAll]))
  have h0 := rd_struct.1 h
  have HB := Lib.hid ((Below.refl w.heap.size w).alloc (Nat.le_refl _) (.cells #[u0, u1, u2, u3, u4, u5] 39))
  have BK := Lib.hid (blk_new w (.cells #[u0, u1, u2, u3, u4, u5] 39))
  have TC : Hid (D.tcnt (.struct [.int .i64 iCount, .slice 2 xPreds, .struct [.int .i64 iTypeKind, .int .i64 iTypeId, .str sTypeName, .slice 4 xTypeArgs]]) = (D.slice 2 xPreds).tcnt + (D.struct [.int .i64 iTypeKind, .int .i64 iTypeId, .str sTypeName, .slice 4 xTypeArgs]).tcnt) := by show _ = _; simp only [D.tcnt, D.tcnts]; omega
  rw [TC.out] at hk
  have rPreds := RdF_at (ms := [(D.int .i64 iCount)]) (a := ((D.slice 2 xPreds).top (k))) (rs := [((D.struct [.int .i64 iTypeKind, .int .i64 iTypeId, .str sTypeName, .slice 4 xTypeArgs]).top (k + (D.slice 2 xPreds).tcnt))]) (n1 := 1) (n2 := 1) (by simpa only [D.tops, D.top, D.tcnt, D.tcnts, Nat.add_zero, Nat.zero_add, Nat.add_assoc, List.cons_append, List.nil_append] using h0) (by rfl) (by rfl)
  have RPreds := Lib.hid rPreds
  have HDPreds := Lib.hid hdPreds
  clear hdPreds rPreds
  have rType := RdF_at (ms := [(D.int .i64 iCount), ((D.slice 2 xPreds).top (k))]) (a := ((D.struct [.int .i64 iTypeKind, .int .i64 iTypeId, .str sTypeName, .slice 4 xTypeArgs]).top (k + (D.slice 2 xPreds).tcnt))) (rs := []) (n1 := 2) (n2 := 4) (by simpa only [D.tops, D.top, D.tcnt, D.tcnts, Nat.add_zero, Nat.zero_add, Nat.add_assoc, List.cons_append, List.nil_append] using h0) (by rfl) (by rfl)
  have RType := Lib.hid rType
  have HDType := Lib.hid hdType
  clear hdType rType
  clear h h0
  go_enter Try.func25, Try.ntmps25
  go_wp2_with fail
  have CAL := HDPreds.out _ _ (k) (RPreds.out.below HB.out) (by omega)
  refine CAL.mono ?_
  clear CAL
  rintro e w1 ⟨rfl, hb⟩
  have HB := Lib.hid (HB.out.trans (hb.mono HB.out.size))
  have BK := Lib.hid (blk_below BK.out hb)
  clear hb
  have hng : decide ((((k + (D.slice 2 xPreds).tcnt : Nat)) : Int) < 0) = false := decide_eq_false (by omega)
  have z_0 := blk_cell BK.out 0
  have z_1 := blk_cell BK.out 1
  have z_2 := blk_cell BK.out 2
  have z_3 := blk_cell BK.out 3
  have z_4 := blk_cell BK.out 4
  have z_5 := blk_cell BK.out 5
  simp at z_0 z_1 z_2 z_3 z_4 z_5
  go_wp2_with fail
  have CAL := HDType.out _ [u2, u3, u4, u5] (k + (D.slice 2 xPreds).tcnt) (RType.out.below HB.out) (by omega)
  refine CAL.mono ?_
  clear CAL
  rintro e w2 ⟨rfl, hb⟩
  have HB := Lib.hid (HB.out.trans (hb.mono HB.out.size))
  have BK := Lib.hid (blk_below BK.out hb)
  clear hb
  have hng : decide ((((k + (D.slice 2 xPreds).tcnt + (D.struct [.int .i64 iTypeKind, .int .i64 iTypeId, .str sTypeName, .slice 4 xTypeArgs]).tcnt : Nat)) : Int) < 0) = false := decide_eq_false (by omega)
  go_wp2
  go_ret
  exact ⟨ret_int (by rw [TC.out]; omega), HB.out⟩

end Go.Proofs.Ytbbpkjcmbakfeaa
