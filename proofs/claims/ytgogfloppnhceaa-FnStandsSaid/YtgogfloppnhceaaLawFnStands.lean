/- The law 'FnStands' walked; no condition. -/
import Derived.Test.YtgogfloppnhceaaDrawSt
import Derived.Test.YtgogfloppnhceaaStd
import Derived.Deep.RegionHeld3
import Derived.Deep.DeepCutAuto
namespace Go.Proofs.Ytgogfloppnhceaa
open Go.RowKit
set_option linter.unusedVariables false
set_option linter.unusedSimpArgs false

theorem outRd (w : World) (e : Int) (o x : ByteArray) (s : Int) : Rd w (outD e o x s) [.int .i64 e, .string o, .string x, .int .i64 s] := by
  rw [outD, rd_struct]
  exact rdF_cons.2 ⟨[_], _, rfl, rd_int.2 rfl, rdF_cons.2 ⟨[_], _, rfl, rd_str.2 rfl, rdF_cons.2 ⟨[_], _, rfl, rd_str.2 rfl, rdF_cons.2 ⟨[_], [], rfl, rd_int.2 rfl, rdF_nil.2 rfl⟩⟩⟩⟩
theorem callSpecSt (ae : Int) (ao ax : ByteArray) (ad be : Int) (bo bx : ByteArray) (bd : Int) (ha : ao.size ≤ 3) (hb : bo.size ≤ 3) (w : World) :
    Calls Try.prog 17 #[.agg #[.int .i64 ae, .string ao, .string ax, .int .i64 ad], .agg #[.int .i64 be, .string bo, .string bx, .int .i64 bd]] w fun e w' => e = .returned (.bool (St ae ao be bo)) ∧ Below w.heap.size w w' :=
  specStands ae ao ax ad be bo bx bd (by omega) (by omega) w _ _ (outRd w ae ao ax ad) (outRd w be bo bx bd)
theorem callImplSt (ae : Int) (ao ax : ByteArray) (ad be : Int) (bo bx : ByteArray) (bd : Int) (ha : ao.size ≤ 3) (hb : bo.size ≤ 3) (w : World) :
    Calls Try.prog 19 #[.agg #[.int .i64 ae, .string ao, .string ax, .int .i64 ad], .agg #[.int .i64 be, .string bo, .string bx, .int .i64 bd]] w fun e w' => e = .returned (.bool (St ae ao be bo)) ∧ Below w.heap.size w w' :=
  implStands ae ao ax ad be bo bx bd (by omega) (by omega) w _ _ (outRd w ae ao ax ad) (outRd w be bo bx bd)
theorem st_self (e : Int) (o : ByteArray) : St e o e o = true := by
  unfold St
  split
  · rfl
  · split
    · simp
    · split
      · rename_i h; simp; omega
      · simp [stPre_self]
theorem st_trans {ao : ByteArray} {be : Int} {bo : ByteArray} {ce : Int} {co : ByteArray} (h1 : St 0 ao be bo = true) (h2 : St be bo ce co = true) : St 0 ao ce co = true := by
  simp [St] at h1
  obtain ⟨rfl, hb⟩ := h1
  simp [St] at h2 ⊢
  exact ⟨h2.1, h2.2.trans hb⟩
theorem st_other (ao : ByteArray) : St 0 ao 0 (ao ++ ⟨#[120]⟩) = false := by
  simp [St]
  intro h
  have h2 : (ao ++ ⟨#[120]⟩ : ByteArray).size = ao.size := by
    rw [show (ao ++ ⟨#[120]⟩ : ByteArray).size = (ao ++ ⟨#[120]⟩ : ByteArray).toList.length by rw [ByteArray.toList_eq]; rfl, h, ByteArray.toList_eq]; rfl
  rw [ByteArray.size_append] at h2
  have : (⟨#[120]⟩ : ByteArray).size = 1 := rfl
  omega

set_option maxRecDepth 100000 in
set_option maxHeartbeats 1000000 in
theorem lawFnStands (l0 l1 : List Int) (hl0 : l0.length ≤ 140737488351232) (hl1 : l1.length ≤ 140737488351232) (hb0 : ∀ x ∈ l0, 0 ≤ x ∧ x ≤ 255) (hb1 : ∀ x ∈ l1, 0 ≤ x ∧ x ≤ 255) (w : World) (v0 v1 : Value) (r0 : Rd w (.slice 1 (u8s l0)) [v0]) (r1 : Rd w (.slice 1 (u8s l1)) [v1]) :
    Calls Try.prog 8 #[v0, v1] w fun e w' => e = .returned (.bool true) ∧ Below w.heap.size w w' := by
  obtain ⟨ae, ao, ax, ad, be, bo, bx, bd, ha, hb, D1⟩ := drawStands l0 hl0 hb0
  obtain ⟨xe, xo, xx, xd, ce, co, cx, cd, hx, hc, D2⟩ := drawStands l1 hl1 hb1
  have D1 := Lib.hid D1
  have D2 := Lib.hid D2
  have R0 := Lib.hid r0
  have R1 := Lib.hid r1
  obtain ⟨A0, k0, rfl, _, _, _⟩ := rd_slice1 r0
  obtain ⟨A1, k1, rfl, _, _, _⟩ := rd_slice1 r1
  rw [u8s_length] at R0 R1 ⊢
  rw [u8s_length] at *
  clear hb0 hb1 r0 r1
  by_cases h0 : l0.length ≤ 1048576
  rotate_left
  · have h0' : 1048576 < l0.length := by omega
    clear h0
    go_enter Try.func8, Try.ntmps8
    go_wp2
    go_ret
    exact ⟨rfl, Below.refl _ _⟩
  by_cases h1 : l1.length ≤ 1048576
  rotate_left
  · have h1' : 1048576 < l1.length := by omega
    clear h1
    go_enter Try.func8, Try.ntmps8
    go_wp2
    go_ret
    exact ⟨rfl, Below.refl _ _⟩
  go_enter Try.func8, Try.ntmps8
  go_wp2_with fail
  refine (D1.out _ _ R0.out).mono ?_
  rintro e w1 ⟨rfl, hb1⟩
  have HB := Lib.hid hb1
  clear hb1 D1
  go_wp2_with fail
  refine (D2.out _ _ (R1.out.below ((HB.out.alloc HB.out.size _).alloc (by simp; have := HB.out.size; omega) _))).mono ?_
  rintro e w2 ⟨rfl, hb2⟩
  have hs1 := HB.out.size
  have BKa := Lib.hid (blk_below (blk_old (blk_new w1 (.cells #[.int .i64 ae, .string ao, .string ax, .int .i64 ad] 29)) (.cells #[.int .i64 be, .string bo, .string bx, .int .i64 bd] 29)) hb2)
  have BKb : Hid (w2.heap[w1.heap.size + 1]? = some (.cells #[.int .i64 be, .string bo, .string bx, .int .i64 bd] 29)) := blk_below (by simpa using blk_new (w1.alloc (.cells #[.int .i64 ae, .string ao, .string ax, .int .i64 ad] 29)) (.cells #[.int .i64 be, .string bo, .string bx, .int .i64 bd] 29)) hb2
  have HB2 : Hid (Below w.heap.size w w2) := ((HB.out.alloc HB.out.size _).alloc (by simp; omega) _).trans (hb2.mono (by simp; omega))
  clear hb2 D2 HB
  have HB := HB2
  clear HB2
  go_wp2_with fail
  have BKa := Lib.hid (blk_old (blk_old BKa.out (.cells #[.int .i64 xe, .string xo, .string xx, .int .i64 xd] 29)) (.cells #[.int .i64 ce, .string co, .string cx, .int .i64 cd] 29))
  have BKb := Lib.hid (blk_old (blk_old BKb.out (.cells #[.int .i64 xe, .string xo, .string xx, .int .i64 xd] 29)) (.cells #[.int .i64 ce, .string co, .string cx, .int .i64 cd] 29))
  have BKc : Hid (((w2.alloc (.cells #[.int .i64 xe, .string xo, .string xx, .int .i64 xd] 29)).alloc (.cells #[.int .i64 ce, .string co, .string cx, .int .i64 cd] 29)).heap[w2.heap.size + 1]? = some (.cells #[.int .i64 ce, .string co, .string cx, .int .i64 cd] 29)) := by
    have hq := blk_new (w2.alloc (.cells #[.int .i64 xe, .string xo, .string xx, .int .i64 xd] 29)) (.cells #[.int .i64 ce, .string co, .string cx, .int .i64 cd] 29)
    rw [World.size_alloc] at hq
    exact hq
  have HB : Hid (Below w.heap.size w ((w2.alloc (.cells #[.int .i64 xe, .string xo, .string xx, .int .i64 xd] 29)).alloc (.cells #[.int .i64 ce, .string co, .string cx, .int .i64 cd] 29))) := (HB.out.alloc HB.out.size _).alloc (by have := HB.out.size; simp; omega) _
  generalize hW3 : (w2.alloc (.cells #[.int .i64 xe, .string xo, .string xx, .int .i64 xd] 29)).alloc (.cells #[.int .i64 ce, .string co, .string cx, .int .i64 cd] 29) = w3 at *
  clear hW3 hs1
  generalize hga : w1.heap.size = ga at *
  generalize hgb : ga + 1 = gb at *
  generalize hgx : w2.heap.size = gx at *
  generalize hgc : gx + 1 = gc at *
  clear hga hgb hgx hgc
  have AA : Hid (∀ w, Calls Try.prog 19 #[.agg #[.int .i64 ae, .string ao, .string ax, .int .i64 ad], .agg #[.int .i64 ae, .string ao, .string ax, .int .i64 ad]] w fun e w' => e = .returned (.bool true) ∧ Below w.heap.size w w') := fun w => by rw [← st_self ae ao]; exact callImplSt _ _ _ _ _ _ _ _ (by omega) (by omega) w
  have BB : Hid (∀ w, Calls Try.prog 19 #[.agg #[.int .i64 be, .string bo, .string bx, .int .i64 bd], .agg #[.int .i64 be, .string bo, .string bx, .int .i64 bd]] w fun e w' => e = .returned (.bool true) ∧ Below w.heap.size w w') := fun w => by rw [← st_self be bo]; exact callImplSt _ _ _ _ _ _ _ _ (by omega) (by omega) w
  have AB := Lib.hid (callImplSt ae ao ax ad be bo bx bd (by omega) (by omega))
  have SAB := Lib.hid (callSpecSt ae ao ax ad be bo bx bd (by omega) (by omega))
  have BC := Lib.hid (callImplSt be bo bx bd ce co cx cd (by omega) (by omega))
  have AC := Lib.hid (callImplSt ae ao ax ad ce co cx cd (by omega) (by omega))
  have TR : Hid (ae = 0 → St ae ao be bo = true → St be bo ce co = true → St ae ao ce co = true) := fun h h1 h2 => by subst h; exact st_trans h1 h2
  generalize St ae ao be bo = q1 at *
  generalize St be bo ce co = q2 at *
  generalize St ae ao ce co = q3 at *
  have za0 := blk_cell BKa.out 0
  have za1 := blk_cell BKa.out 1
  have za2 := blk_cell BKa.out 2
  have za3 := blk_cell BKa.out 3
  have zb0 := blk_cell BKb.out 0
  have zb1 := blk_cell BKb.out 1
  have zb2 := blk_cell BKb.out 2
  have zb3 := blk_cell BKb.out 3
  have zc0 := blk_cell BKc.out 0
  have zc1 := blk_cell BKc.out 1
  have zc2 := blk_cell BKc.out 2
  have zc3 := blk_cell BKc.out 3
  simp at za0 za1 za2 za3 zb0 zb1 zb2 zb3 zc0 zc1 zc2 zc3
  go_region_held3 (fun w' => w'.cell? ⟨ga, 0, none⟩ = some (.int .i64 ae) ∧ w'.cell? ⟨ga, 1, none⟩ = some (.string ao) ∧ w'.cell? ⟨ga, 2, none⟩ = some (.string ax) ∧ w'.cell? ⟨ga, 3, none⟩ = some (.int .i64 ad) ∧ w'.cell? ⟨gb, 0, none⟩ = some (.int .i64 be) ∧ w'.cell? ⟨gb, 1, none⟩ = some (.string bo) ∧ w'.cell? ⟨gb, 2, none⟩ = some (.string bx) ∧ w'.cell? ⟨gb, 3, none⟩ = some (.int .i64 bd))
    (first | exact ⟨za0, za1, za2, za3, zb0, zb1, zb2, zb3⟩ | exact ⟨by simpa using blk_cell BKa.out 0, by simpa using blk_cell BKa.out 1, by simpa using blk_cell BKa.out 2, by simpa using blk_cell BKa.out 3, by simpa using blk_cell BKb.out 0, by simpa using blk_cell BKb.out 1, by simpa using blk_cell BKb.out 2, by simpa using blk_cell BKb.out 3⟩)
    (first
      | (go_at_call 19; have HB := Lib.hid HB.out.drew; have BKa := Lib.hid (blk_drew BKa.out); have BKb := Lib.hid (blk_drew BKb.out); have BKc := Lib.hid (blk_drew BKc.out); (with_reducible refine (AA.out _).mono ?_); rintro e w4 ⟨rfl, hb⟩; have BKa := Lib.hid (blk_below BKa.out hb); have BKb := Lib.hid (blk_below BKb.out hb); have BKc := Lib.hid (blk_below BKc.out hb); have HB := Lib.hid (HB.out.trans (hb.mono HB.out.size)); clear hb)
      | (go_at_call 19; (with_reducible refine (BB.out _).mono ?_); rintro e w5 ⟨rfl, hb⟩; have BKa := Lib.hid (blk_below BKa.out hb); have BKb := Lib.hid (blk_below BKb.out hb); have BKc := Lib.hid (blk_below BKc.out hb); have HB := Lib.hid (HB.out.trans (hb.mono HB.out.size)); clear hb)
      | (go_at_call 19; (with_reducible refine (AB.out _).mono ?_); rintro e w6 ⟨rfl, hb⟩; have BKa := Lib.hid (blk_below BKa.out hb); have BKb := Lib.hid (blk_below BKb.out hb); have BKc := Lib.hid (blk_below BKc.out hb); have HB := Lib.hid (HB.out.trans (hb.mono HB.out.size)); clear hb)
      | (go_at_call 17; (with_reducible refine (SAB.out _).mono ?_); rintro e w7 ⟨rfl, hb⟩; have BKa := Lib.hid (blk_below BKa.out hb); have BKb := Lib.hid (blk_below BKb.out hb); have BKc := Lib.hid (blk_below BKc.out hb); have HB := Lib.hid (HB.out.trans (hb.mono HB.out.size)); clear hb))
  clear za0 za1 za2 za3 zb0 zb1 zb2 zb3 zc0 zc1 zc2 zc3
  have za0 := blk_cell BKa.out 0
  have za1 := blk_cell BKa.out 1
  have za2 := blk_cell BKa.out 2
  have za3 := blk_cell BKa.out 3
  have zb0 := blk_cell BKb.out 0
  have zb1 := blk_cell BKb.out 1
  have zb2 := blk_cell BKb.out 2
  have zb3 := blk_cell BKb.out 3
  have zc0 := blk_cell BKc.out 0
  have zc1 := blk_cell BKc.out 1
  have zc2 := blk_cell BKc.out 2
  have zc3 := blk_cell BKc.out 3
  simp at za0 za1 za2 za3 zb0 zb1 zb2 zb3 zc0 zc1 zc2 zc3
  cases hae : (ae != 0)
  rotate_left
  · go_wp2
    go_ret
    exact ⟨rfl, HB.out⟩
  have hae0 : ae = 0 := by simpa using hae
  subst hae0
  have OT : Hid (∀ w, Calls Try.prog 19 #[.agg #[.int .i64 0, .string ao, .string ax, .int .i64 ad], .agg #[.int .i64 0, .string (ao ++ ⟨#[120]⟩), .string ax, .int .i64 ad]] w fun e w' => e = .returned (.bool false) ∧ Below w.heap.size w w') := fun w => by
    rw [← st_other ao]
    exact callImplSt _ _ _ _ _ _ _ _ (by omega) (by rw [ByteArray.size_append]; show ao.size + 1 ≤ 3; omega) w
  cases q1 with
  | false =>
    go_wp2_with fail
    refine (AB.out _).mono ?_
    rintro e w10 ⟨rfl, hb⟩
    have BKa := Lib.hid (blk_below BKa.out hb)
    have BKb := Lib.hid (blk_below BKb.out hb)
    have BKc := Lib.hid (blk_below BKc.out hb)
    have HB := Lib.hid (HB.out.trans (hb.mono HB.out.size))
    clear hb
    clear za0 za1 za2 za3 zb0 zb1 zb2 zb3 zc0 zc1 zc2 zc3
    have za0 := blk_cell BKa.out 0
    have za1 := blk_cell BKa.out 1
    have za2 := blk_cell BKa.out 2
    have za3 := blk_cell BKa.out 3
    have zb0 := blk_cell BKb.out 0
    have zb1 := blk_cell BKb.out 1
    have zb2 := blk_cell BKb.out 2
    have zb3 := blk_cell BKb.out 3
    have zc0 := blk_cell BKc.out 0
    have zc1 := blk_cell BKc.out 1
    have zc2 := blk_cell BKc.out 2
    have zc3 := blk_cell BKc.out 3
    simp at za0 za1 za2 za3 zb0 zb1 zb2 zb3 zc0 zc1 zc2 zc3
    have p0 := blk_cell (blk_old BKa.out (.cells #[.int .i64 0, .string ao, .string ax, .int .i64 ad] 29)) 0
    have p1 := blk_cell (blk_old BKa.out (.cells #[.int .i64 0, .string ao, .string ax, .int .i64 ad] 29)) 1
    have p2 := blk_cell (blk_old BKa.out (.cells #[.int .i64 0, .string ao, .string ax, .int .i64 ad] 29)) 2
    have p3 := blk_cell (blk_old BKa.out (.cells #[.int .i64 0, .string ao, .string ax, .int .i64 ad] 29)) 3
    have q0 := blk_cell (blk_old BKa.out (.cells #[.int .i64 0, .string (ao ++ ⟨#[120]⟩), .string ax, .int .i64 ad] 29)) 0
    have q1 := blk_cell (blk_old BKa.out (.cells #[.int .i64 0, .string (ao ++ ⟨#[120]⟩), .string ax, .int .i64 ad] 29)) 1
    have q2 := blk_cell (blk_old BKa.out (.cells #[.int .i64 0, .string (ao ++ ⟨#[120]⟩), .string ax, .int .i64 ad] 29)) 2
    have q3 := blk_cell (blk_old BKa.out (.cells #[.int .i64 0, .string (ao ++ ⟨#[120]⟩), .string ax, .int .i64 ad] 29)) 3
    simp at p0 p1 p2 p3 q0 q1 q2 q3
    go_wp2_with fail
    refine (OT.out _).mono ?_
    rintro e w20 ⟨rfl, hb⟩
    have HB := Lib.hid ((HB.out.alloc HB.out.size _).trans (hb.mono (by have := HB.out.size; simp; omega)))
    clear hb
    go_wp2
    go_ret
    exact ⟨rfl, HB.out⟩
  | true =>
    cases q2 with
    | false =>
      go_wp2_with fail
      refine (AB.out _).mono ?_
      rintro e w10 ⟨rfl, hb⟩
      have BKa := Lib.hid (blk_below BKa.out hb)
      have BKb := Lib.hid (blk_below BKb.out hb)
      have BKc := Lib.hid (blk_below BKc.out hb)
      have HB := Lib.hid (HB.out.trans (hb.mono HB.out.size))
      clear hb
      clear za0 za1 za2 za3 zb0 zb1 zb2 zb3 zc0 zc1 zc2 zc3
      have za0 := blk_cell BKa.out 0
      have za1 := blk_cell BKa.out 1
      have za2 := blk_cell BKa.out 2
      have za3 := blk_cell BKa.out 3
      have zb0 := blk_cell BKb.out 0
      have zb1 := blk_cell BKb.out 1
      have zb2 := blk_cell BKb.out 2
      have zb3 := blk_cell BKb.out 3
      have zc0 := blk_cell BKc.out 0
      have zc1 := blk_cell BKc.out 1
      have zc2 := blk_cell BKc.out 2
      have zc3 := blk_cell BKc.out 3
      simp at za0 za1 za2 za3 zb0 zb1 zb2 zb3 zc0 zc1 zc2 zc3
      go_wp2_with fail
      refine (BC.out _).mono ?_
      rintro e w11 ⟨rfl, hb⟩
      have BKa := Lib.hid (blk_below BKa.out hb)
      have BKb := Lib.hid (blk_below BKb.out hb)
      have BKc := Lib.hid (blk_below BKc.out hb)
      have HB := Lib.hid (HB.out.trans (hb.mono HB.out.size))
      clear hb
      clear za0 za1 za2 za3 zb0 zb1 zb2 zb3 zc0 zc1 zc2 zc3
      have za0 := blk_cell BKa.out 0
      have za1 := blk_cell BKa.out 1
      have za2 := blk_cell BKa.out 2
      have za3 := blk_cell BKa.out 3
      have zb0 := blk_cell BKb.out 0
      have zb1 := blk_cell BKb.out 1
      have zb2 := blk_cell BKb.out 2
      have zb3 := blk_cell BKb.out 3
      have zc0 := blk_cell BKc.out 0
      have zc1 := blk_cell BKc.out 1
      have zc2 := blk_cell BKc.out 2
      have zc3 := blk_cell BKc.out 3
      simp at za0 za1 za2 za3 zb0 zb1 zb2 zb3 zc0 zc1 zc2 zc3
      have p0 := blk_cell (blk_old BKa.out (.cells #[.int .i64 0, .string ao, .string ax, .int .i64 ad] 29)) 0
      have p1 := blk_cell (blk_old BKa.out (.cells #[.int .i64 0, .string ao, .string ax, .int .i64 ad] 29)) 1
      have p2 := blk_cell (blk_old BKa.out (.cells #[.int .i64 0, .string ao, .string ax, .int .i64 ad] 29)) 2
      have p3 := blk_cell (blk_old BKa.out (.cells #[.int .i64 0, .string ao, .string ax, .int .i64 ad] 29)) 3
      have q0 := blk_cell (blk_old BKa.out (.cells #[.int .i64 0, .string (ao ++ ⟨#[120]⟩), .string ax, .int .i64 ad] 29)) 0
      have q1 := blk_cell (blk_old BKa.out (.cells #[.int .i64 0, .string (ao ++ ⟨#[120]⟩), .string ax, .int .i64 ad] 29)) 1
      have q2 := blk_cell (blk_old BKa.out (.cells #[.int .i64 0, .string (ao ++ ⟨#[120]⟩), .string ax, .int .i64 ad] 29)) 2
      have q3 := blk_cell (blk_old BKa.out (.cells #[.int .i64 0, .string (ao ++ ⟨#[120]⟩), .string ax, .int .i64 ad] 29)) 3
      simp at p0 p1 p2 p3 q0 q1 q2 q3
      go_wp2_with fail
      refine (OT.out _).mono ?_
      rintro e w20 ⟨rfl, hb⟩
      have HB := Lib.hid ((HB.out.alloc HB.out.size _).trans (hb.mono (by have := HB.out.size; simp; omega)))
      clear hb
      go_wp2
      go_ret
      exact ⟨rfl, HB.out⟩
    | true =>
      have hq3 : q3 = true := TR.out rfl rfl rfl
      subst hq3
      go_wp2_with fail
      refine (AB.out _).mono ?_
      rintro e w10 ⟨rfl, hb⟩
      have BKa := Lib.hid (blk_below BKa.out hb)
      have BKb := Lib.hid (blk_below BKb.out hb)
      have BKc := Lib.hid (blk_below BKc.out hb)
      have HB := Lib.hid (HB.out.trans (hb.mono HB.out.size))
      clear hb
      clear za0 za1 za2 za3 zb0 zb1 zb2 zb3 zc0 zc1 zc2 zc3
      have za0 := blk_cell BKa.out 0
      have za1 := blk_cell BKa.out 1
      have za2 := blk_cell BKa.out 2
      have za3 := blk_cell BKa.out 3
      have zb0 := blk_cell BKb.out 0
      have zb1 := blk_cell BKb.out 1
      have zb2 := blk_cell BKb.out 2
      have zb3 := blk_cell BKb.out 3
      have zc0 := blk_cell BKc.out 0
      have zc1 := blk_cell BKc.out 1
      have zc2 := blk_cell BKc.out 2
      have zc3 := blk_cell BKc.out 3
      simp at za0 za1 za2 za3 zb0 zb1 zb2 zb3 zc0 zc1 zc2 zc3
      go_wp2_with fail
      refine (BC.out _).mono ?_
      rintro e w11 ⟨rfl, hb⟩
      have BKa := Lib.hid (blk_below BKa.out hb)
      have BKb := Lib.hid (blk_below BKb.out hb)
      have BKc := Lib.hid (blk_below BKc.out hb)
      have HB := Lib.hid (HB.out.trans (hb.mono HB.out.size))
      clear hb
      clear za0 za1 za2 za3 zb0 zb1 zb2 zb3 zc0 zc1 zc2 zc3
      have za0 := blk_cell BKa.out 0
      have za1 := blk_cell BKa.out 1
      have za2 := blk_cell BKa.out 2
      have za3 := blk_cell BKa.out 3
      have zb0 := blk_cell BKb.out 0
      have zb1 := blk_cell BKb.out 1
      have zb2 := blk_cell BKb.out 2
      have zb3 := blk_cell BKb.out 3
      have zc0 := blk_cell BKc.out 0
      have zc1 := blk_cell BKc.out 1
      have zc2 := blk_cell BKc.out 2
      have zc3 := blk_cell BKc.out 3
      simp at za0 za1 za2 za3 zb0 zb1 zb2 zb3 zc0 zc1 zc2 zc3
      go_wp2_with fail
      refine (AC.out _).mono ?_
      rintro e w12 ⟨rfl, hb⟩
      have BKa := Lib.hid (blk_below BKa.out hb)
      have BKb := Lib.hid (blk_below BKb.out hb)
      have BKc := Lib.hid (blk_below BKc.out hb)
      have HB := Lib.hid (HB.out.trans (hb.mono HB.out.size))
      clear hb
      clear za0 za1 za2 za3 zb0 zb1 zb2 zb3 zc0 zc1 zc2 zc3
      have za0 := blk_cell BKa.out 0
      have za1 := blk_cell BKa.out 1
      have za2 := blk_cell BKa.out 2
      have za3 := blk_cell BKa.out 3
      have zb0 := blk_cell BKb.out 0
      have zb1 := blk_cell BKb.out 1
      have zb2 := blk_cell BKb.out 2
      have zb3 := blk_cell BKb.out 3
      have zc0 := blk_cell BKc.out 0
      have zc1 := blk_cell BKc.out 1
      have zc2 := blk_cell BKc.out 2
      have zc3 := blk_cell BKc.out 3
      simp at za0 za1 za2 za3 zb0 zb1 zb2 zb3 zc0 zc1 zc2 zc3
      have p0 := blk_cell (blk_old BKa.out (.cells #[.int .i64 0, .string ao, .string ax, .int .i64 ad] 29)) 0
      have p1 := blk_cell (blk_old BKa.out (.cells #[.int .i64 0, .string ao, .string ax, .int .i64 ad] 29)) 1
      have p2 := blk_cell (blk_old BKa.out (.cells #[.int .i64 0, .string ao, .string ax, .int .i64 ad] 29)) 2
      have p3 := blk_cell (blk_old BKa.out (.cells #[.int .i64 0, .string ao, .string ax, .int .i64 ad] 29)) 3
      have q0 := blk_cell (blk_old BKa.out (.cells #[.int .i64 0, .string (ao ++ ⟨#[120]⟩), .string ax, .int .i64 ad] 29)) 0
      have q1 := blk_cell (blk_old BKa.out (.cells #[.int .i64 0, .string (ao ++ ⟨#[120]⟩), .string ax, .int .i64 ad] 29)) 1
      have q2 := blk_cell (blk_old BKa.out (.cells #[.int .i64 0, .string (ao ++ ⟨#[120]⟩), .string ax, .int .i64 ad] 29)) 2
      have q3 := blk_cell (blk_old BKa.out (.cells #[.int .i64 0, .string (ao ++ ⟨#[120]⟩), .string ax, .int .i64 ad] 29)) 3
      simp at p0 p1 p2 p3 q0 q1 q2 q3
      go_wp2_with fail
      refine (OT.out _).mono ?_
      rintro e w20 ⟨rfl, hb⟩
      have HB := Lib.hid ((HB.out.alloc HB.out.size _).trans (hb.mono (by have := HB.out.size; simp; omega)))
      clear hb
      go_wp2
      go_ret
      exact ⟨rfl, HB.out⟩

end Go.Proofs.Ytgogfloppnhceaa
