/- The program's copy of a type; no condition. -/
import Derived.Test.YtifmnijdaboenaaCpy
namespace Go.Proofs.Ytifmnijdaboenaa
open Go.RowKit
set_option linter.unusedVariables false
set_option linter.unusedSimpArgs false

def ImplCop (x : Ty) : Prop := ∀ (w : World) (cs : List Value), Rd w x.enc cs →
  Calls Try.prog 91 #[.agg cs.toArray] w fun e w' => ∃ cs', e = .returned (.agg cs'.toArray) ∧ Fr w.heap.size w' x.cop.enc cs' ∧ Below w.heap.size w w'
set_option maxRecDepth 100000 in
set_option maxHeartbeats 4000000 in
theorem ImplCop_of (k d : Int) (n : ByteArray) (ks : List Ty) (hn : ks.length ≤ 1048576) (ih : ∀ x ∈ ks, ImplCop x) : ImplCop (.mk k d n ks) := by
  intro w cs h
  obtain ⟨A, c, rfl, _, _, h4⟩ := Ty.open_ h
  have IH := Lib.hid ih
  have H4 := Lib.hid h4
  rw [Ty.cop]
  clear h h4 ih
  have BD0 : Hid (Bd w #[.int .i64 k, .int .i64 d, .string n, .slice A ks.length c] k d n (.slice none 0 0) [] (((w.alloc (.cells #[.int .i64 k, .int .i64 d, .string n, .slice A ks.length c] 97)).alloc (.cells #[.int .i64 0, .int .i64 0, .string ⟨#[]⟩, .slice none 0 0] 97)).alloc (.cells #[.int .i64 k, .int .i64 d, .string n, .slice none 0 0] 97))) :=
    ⟨((below_alloc1 _ _).alloc (by simp) _).alloc (by simp; omega) _, blk_old (blk_old (blk_new _ _) _) _, blk_old (blk_new_g (by simp)) _, blk_new_g (by simp), Grow.nil _ _ _ _, by simp⟩
  go_enter Try.func91, Try.ntmps91
  go_wp2_with fail
  generalize hW : (((w.alloc (.cells #[.int .i64 k, .int .i64 d, .string n, .slice A ks.length c] 97)).alloc (.cells #[.int .i64 0, .int .i64 0, .string ⟨#[]⟩, .slice none 0 0] 97)).alloc (.cells #[.int .i64 k, .int .i64 d, .string n, .slice none 0 0] 97)) = W at *
  clear hW
  go_loopw [16] (fun i wr => ∃ j : Nat, j ≤ ks.length ∧ i = .int .i64 j ∧ Hid (∃ v, Bd w #[.int .i64 k, .int .i64 d, .string n, .slice A ks.length c] k d n v (Ty.encs (Ty.cops (ks.take j))) wr)) (fun i _ => ks.length - (intOf i).toNat)
  case atStart => exact ⟨0, Nat.zero_le _, rfl, Lib.hid ⟨_, by simpa [Ty.cops, Ty.encs] using BD0.out⟩⟩
  case round =>
    obtain ⟨j, hj, rfl, hrel⟩ := hrel
    obtain ⟨v, hbd⟩ := hrel.out
    have BD := Lib.hid hbd
    have z3 := blk_cell hbd.box 3
    have y3 := blk_cell hbd.out 3
    simp at z3 y3
    have y3 : wr.cell? ⟨w.heap.size + 1 + 1, 3, none⟩ = some v := y3
    clear hrel hbd
    by_cases hlt : j < ks.length
    · obtain ⟨b, off, es, rfl, hcl, hrd, hc⟩ := H4.out.get (i := j) (x := ks[j].enc) (by simp [Ty.encs_map, List.getElem?_eq_getElem hlt])
      have hes : ∃ (k' d' : Int) (n' : ByteArray) (A' : Option Addr) (l' c' : Nat), es = [.int .i64 k', .int .i64 d', .string n', .slice A' l' c'] := by
        generalize ks[j] = y at hrd
        cases y with
        | mk k' d' n' ks' =>
          obtain ⟨A', c', rfl, _⟩ := Ty.open_ hrd
          exact ⟨_, _, _, _, _, _, rfl⟩
      obtain ⟨k', d', n', A1, l1, c1, rfl⟩ := hes
      have e0 : wr.cell? ⟨b, off + j * 4, none⟩ = some (.int .i64 k') := cell_below BD.out.below (by simpa using hc 0 _ rfl)
      have e1 : wr.cell? ⟨b, off + j * 4 + 1, none⟩ = some (.int .i64 d') := cell_below BD.out.below (hc 1 _ rfl)
      have e2 : wr.cell? ⟨b, off + j * 4 + 2, none⟩ = some (.string n') := cell_below BD.out.below (hc 2 _ rfl)
      have e3 : wr.cell? ⟨b, off + j * 4 + 3, none⟩ = some (.slice A1 l1 c1) := cell_below BD.out.below (hc 3 _ rfl)
      have AX := Lib.hid (below_alloc1 wr (.cells #[.int .i64 k', .int .i64 d', .string n', .slice A1 l1 c1] 97))
      have RD := Lib.hid ((hrd.below BD.out.below).below AX.out)
      have BX := Lib.hid (BD.out.more AX.out)
      have SX := Lib.hid (blk_new wr (.cells #[.int .i64 k', .int .i64 d', .string n', .slice A1 l1 c1] 97))
      have IHJ := Lib.hid (IH.out _ (List.getElem_mem hlt))
      have TK := Lib.hid (show Ty.encs (Ty.cops (ks.take (j + 1))) = Ty.encs (Ty.cops (ks.take j)) ++ [(ks[j].cop).enc] by rw [Ty.cops_map, Ty.cops_map, map_take_snoc _ hlt, Ty.encs_snoc])
      have LN := Lib.hid (show (Ty.encs (Ty.cops (ks.take j))).length = j by rw [Ty.encs_length, Ty.cops_map, List.length_map, List.length_take]; omega)
      have LN1 := Lib.hid (show (Ty.encs (Ty.cops (ks.take j)) ++ [(ks[j].cop).enc]).length = j + 1 by rw [List.length_append, LN.out]; rfl)
      obtain ⟨i0, hi, hz0, hz1, hz2⟩ := info_parts infoTyp
      have i1 : (0 : Int) ≤ (j : Int) := Int.natCast_nonneg _
      have i2 : (j : Int) < (ks.length : Int) := by omega
      clear hrd hc hcl
      go_wp2_with fail
      generalize hwx : wr.alloc (.cells #[.int .i64 k', .int .i64 d', .string n', .slice A1 l1 c1] 97) = wx at *
      have x0 : wx.cell? ⟨wr.heap.size, 0, none⟩ = some (.int .i64 k') := (blk_cell SX.out 0).trans rfl
      have x1 : wx.cell? ⟨wr.heap.size, 1, none⟩ = some (.int .i64 d') := (blk_cell SX.out 1).trans rfl
      have x2 : wx.cell? ⟨wr.heap.size, 2, none⟩ = some (.string n') := (blk_cell SX.out 2).trans rfl
      have x3' : wx.cell? ⟨wr.heap.size, 3, none⟩ = some (.slice A1 l1 c1) := (blk_cell SX.out 3).trans rfl
      have y3x : wx.cell? ⟨w.heap.size + 1 + 1, 3, none⟩ = some v := (blk_cell BX.out.out 3).trans rfl
      clear hwx AX SX e0 e1 e2 e3
      go_region_law (first
          | (go_simp; go_at_call 91; have CT := IHJ.out wx.drew _ (RD.out.below (Below.refl _ _).drew); (with_reducible refine CT.mono ?_); clear CT; rintro e w1 ⟨cs', rfl, hfr, hb⟩; obtain ⟨t0, t1, t2, t3, rfl⟩ := cells4 (hfr.len.trans (Ty.n _)); have BW1 := Lib.hid ((Below.refl wx.heap.size wx).drew.trans hb); have FR := Lib.hid hfr; have BW2 := Lib.hid (BW1.out.alloc BW1.out.size (.cells #[t0, t1, t2, t3] 97)); have AL := Lib.hid (below_alloc1 w1 (.cells #[t0, t1, t2, t3] 97)); have CA := Lib.hid (cellsAt_new w1 [t0, t1, t2, t3] 97); have D1 := Lib.hid (BX.out.more BW1.out); have D2 := Lib.hid (BX.out.more BW2.out); have y3 : World.cell? _ ⟨w.heap.size + 1 + 1, 3, none⟩ = some v := (blk_cell D1.out.out 3).trans rfl; have y3b : World.cell? _ ⟨w.heap.size + 1 + 1, 3, none⟩ = some v := (blk_cell D2.out.out 3).trans rfl; clear hfr hb)
          | (refine step_push rfl _ _ 61 rfl (w.heap.size + 3) 97 i0 (.agg #[.int .i64 0, .int .i64 0, .string ⟨#[]⟩, .slice none 0 0]) 4 56 Try.underlying61 hi hz0 hz1 hz2 rfl (by decide) v (Ty.encs (Ty.cops (ks.take j))) rfl BX.out.grow BW2.out (ks[j].cop).enc [t0, t1, t2, t3] (FR.out.below AL.out) (Ty.n _) w1.heap.size 1 rfl CA.out (by rw [LN.out]; omega) (by rw [LN.out]; omega) BX.out.size ?_; intro v' w2 hg' hgr' _; have B1 := Lib.hid ((BX.out.more BW2.out).push hg' hgr'); obtain ⟨A', c', hv', _, _, _⟩ := hg'.form; rw [LN1.out] at hv'; subst hv'; have x3 : World.cell? _ ⟨w.heap.size + 1 + 1, 3, none⟩ = some v := (blk_cell B1.out.out 3).trans rfl; have xf : World.frozen? _ ⟨w.heap.size + 1 + 1, 3, none⟩ = false := blk_frozen B1.out.out 3; clear hg' hgr'))
      all_goals
        go_wp2
        go_roundw
        case rel => exact ⟨j + 1, by omega, by go_num, Lib.hid ⟨_, by rw [TK.out]; exact B1.out.store⟩⟩
        case measure => simp [intOf]; omega
    · obtain rfl : j = ks.length := by omega
      have hd := BD.out
      rw [List.take_length] at hd
      have hd := Bd.done hd
      obtain ⟨A', c', hv', _, _, _⟩ := BD.out.grow.form
      rw [List.take_length, Ty.encs_length, Ty.cops_map, List.length_map] at hv'
      subst hv'
      have DN := Lib.hid hd
      have zo0 : wr.cell? ⟨w.heap.size + 1 + 1, 0, none⟩ = some (.int .i64 k) := (blk_cell BD.out.out 0).trans rfl
      have zo1 : wr.cell? ⟨w.heap.size + 1 + 1, 1, none⟩ = some (.int .i64 d) := (blk_cell BD.out.out 1).trans rfl
      have zo2 : wr.cell? ⟨w.heap.size + 1 + 1, 2, none⟩ = some (.string n) := (blk_cell BD.out.out 2).trans rfl
      have zo3 : wr.cell? ⟨w.heap.size + 1 + 1, 3, none⟩ = some (.slice A' ks.length c') := (blk_cell BD.out.out 3).trans rfl
      have zr0 : wr.cell? ⟨w.heap.size + 1, 0, none⟩ = some (.int .i64 0) := (blk_cell BD.out.zero 0).trans rfl
      have zr1 : wr.cell? ⟨w.heap.size + 1, 1, none⟩ = some (.int .i64 0) := (blk_cell BD.out.zero 1).trans rfl
      have zr2 : wr.cell? ⟨w.heap.size + 1, 2, none⟩ = some (.string ⟨#[]⟩) := (blk_cell BD.out.zero 2).trans rfl
      have zr3 : wr.cell? ⟨w.heap.size + 1, 3, none⟩ = some (.slice none 0 0) := (blk_cell BD.out.zero 3).trans rfl
      have zf0 := blk_frozen BD.out.zero 0
      have zf1 := blk_frozen BD.out.zero 1
      have zf2 := blk_frozen BD.out.zero 2
      have zf3 := blk_frozen BD.out.zero 3
      clear hd
      go_wp2
      refine bodyPost_ret (v := .agg #[.int .i64 k, .int .i64 d, .string n, .slice A' ks.length c']) (by simp [results, Try.results91, go_sem, zr0, zr1, zr2, zr3]) rfl ⟨[.int .i64 k, .int .i64 d, .string n, .slice A' ks.length c'], rfl, DN.out.1, DN.out.2⟩

theorem ImplCop_all : ∀ (x : Ty), x.enc.bulk ≤ 1048576 → ImplCop x :=
  Ty.induct fun k d n ks ih hl => by
    have hb := D.bulk_slice (Ty.bulk_kids hl)
    rw [Ty.encs_length] at hb
    have hm : ∀ x ∈ ks, x.enc ∈ Ty.encs ks := fun x hx => by rw [Ty.encs_map]; exact List.mem_map.2 ⟨x, hx, rfl⟩
    exact ImplCop_of k d n ks (by have := hb.1; omega) fun x hx => ih x hx (hb.2 _ (hm x hx))
theorem implCopy (x : Ty) (hx : x.enc.bulk ≤ 1048576) (w : World) (cs : List Value) (h : Rd w x.enc cs) :
    Calls Try.prog 91 #[.agg cs.toArray] w fun e w' => ∃ cs', e = .returned (.agg cs'.toArray) ∧ Fr w.heap.size w' x.enc cs' ∧ Below w.heap.size w w' := by
  have := ImplCop_all x hx w cs h
  rwa [Ty.cop_id] at this

end Go.Proofs.Ytifmnijdaboenaa
