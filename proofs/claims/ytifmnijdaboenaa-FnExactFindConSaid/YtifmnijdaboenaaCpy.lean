/- The reference's copy of a type; no condition. -/
import Derived.Test.YtifmnijdaboenaaMp
import Derived.Test.YtifmnijdaboenaaTy
import Derived.Deep.RegionHeld3
import Derived.Deep.AppendLies
import Derived.Deep.RegionLaw
import Derived.Deep.RegionHeldLaw
namespace Go.Proofs.Ytifmnijdaboenaa
open Go.RowKit
set_option linter.unusedVariables false
set_option linter.unusedSimpArgs false

theorem below_alloc1 (w : World) (o : Obj) : Below w.heap.size w (w.alloc o) := (Below.refl _ _).alloc (Nat.le_refl _) _
theorem cell_lt {w : World} {p : Addr} {v : Value} (h : w.cell? p = some v) : p.block < w.heap.size := World.block_lt_of_cell? w _ h
theorem cell_below {w w1 : World} {p : Addr} {v : Value} (hb : Below w.heap.size w w1) (h : w.cell? p = some v) : w1.cell? p = some v := (hb.cell (cell_lt h)).trans h
theorem infoTyp : (Try.prog.info? 97).map (fun i => (i.zero, i.size, i.bytes)) = some (some (.agg #[.int .i64 0, .int .i64 0, .string ⟨#[]⟩, .slice none 0 0]), 4, 56) := by kernel_rfl
theorem infoTypS : (Try.prog.info? 97).map (·.size) = some 4 := by kernel_rfl
theorem Ty.encs_snoc (xs : List Ty) (x : Ty) : Ty.encs (xs ++ [x]) = Ty.encs xs ++ [x.enc] := by simp [Ty.encs_map]
theorem map_take_snoc {α β : Type} (g : α → β) {l : List α} {j : Nat} (h : j < l.length) : (l.take (j + 1)).map g = (l.take j).map g ++ [g l[j]] := by
  rw [List.take_succ_eq_append_getElem h, List.map_append]; rfl

/-- What the world holds while the reference builds a type: its argument's box in block H, the zero answer behind it, the type that grows behind that. -/
structure Bd (w0 : World) (box : Array Value) (k d : Int) (n : ByteArray) (v : Value) (ys : List D) (w : World) : Prop where
  below : Below w0.heap.size w0 w
  box : w.heap[w0.heap.size]? = some (.cells box 97 (0, 0))
  zero : w.heap[w0.heap.size + 1]? = some (.cells #[.int .i64 0, .int .i64 0, .string ⟨#[]⟩, .slice none 0 0] 97 (0, 0))
  out : w.heap[w0.heap.size + 2]? = some (.cells #[.int .i64 k, .int .i64 d, .string n, v] 97 (0, 0))
  grow : Grow (w0.heap.size + 3) w v 97 4 ys
  size : w0.heap.size + 3 ≤ w.heap.size
theorem Bd.more {w0 w w1 : World} {box : Array Value} {k d : Int} {n : ByteArray} {v : Value} {ys : List D} (h : Bd w0 box k d n v ys w) (hb : Below w.heap.size w w1) : Bd w0 box k d n v ys w1 :=
  ⟨h.below.trans (hb.mono h.below.size), blk_below h.box hb, blk_below h.zero hb, blk_below h.out hb, h.grow.below hb, Nat.le_trans h.size hb.size⟩
/-- Behind the append, the slice not yet stored. -/
structure Bd1 (w0 : World) (box : Array Value) (k d : Int) (n : ByteArray) (v v' : Value) (ys : List D) (w : World) : Prop where
  below : Below w0.heap.size w0 w
  box : w.heap[w0.heap.size]? = some (.cells box 97 (0, 0))
  zero : w.heap[w0.heap.size + 1]? = some (.cells #[.int .i64 0, .int .i64 0, .string ⟨#[]⟩, .slice none 0 0] 97 (0, 0))
  out : w.heap[w0.heap.size + 2]? = some (.cells #[.int .i64 k, .int .i64 d, .string n, v] 97 (0, 0))
  grow : Grow (w0.heap.size + 3) w v' 97 4 ys
  size : w0.heap.size + 3 ≤ w.heap.size
theorem Bd.push {w0 w w1 : World} {box : Array Value} {k d : Int} {n : ByteArray} {v v' : Value} {ys zs : List D} (h : Bd w0 box k d n v ys w) (hg : Grow (w0.heap.size + 3) w1 v' 97 4 zs) (hw : Grew w w1 v v') : Bd1 w0 box k d n v v' zs w1 := by
  have hne : ∀ g, g < w0.heap.size + 3 → some g ≠ v.ownBlock := fun g hg e => by
    have := (h.grow.bound g e.symm).1
    omega
  exact ⟨hw.below h.below h.below.size (fun g hg => by have := (h.grow.bound g hg).1; omega), hw.blk h.box (hne _ (by omega)), hw.blk h.zero (hne _ (by omega)), hw.blk h.out (hne _ (by omega)), hg, Nat.le_trans h.size hw.grown.size⟩
theorem grownBy_set {w : World} {p : Addr} {u : Value} : w.grownBy (w.setCell p u) (some p.block) := ⟨rfl, rfl, rfl, by simp [World.setCell], fun k _ hne => Below.heap_setCell w p u k (fun e => hne (by rw [e]))⟩
theorem Bd1.store {w0 w : World} {box : Array Value} {k d : Int} {n : ByteArray} {v v' : Value} {ys : List D} (h : Bd1 w0 box k d n v v' ys w) : Bd w0 box k d n v' ys (w.setCell ⟨w0.heap.size + 2, 3, none⟩ v') :=
  ⟨h.below.setCell (by simp) _, blk_far h.box (by simp) _, blk_far h.zero (by simp) _, (blk_set h.out 3 v').trans rfl, h.grow.grown grownBy_set (fun g hg => by injection hg with hg; subst hg; show w0.heap.size + 2 < w0.heap.size + 3; omega), by simpa [World.setCell] using h.size⟩

/-- What was built lies in the answer's block. -/
def setAns (w0 w : World) (u0 u1 u2 u3 : Value) : World := (((w.setCell ⟨w0.heap.size + 1, 0, none⟩ u0).setCell ⟨w0.heap.size + 1, 1, none⟩ u1).setCell ⟨w0.heap.size + 1, 2, none⟩ u2).setCell ⟨w0.heap.size + 1, 3, none⟩ u3
theorem Bd.done {w0 w : World} {box : Array Value} {k d : Int} {n : ByteArray} {v : Value} {ys : List Ty} (h : Bd w0 box k d n v (Ty.encs ys) w) :
    Fr w0.heap.size (setAns w0 w (.int .i64 k) (.int .i64 d) (.string n) v) (Ty.mk k d n ys).enc [.int .i64 k, .int .i64 d, .string n, v] ∧ Below w0.heap.size w0 (setAns w0 w (.int .i64 k) (.int .i64 d) (.string n) v) := by
  refine ⟨?_, (((h.below.setCell (by simp) _).setCell (by simp) _).setCell (by simp) _).setCell (by simp) _⟩
  have h1 := ((((h.grow.fr.set (p := ⟨w0.heap.size + 1, 0, none⟩) (by simp) (.int .i64 k)).set (p := ⟨w0.heap.size + 1, 1, none⟩) (by simp) (.int .i64 d)).set (p := ⟨w0.heap.size + 1, 2, none⟩) (by simp) (.string n)).set (p := ⟨w0.heap.size + 1, 3, none⟩) (by simp) v).lower (B' := w0.heap.size) (by omega)
  simp only [Ty.enc]
  rw [fr_struct]
  exact frF_int (frF_int (frF_str (frF_last h1)))

mutual
def Ty.cop : Ty → Ty
  | .mk k d n ks => .mk k d n (Ty.cops ks)
def Ty.cops : List Ty → List Ty
  | [] => []
  | x :: xs => x.cop :: Ty.cops xs
end
theorem Ty.cops_map (xs : List Ty) : Ty.cops xs = xs.map Ty.cop := by
  induction xs with
  | nil => rfl
  | cons x xs ih => simp [Ty.cops, ih]
theorem Ty.cop_id : ∀ x : Ty, x.cop = x :=
  Ty.induct fun k d n ks ih => by
    rw [Ty.cop, Ty.cops_map, List.map_congr_left (g := id) (fun x hx => ih x hx), List.map_id]
def SpecCop (x : Ty) : Prop := ∀ (w : World) (cs : List Value), Rd w x.enc cs →
  Calls Try.prog 90 #[.agg cs.toArray] w fun e w' => ∃ cs', e = .returned (.agg cs'.toArray) ∧ Fr w.heap.size w' x.cop.enc cs' ∧ Below w.heap.size w w'
set_option maxRecDepth 100000 in
set_option maxHeartbeats 4000000 in
theorem SpecCop_of (k d : Int) (n : ByteArray) (ks : List Ty) (hn : ks.length ≤ 1048576) (ih : ∀ x ∈ ks, SpecCop x) : SpecCop (.mk k d n ks) := by
  intro w cs h
  obtain ⟨A, c, rfl, _, _, h4⟩ := Ty.open_ h
  have IH := Lib.hid ih
  have H4 := Lib.hid h4
  rw [Ty.cop]
  clear h h4 ih
  have BD0 : Hid (Bd w #[.int .i64 k, .int .i64 d, .string n, .slice A ks.length c] k d n (.slice none 0 0) [] (((w.alloc (.cells #[.int .i64 k, .int .i64 d, .string n, .slice A ks.length c] 97)).alloc (.cells #[.int .i64 0, .int .i64 0, .string ⟨#[]⟩, .slice none 0 0] 97)).alloc (.cells #[.int .i64 k, .int .i64 d, .string n, .slice none 0 0] 97))) :=
    ⟨((below_alloc1 _ _).alloc (by simp) _).alloc (by simp; omega) _, blk_old (blk_old (blk_new _ _) _) _, blk_old (blk_new_g (by simp)) _, blk_new_g (by simp), Grow.nil _ _ _ _, by simp⟩
  go_enter Try.func90, Try.ntmps90
  go_wp2_with fail
  generalize hW : (((w.alloc (.cells #[.int .i64 k, .int .i64 d, .string n, .slice A ks.length c] 97)).alloc (.cells #[.int .i64 0, .int .i64 0, .string ⟨#[]⟩, .slice none 0 0] 97)).alloc (.cells #[.int .i64 k, .int .i64 d, .string n, .slice none 0 0] 97)) = W at *
  clear hW
  go_loopw [4] (fun i wr => ∃ j : Nat, j ≤ ks.length ∧ i = .int .i64 j ∧ Hid (∃ v, Bd w #[.int .i64 k, .int .i64 d, .string n, .slice A ks.length c] k d n v (Ty.encs (Ty.cops (ks.take j))) wr)) (fun i _ => ks.length - (intOf i).toNat)
  case atStart => exact ⟨0, Nat.zero_le _, rfl, Lib.hid ⟨_, by simpa [Ty.cops, Ty.encs] using BD0.out⟩⟩
  case round =>
    obtain ⟨j, hj, rfl, hrel⟩ := hrel
    obtain ⟨v, hbd⟩ := hrel.out
    have BD := Lib.hid hbd
    have z3 := blk_cell hbd.box 3
    have y3 := blk_cell hbd.out 3
    simp at z3 y3
    have y3 : wr.cell? ⟨w.heap.size + 1 + 1, 3, none⟩ = some v := y3
    clear hrel hbd
    by_cases hlt : j < ks.length
    · obtain ⟨b, off, es, rfl, hcl, hrd, hc⟩ := H4.out.get (i := j) (x := ks[j].enc) (by simp [Ty.encs_map, List.getElem?_eq_getElem hlt])
      obtain ⟨u0, u1, u2, u3, rfl⟩ := cells4 hcl
      have KEEP : Hid (∀ w', Below w.heap.size w w' → w'.heap[w.heap.size]? = some (.cells #[.int .i64 k, .int .i64 d, .string n, .slice (some ⟨b, off, none⟩) ks.length c] 97 (0, 0)) → w'.cell? ⟨w.heap.size, 3, none⟩ = some (.slice (some ⟨b, off, none⟩) ks.length c) ∧ w'.cell? ⟨b, off + j * 4, none⟩ = some u0 ∧ w'.cell? ⟨b, off + j * 4 + 1, none⟩ = some u1 ∧ w'.cell? ⟨b, off + j * 4 + 2, none⟩ = some u2 ∧ w'.cell? ⟨b, off + j * 4 + 3, none⟩ = some u3) := fun w' hb hx => ⟨(blk_cell hx 3).trans rfl, cell_below hb (by simpa using hc 0 _ rfl), cell_below hb (hc 1 _ rfl), cell_below hb (hc 2 _ rfl), cell_below hb (hc 3 _ rfl)⟩
      obtain ⟨_, e0, e1, e2, e3⟩ := KEEP.out _ BD.out.below BD.out.box
      have RD := Lib.hid (hrd.below BD.out.below)
      have IHJ := Lib.hid (IH.out _ (List.getElem_mem hlt))
      have TK := Lib.hid (show Ty.encs (Ty.cops (ks.take (j + 1))) = Ty.encs (Ty.cops (ks.take j)) ++ [(ks[j].cop).enc] by rw [Ty.cops_map, Ty.cops_map, map_take_snoc _ hlt, Ty.encs_snoc])
      have LN := Lib.hid (show (Ty.encs (Ty.cops (ks.take j))).length = j by rw [Ty.encs_length, Ty.cops_map, List.length_map, List.length_take]; omega)
      have LN1 := Lib.hid (show (Ty.encs (Ty.cops (ks.take j)) ++ [(ks[j].cop).enc]).length = j + 1 by rw [List.length_append, LN.out]; rfl)
      obtain ⟨i0, hi, hz0, hz1, hz2⟩ := info_parts infoTyp
      have i1 : (0 : Int) ≤ (j : Int) := Int.natCast_nonneg _
      have i2 : (j : Int) < (ks.length : Int) := by omega
      clear hrd hc hcl
      go_wp2_with fail
      go_region_law (first
          | (go_simp; go_at_call 90; have CT := IHJ.out wr.drew _ (RD.out.below (Below.refl _ _).drew); (with_reducible refine CT.mono ?_); clear CT; rintro e w1 ⟨cs', rfl, hfr, hb⟩; obtain ⟨t0, t1, t2, t3, rfl⟩ := cells4 (hfr.len.trans (Ty.n _)); have BW1 := Lib.hid ((Below.refl wr.heap.size wr).drew.trans hb); have FR := Lib.hid hfr; have BW2 := Lib.hid (BW1.out.alloc BW1.out.size (.cells #[t0, t1, t2, t3] 97)); have AL := Lib.hid (below_alloc1 w1 (.cells #[t0, t1, t2, t3] 97)); have CA := Lib.hid (cellsAt_new w1 [t0, t1, t2, t3] 97); have D1 := Lib.hid (BD.out.more BW1.out); have D2 := Lib.hid (BD.out.more BW2.out); have y3 : World.cell? _ ⟨w.heap.size + 1 + 1, 3, none⟩ = some v := (blk_cell D1.out.out 3).trans rfl; have y3b : World.cell? _ ⟨w.heap.size + 1 + 1, 3, none⟩ = some v := (blk_cell D2.out.out 3).trans rfl; clear hfr hb)
          | (refine step_push rfl _ _ 61 rfl (w.heap.size + 3) 97 i0 (.agg #[.int .i64 0, .int .i64 0, .string ⟨#[]⟩, .slice none 0 0]) 4 56 Try.underlying61 hi hz0 hz1 hz2 rfl (by decide) v (Ty.encs (Ty.cops (ks.take j))) rfl BD.out.grow BW2.out (ks[j].cop).enc [t0, t1, t2, t3] (FR.out.below AL.out) (Ty.n _) w1.heap.size 1 rfl CA.out (by rw [LN.out]; omega) (by rw [LN.out]; omega) BD.out.size ?_; intro v' w2 hg' hgr' _; have B1 := Lib.hid ((BD.out.more BW2.out).push hg' hgr'); obtain ⟨A', c', hv', _, _, _⟩ := hg'.form; rw [LN1.out] at hv'; subst hv'; have x3 : World.cell? _ ⟨w.heap.size + 1 + 1, 3, none⟩ = some v := (blk_cell B1.out.out 3).trans rfl; have xf : World.frozen? _ ⟨w.heap.size + 1 + 1, 3, none⟩ = false := blk_frozen B1.out.out 3; clear hg' hgr'))
      all_goals
        go_wp2
        go_roundw
        case rel => exact ⟨j + 1, by omega, by go_num, Lib.hid ⟨_, by rw [TK.out]; exact B1.out.store⟩⟩
        case measure => simp [intOf]; omega
    · obtain rfl : j = ks.length := by omega
      have hd := BD.out
      rw [List.take_length] at hd
      have hd := Bd.done hd
      obtain ⟨A', c', hv', _, _, _⟩ := BD.out.grow.form
      rw [List.take_length, Ty.encs_length, Ty.cops_map, List.length_map] at hv'
      subst hv'
      have DN := Lib.hid hd
      have zo0 : wr.cell? ⟨w.heap.size + 1 + 1, 0, none⟩ = some (.int .i64 k) := (blk_cell BD.out.out 0).trans rfl
      have zo1 : wr.cell? ⟨w.heap.size + 1 + 1, 1, none⟩ = some (.int .i64 d) := (blk_cell BD.out.out 1).trans rfl
      have zo2 : wr.cell? ⟨w.heap.size + 1 + 1, 2, none⟩ = some (.string n) := (blk_cell BD.out.out 2).trans rfl
      have zo3 : wr.cell? ⟨w.heap.size + 1 + 1, 3, none⟩ = some (.slice A' ks.length c') := (blk_cell BD.out.out 3).trans rfl
      have zr0 : wr.cell? ⟨w.heap.size + 1, 0, none⟩ = some (.int .i64 0) := (blk_cell BD.out.zero 0).trans rfl
      have zr1 : wr.cell? ⟨w.heap.size + 1, 1, none⟩ = some (.int .i64 0) := (blk_cell BD.out.zero 1).trans rfl
      have zr2 : wr.cell? ⟨w.heap.size + 1, 2, none⟩ = some (.string ⟨#[]⟩) := (blk_cell BD.out.zero 2).trans rfl
      have zr3 : wr.cell? ⟨w.heap.size + 1, 3, none⟩ = some (.slice none 0 0) := (blk_cell BD.out.zero 3).trans rfl
      have zf0 := blk_frozen BD.out.zero 0
      have zf1 := blk_frozen BD.out.zero 1
      have zf2 := blk_frozen BD.out.zero 2
      have zf3 := blk_frozen BD.out.zero 3
      clear hd
      go_wp2
      refine bodyPost_ret (v := .agg #[.int .i64 k, .int .i64 d, .string n, .slice A' ks.length c']) (by simp [results, Try.results90, go_sem, zr0, zr1, zr2, zr3]) rfl ⟨[.int .i64 k, .int .i64 d, .string n, .slice A' ks.length c'], rfl, DN.out.1, DN.out.2⟩

theorem SpecCop_all : ∀ (x : Ty), x.enc.bulk ≤ 1048576 → SpecCop x :=
  Ty.induct fun k d n ks ih hl => by
    have hb := D.bulk_slice (Ty.bulk_kids hl)
    rw [Ty.encs_length] at hb
    have hm : ∀ x ∈ ks, x.enc ∈ Ty.encs ks := fun x hx => by rw [Ty.encs_map]; exact List.mem_map.2 ⟨x, hx, rfl⟩
    exact SpecCop_of k d n ks (by have := hb.1; omega) fun x hx => ih x hx (hb.2 _ (hm x hx))
theorem specCopy (x : Ty) (hx : x.enc.bulk ≤ 1048576) (w : World) (cs : List Value) (h : Rd w x.enc cs) :
    Calls Try.prog 90 #[.agg cs.toArray] w fun e w' => ∃ cs', e = .returned (.agg cs'.toArray) ∧ Fr w.heap.size w' x.enc cs' ∧ Below w.heap.size w w' := by
  have := SpecCop_all x hx w cs h
  rwa [Ty.cop_id] at this

end Go.Proofs.Ytifmnijdaboenaa
