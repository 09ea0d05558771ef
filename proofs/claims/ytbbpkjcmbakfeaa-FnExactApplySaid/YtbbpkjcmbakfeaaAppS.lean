/- The reference's copy of a type, and binds applied to a type; no condition. -/
import Derived.Test.YtbbpkjcmbakfeaaOpn
namespace Go.Proofs.Ytbbpkjcmbakfeaa
open Go.RowKit
set_option linter.unusedVariables false
set_option linter.unusedSimpArgs false

mutual
def Ty.cop : Ty → Ty
  | .mk k d n ks => .mk k d n (Ty.cops ks)
def Ty.cops : List Ty → List Ty
  | [] => []
  | x :: xs => x.cop :: Ty.cops xs
end
theorem Ty.cops_map (xs : List Ty) : Ty.cops xs = xs.map Ty.cop := by
  induction xs with
  | nil => rfl
  | cons x xs ih => simp [Ty.cops, ih]
theorem Ty.cop_id : ∀ x : Ty, x.cop = x :=
  Ty.induct fun k d n ks ih => by
    rw [Ty.cop, Ty.cops_map, List.map_congr_left (g := id) (fun x hx => ih x hx), List.map_id]
def bget : List (Int × Ty) → Int → Option Ty
  | [], _ => none
  | (i, y) :: bs, d => if i = d then some y else bget bs d
mutual
def Ty.app (bs : List (Int × Ty)) : Ty → Ty
  | .mk k d n ks => if k = 1 then (bget bs d).getD (.mk k d n ks) else .mk k d n (Ty.apps bs ks)
def Ty.apps (bs : List (Int × Ty)) : List Ty → List Ty
  | [] => []
  | x :: xs => x.app bs :: Ty.apps bs xs
end
theorem Ty.apps_map (bs : List (Int × Ty)) (xs : List Ty) : Ty.apps bs xs = xs.map (Ty.app bs) := by
  induction xs with
  | nil => rfl
  | cons x xs ih => simp [Ty.apps, ih]
def bindD (p : Int × Ty) : D := .struct [.int .i64 p.1, p.2.enc]
def bindsD (bs : List (Int × Ty)) : List D := bs.map bindD
theorem bindsD_length (bs : List (Int × Ty)) : (bindsD bs).length = bs.length := by simp [bindsD]
theorem bind_open {w : World} {p : Int × Ty} {cs : List Value} (h : Rd w (bindD p) cs) : ∃ u0 u1 u2 u3, cs = [.int .i64 p.1, u0, u1, u2, u3] ∧ Rd w p.2.enc [u0, u1, u2, u3] := by
  simp only [bindD] at h
  rw [rd_struct] at h
  simp only [rdF_cons, rdF_nil, rd_int] at h
  obtain ⟨e0, r0, rfl, rfl, e1, r1, rfl, hx, rfl⟩ := h
  obtain ⟨u0, u1, u2, u3, rfl⟩ := cells4 (hx.len.trans (Ty.n _))
  exact ⟨u0, u1, u2, u3, rfl, by simpa using hx⟩
/-- Bind j of a row. -/
theorem binds_get {w : World} {A : Option Addr} {bs : List (Int × Ty)} (h : RdRow w 5 A (bindsD bs)) {j : Nat} (hj : j < bs.length) : ∃ b off u0 u1 u2 u3, A = some ⟨b, off, none⟩ ∧ CellsAt w b (off + j * 5) [.int .i64 bs[j].1, u0, u1, u2, u3] ∧ Rd w bs[j].2.enc [u0, u1, u2, u3] := by
  obtain ⟨b, off, cs, hA, _, hr, hc⟩ := h.get (i := j) (x := bindD bs[j]) (by simp [bindsD, List.getElem?_eq_getElem hj])
  obtain ⟨u0, u1, u2, u3, rfl, hx⟩ := bind_open hr
  exact ⟨b, off, u0, u1, u2, u3, hA, hc, hx⟩
theorem bget_drop {bs : List (Int × Ty)} {d : Int} {j : Nat} (h : j < bs.length) : bget (bs.drop j) d = if bs[j].1 = d then some bs[j].2 else bget (bs.drop (j + 1)) d := by
  rw [List.drop_eq_getElem_cons h, bget]
theorem bget_mem {bs : List (Int × Ty)} {d : Int} {y : Ty} (h : bget bs d = some y) : ∃ i, (i, y) ∈ bs := by
  induction bs with
  | nil => cases h
  | cons p bs ih =>
    obtain ⟨i, z⟩ := p
    simp only [bget] at h
    split at h
    · injection h with h; subst h; exact ⟨i, by simp⟩
    · obtain ⟨i', hi⟩ := ih h; exact ⟨i', by simp [hi]⟩

def SpecCop (x : Ty) : Prop := ∀ (w : World) (cs : List Value), Rd w x.enc cs →
  Calls Try.prog 95 #[.agg cs.toArray] w fun e w' => ∃ cs', e = .returned (.agg cs'.toArray) ∧ Fr w.heap.size w' x.cop.enc cs' ∧ Below w.heap.size w w'
def SpecApp (bs : List (Int × Ty)) (x : Ty) : Prop := ∀ (w : World) (A0 : Option Addr) (p0 : Nat) (cs : List Value), RdRow w 5 A0 (bindsD bs) → Rd w x.enc cs →
  Calls Try.prog 83 #[.slice A0 bs.length p0, .agg cs.toArray] w fun e w' => ∃ cs', e = .returned (.agg cs'.toArray) ∧ Fr w.heap.size w' (x.app bs).enc cs' ∧ Below w.heap.size w w'

set_option maxRecDepth 100000 in
set_option maxHeartbeats 4000000 in
theorem SpecCop_of (k d : Int) (n : ByteArray) (ks : List Ty) (hn : ks.length ≤ 1048576) (ih : ∀ x ∈ ks, SpecCop x) : SpecCop (.mk k d n ks) := by
  intro w cs h
  obtain ⟨A, c, rfl, _, _, h4⟩ := Ty.open_ h
  have IH := Lib.hid ih
  have H4 := Lib.hid h4
  rw [Ty.cop]
  clear h h4 ih
  have BD0 : Hid (Bd w #[.int .i64 k, .int .i64 d, .string n, .slice A ks.length c] k d n (.slice none 0 0) [] (((w.alloc (.cells #[.int .i64 k, .int .i64 d, .string n, .slice A ks.length c] 30)).alloc (.cells #[.int .i64 0, .int .i64 0, .string ⟨#[]⟩, .slice none 0 0] 30)).alloc (.cells #[.int .i64 k, .int .i64 d, .string n, .slice none 0 0] 30))) :=
    ⟨((below_alloc1 _ _).alloc (by simp) _).alloc (by simp; omega) _, blk_old (blk_old (blk_new _ _) _) _, blk_old (blk_new_g (by simp)) _, blk_new_g (by simp), Grow.nil _ _ _ _, by simp⟩
  go_enter Try.func95, Try.ntmps95
  go_wp2_with fail
  generalize hW : (((w.alloc (.cells #[.int .i64 k, .int .i64 d, .string n, .slice A ks.length c] 30)).alloc (.cells #[.int .i64 0, .int .i64 0, .string ⟨#[]⟩, .slice none 0 0] 30)).alloc (.cells #[.int .i64 k, .int .i64 d, .string n, .slice none 0 0] 30)) = W at *
  clear hW
  go_loopw [4] (fun i wr => ∃ j : Nat, j ≤ ks.length ∧ i = .int .i64 j ∧ Hid (∃ v, Bd w #[.int .i64 k, .int .i64 d, .string n, .slice A ks.length c] k d n v (Ty.encs (Ty.cops (ks.take j))) wr)) (fun i _ => ks.length - (intOf i).toNat)
  case atStart => exact ⟨0, Nat.zero_le _, rfl, Lib.hid ⟨_, by simpa [Ty.cops, Ty.encs] using BD0.out⟩⟩
  case round =>
    obtain ⟨j, hj, rfl, hrel⟩ := hrel
    obtain ⟨v, hbd⟩ := hrel.out
    have BD := Lib.hid hbd
    have z3 := blk_cell hbd.box 3
    have y3 := blk_cell hbd.out 3
    simp at z3 y3
    have y3 : wr.cell? ⟨w.heap.size + 1 + 1, 3, none⟩ = some v := y3
    clear hrel hbd
    by_cases hlt : j < ks.length
    · obtain ⟨b, off, es, rfl, hcl, hrd, hc⟩ := H4.out.get (i := j) (x := ks[j].enc) (by simp [Ty.encs_map, List.getElem?_eq_getElem hlt])
      obtain ⟨u0, u1, u2, u3, rfl⟩ := cells4 hcl
      have KEEP : Hid (∀ w', Below w.heap.size w w' → w'.heap[w.heap.size]? = some (.cells #[.int .i64 k, .int .i64 d, .string n, .slice (some ⟨b, off, none⟩) ks.length c] 30 (0, 0)) → w'.cell? ⟨w.heap.size, 3, none⟩ = some (.slice (some ⟨b, off, none⟩) ks.length c) ∧ w'.cell? ⟨b, off + j * 4, none⟩ = some u0 ∧ w'.cell? ⟨b, off + j * 4 + 1, none⟩ = some u1 ∧ w'.cell? ⟨b, off + j * 4 + 2, none⟩ = some u2 ∧ w'.cell? ⟨b, off + j * 4 + 3, none⟩ = some u3) := fun w' hb hx => ⟨(blk_cell hx 3).trans rfl, cell_below hb (by simpa using hc 0 _ rfl), cell_below hb (hc 1 _ rfl), cell_below hb (hc 2 _ rfl), cell_below hb (hc 3 _ rfl)⟩
      obtain ⟨_, e0, e1, e2, e3⟩ := KEEP.out _ BD.out.below BD.out.box
      have RD := Lib.hid (hrd.below BD.out.below)
      have IHJ := Lib.hid (IH.out _ (List.getElem_mem hlt))
      have TK := Lib.hid (show Ty.encs (Ty.cops (ks.take (j + 1))) = Ty.encs (Ty.cops (ks.take j)) ++ [(ks[j].cop).enc] by rw [Ty.cops_map, Ty.cops_map, map_take_snoc _ hlt, Ty.encs_snoc])
      have LN := Lib.hid (show (Ty.encs (Ty.cops (ks.take j))).length = j by rw [Ty.encs_length, Ty.cops_map, List.length_map, List.length_take]; omega)
      have LN1 := Lib.hid (show (Ty.encs (Ty.cops (ks.take j)) ++ [(ks[j].cop).enc]).length = j + 1 by rw [List.length_append, LN.out]; rfl)
      obtain ⟨i0, hi, hz0, hz1, hz2⟩ := info_parts infoTyp
      have i1 : (0 : Int) ≤ (j : Int) := Int.natCast_nonneg _
      have i2 : (j : Int) < (ks.length : Int) := by omega
      clear hrd hc hcl
      go_wp2_with fail
      go_region_law (first
          | (go_simp; go_at_call 95; have CT := IHJ.out wr.drew _ (RD.out.below (Below.refl _ _).drew); (with_reducible refine CT.mono ?_); clear CT; rintro e w1 ⟨cs', rfl, hfr, hb⟩; obtain ⟨t0, t1, t2, t3, rfl⟩ := cells4 (hfr.len.trans (Ty.n _)); have BW1 := Lib.hid ((Below.refl wr.heap.size wr).drew.trans hb); have FR := Lib.hid hfr; have BW2 := Lib.hid (BW1.out.alloc BW1.out.size (.cells #[t0, t1, t2, t3] 30)); have AL := Lib.hid (below_alloc1 w1 (.cells #[t0, t1, t2, t3] 30)); have CA := Lib.hid (cellsAt_new w1 [t0, t1, t2, t3] 30); have D1 := Lib.hid (BD.out.more BW1.out); have D2 := Lib.hid (BD.out.more BW2.out); have y3 : World.cell? _ ⟨w.heap.size + 1 + 1, 3, none⟩ = some v := (blk_cell D1.out.out 3).trans rfl; have y3b : World.cell? _ ⟨w.heap.size + 1 + 1, 3, none⟩ = some v := (blk_cell D2.out.out 3).trans rfl; clear hfr hb)
          | (refine step_push rfl _ _ 28 rfl (w.heap.size + 3) 30 i0 (.agg #[.int .i64 0, .int .i64 0, .string ⟨#[]⟩, .slice none 0 0]) 4 56 Try.underlying28 hi hz0 hz1 hz2 rfl (by decide) v (Ty.encs (Ty.cops (ks.take j))) rfl BD.out.grow BW2.out (ks[j].cop).enc [t0, t1, t2, t3] (FR.out.below AL.out) (Ty.n _) w1.heap.size 1 rfl CA.out (by rw [LN.out]; omega) (by rw [LN.out]; omega) BD.out.size ?_; intro v' w2 hg' hgr' _; have B1 := Lib.hid ((BD.out.more BW2.out).push hg' hgr'); obtain ⟨A', c', hv', _, _, _⟩ := hg'.form; rw [LN1.out] at hv'; subst hv'; have x3 : World.cell? _ ⟨w.heap.size + 1 + 1, 3, none⟩ = some v := (blk_cell B1.out.out 3).trans rfl; have xf : World.frozen? _ ⟨w.heap.size + 1 + 1, 3, none⟩ = false := blk_frozen B1.out.out 3; clear hg' hgr'))
      all_goals
        go_wp2
        go_roundw
        case rel => exact ⟨j + 1, by omega, by go_num, Lib.hid ⟨_, by rw [TK.out]; exact B1.out.store⟩⟩
        case measure => simp [intOf]; omega
    · obtain rfl : j = ks.length := by omega
      have hd := BD.out
      rw [List.take_length] at hd
      have hd := Bd.done hd
      obtain ⟨A', c', hv', _, _, _⟩ := BD.out.grow.form
      rw [List.take_length, Ty.encs_length, Ty.cops_map, List.length_map] at hv'
      subst hv'
      have DN := Lib.hid hd
      have zo0 : wr.cell? ⟨w.heap.size + 1 + 1, 0, none⟩ = some (.int .i64 k) := (blk_cell BD.out.out 0).trans rfl
      have zo1 : wr.cell? ⟨w.heap.size + 1 + 1, 1, none⟩ = some (.int .i64 d) := (blk_cell BD.out.out 1).trans rfl
      have zo2 : wr.cell? ⟨w.heap.size + 1 + 1, 2, none⟩ = some (.string n) := (blk_cell BD.out.out 2).trans rfl
      have zo3 : wr.cell? ⟨w.heap.size + 1 + 1, 3, none⟩ = some (.slice A' ks.length c') := (blk_cell BD.out.out 3).trans rfl
      have zr0 : wr.cell? ⟨w.heap.size + 1, 0, none⟩ = some (.int .i64 0) := (blk_cell BD.out.zero 0).trans rfl
      have zr1 : wr.cell? ⟨w.heap.size + 1, 1, none⟩ = some (.int .i64 0) := (blk_cell BD.out.zero 1).trans rfl
      have zr2 : wr.cell? ⟨w.heap.size + 1, 2, none⟩ = some (.string ⟨#[]⟩) := (blk_cell BD.out.zero 2).trans rfl
      have zr3 : wr.cell? ⟨w.heap.size + 1, 3, none⟩ = some (.slice none 0 0) := (blk_cell BD.out.zero 3).trans rfl
      have zf0 := blk_frozen BD.out.zero 0
      have zf1 := blk_frozen BD.out.zero 1
      have zf2 := blk_frozen BD.out.zero 2
      have zf3 := blk_frozen BD.out.zero 3
      clear hd
      go_wp2
      refine bodyPost_ret (v := .agg #[.int .i64 k, .int .i64 d, .string n, .slice A' ks.length c']) (by simp [results, Try.results95, go_sem, zr0, zr1, zr2, zr3]) rfl ⟨[.int .i64 k, .int .i64 d, .string n, .slice A' ks.length c'], rfl, DN.out.1, DN.out.2⟩

theorem SpecCop_all : ∀ (x : Ty), x.size ≤ 1048576 → SpecCop x :=
  Ty.induct fun k d n ks ih hl => by
    simp only [Ty.size] at hl
    have := Ty.sizes_len ks
    exact SpecCop_of k d n ks (by omega) fun x hx => ih x hx (by have := Ty.size_mem hx; omega)
theorem specCopy (x : Ty) (hx : x.size ≤ 1048576) (w : World) (cs : List Value) (h : Rd w x.enc cs) :
    Calls Try.prog 95 #[.agg cs.toArray] w fun e w' => ∃ cs', e = .returned (.agg cs'.toArray) ∧ Fr w.heap.size w' x.enc cs' ∧ Below w.heap.size w w' := by
  have := SpecCop_all x hx w cs h
  rwa [Ty.cop_id] at this

set_option maxRecDepth 100000 in
set_option maxHeartbeats 4000000 in
theorem SpecApp_con (bs : List (Int × Ty)) (k d : Int) (n : ByteArray) (ks : List Ty) (hn : ks.length ≤ 1048576) (hk : k ≠ 1) (ih : ∀ x ∈ ks, SpecApp bs x) : SpecApp bs (.mk k d n ks) := by
  intro w A0 p0 cs hB h
  obtain ⟨A, c, rfl, _, _, h4⟩ := Ty.open_ h
  have IH := Lib.hid ih
  have H4 := Lib.hid h4
  have HBS := Lib.hid hB
  have hk' : (k == 1) = false := beq_eq_false_iff_ne.2 hk
  rw [Ty.app, if_neg hk]
  clear h h4 ih hB hk
  have BD0 : Hid (Bd w #[.int .i64 k, .int .i64 d, .string n, .slice A ks.length c] k d n (.slice none 0 0) [] (((w.alloc (.cells #[.int .i64 k, .int .i64 d, .string n, .slice A ks.length c] 30)).alloc (.cells #[.int .i64 0, .int .i64 0, .string ⟨#[]⟩, .slice none 0 0] 30)).alloc (.cells #[.int .i64 k, .int .i64 d, .string n, .slice none 0 0] 30))) :=
    ⟨((below_alloc1 _ _).alloc (by simp) _).alloc (by simp; omega) _, blk_old (blk_old (blk_new _ _) _) _, blk_old (blk_new_g (by simp)) _, blk_new_g (by simp), Grow.nil _ _ _ _, by simp⟩
  go_enter Try.func83, Try.ntmps83
  go_wp2_with fail
  generalize hW : (((w.alloc (.cells #[.int .i64 k, .int .i64 d, .string n, .slice A ks.length c] 30)).alloc (.cells #[.int .i64 0, .int .i64 0, .string ⟨#[]⟩, .slice none 0 0] 30)).alloc (.cells #[.int .i64 k, .int .i64 d, .string n, .slice none 0 0] 30)) = W at *
  clear hW
  go_loopw [7] (fun i wr => ∃ j : Nat, j ≤ ks.length ∧ i = .int .i64 j ∧ Hid (∃ v, Bd w #[.int .i64 k, .int .i64 d, .string n, .slice A ks.length c] k d n v (Ty.encs (Ty.apps bs (ks.take j))) wr)) (fun i _ => ks.length - (intOf i).toNat)
  case atStart => exact ⟨0, Nat.zero_le _, rfl, Lib.hid ⟨_, by simpa [Ty.apps, Ty.encs] using BD0.out⟩⟩
  case round =>
    obtain ⟨j, hj, rfl, hrel⟩ := hrel
    obtain ⟨v, hbd⟩ := hrel.out
    have BD := Lib.hid hbd
    have z3 := blk_cell hbd.box 3
    have y3 := blk_cell hbd.out 3
    simp at z3 y3
    have y3 : wr.cell? ⟨w.heap.size + 1 + 1, 3, none⟩ = some v := y3
    clear hrel hbd
    by_cases hlt : j < ks.length
    · obtain ⟨b, off, es, rfl, hcl, hrd, hc⟩ := H4.out.get (i := j) (x := ks[j].enc) (by simp [Ty.encs_map, List.getElem?_eq_getElem hlt])
      obtain ⟨u0, u1, u2, u3, rfl⟩ := cells4 hcl
      have KEEP : Hid (∀ w', Below w.heap.size w w' → w'.heap[w.heap.size]? = some (.cells #[.int .i64 k, .int .i64 d, .string n, .slice (some ⟨b, off, none⟩) ks.length c] 30 (0, 0)) → w'.cell? ⟨w.heap.size, 3, none⟩ = some (.slice (some ⟨b, off, none⟩) ks.length c) ∧ w'.cell? ⟨b, off + j * 4, none⟩ = some u0 ∧ w'.cell? ⟨b, off + j * 4 + 1, none⟩ = some u1 ∧ w'.cell? ⟨b, off + j * 4 + 2, none⟩ = some u2 ∧ w'.cell? ⟨b, off + j * 4 + 3, none⟩ = some u3) := fun w' hb hx => ⟨(blk_cell hx 3).trans rfl, cell_below hb (by simpa using hc 0 _ rfl), cell_below hb (hc 1 _ rfl), cell_below hb (hc 2 _ rfl), cell_below hb (hc 3 _ rfl)⟩
      obtain ⟨_, e0, e1, e2, e3⟩ := KEEP.out _ BD.out.below BD.out.box
      have RD := Lib.hid (hrd.below BD.out.below)
      have IHJ := Lib.hid (IH.out _ (List.getElem_mem hlt))
      have TK := Lib.hid (show Ty.encs (Ty.apps bs (ks.take (j + 1))) = Ty.encs (Ty.apps bs (ks.take j)) ++ [(ks[j].app bs).enc] by rw [Ty.apps_map, Ty.apps_map, map_take_snoc _ hlt, Ty.encs_snoc])
      have LN := Lib.hid (show (Ty.encs (Ty.apps bs (ks.take j))).length = j by rw [Ty.encs_length, Ty.apps_map, List.length_map, List.length_take]; omega)
      have LN1 := Lib.hid (show (Ty.encs (Ty.apps bs (ks.take j)) ++ [(ks[j].app bs).enc]).length = j + 1 by rw [List.length_append, LN.out]; rfl)
      obtain ⟨i0, hi, hz0, hz1, hz2⟩ := info_parts infoTyp
      have i1 : (0 : Int) ≤ (j : Int) := Int.natCast_nonneg _
      have i2 : (j : Int) < (ks.length : Int) := by omega
      clear hrd hc hcl
      go_wp2_with fail
      go_region_law (first
          | (go_simp; go_at_call 83; have CT := IHJ.out wr.drew A0 p0 _ (HBS.out.below (by omega) (BD.out.below.drew)) (RD.out.below (Below.refl _ _).drew); (with_reducible refine CT.mono ?_); clear CT; rintro e w1 ⟨cs', rfl, hfr, hb⟩; obtain ⟨t0, t1, t2, t3, rfl⟩ := cells4 (hfr.len.trans (Ty.n _)); have BW1 := Lib.hid ((Below.refl wr.heap.size wr).drew.trans hb); have FR := Lib.hid hfr; have BW2 := Lib.hid (BW1.out.alloc BW1.out.size (.cells #[t0, t1, t2, t3] 30)); have AL := Lib.hid (below_alloc1 w1 (.cells #[t0, t1, t2, t3] 30)); have CA := Lib.hid (cellsAt_new w1 [t0, t1, t2, t3] 30); have D1 := Lib.hid (BD.out.more BW1.out); have D2 := Lib.hid (BD.out.more BW2.out); have y3 : World.cell? _ ⟨w.heap.size + 1 + 1, 3, none⟩ = some v := (blk_cell D1.out.out 3).trans rfl; have y3b : World.cell? _ ⟨w.heap.size + 1 + 1, 3, none⟩ = some v := (blk_cell D2.out.out 3).trans rfl; clear hfr hb)
          | (refine step_push rfl _ _ 28 rfl (w.heap.size + 3) 30 i0 (.agg #[.int .i64 0, .int .i64 0, .string ⟨#[]⟩, .slice none 0 0]) 4 56 Try.underlying28 hi hz0 hz1 hz2 rfl (by decide) v (Ty.encs (Ty.apps bs (ks.take j))) rfl BD.out.grow BW2.out (ks[j].app bs).enc [t0, t1, t2, t3] (FR.out.below AL.out) (Ty.n _) w1.heap.size 1 rfl CA.out (by rw [LN.out]; omega) (by rw [LN.out]; omega) BD.out.size ?_; intro v' w2 hg' hgr' _; have B1 := Lib.hid ((BD.out.more BW2.out).push hg' hgr'); obtain ⟨A', c', hv', _, _, _⟩ := hg'.form; rw [LN1.out] at hv'; subst hv'; have x3 : World.cell? _ ⟨w.heap.size + 1 + 1, 3, none⟩ = some v := (blk_cell B1.out.out 3).trans rfl; have xf : World.frozen? _ ⟨w.heap.size + 1 + 1, 3, none⟩ = false := blk_frozen B1.out.out 3; clear hg' hgr'))
      all_goals
        go_wp2
        go_roundw
        case rel => exact ⟨j + 1, by omega, by go_num, Lib.hid ⟨_, by rw [TK.out]; exact B1.out.store⟩⟩
        case measure => simp [intOf]; omega
    · obtain rfl : j = ks.length := by omega
      have hd := BD.out
      rw [List.take_length] at hd
      have hd := Bd.done hd
      obtain ⟨A', c', hv', _, _, _⟩ := BD.out.grow.form
      rw [List.take_length, Ty.encs_length, Ty.apps_map, List.length_map] at hv'
      subst hv'
      have DN := Lib.hid hd
      have zo0 : wr.cell? ⟨w.heap.size + 1 + 1, 0, none⟩ = some (.int .i64 k) := (blk_cell BD.out.out 0).trans rfl
      have zo1 : wr.cell? ⟨w.heap.size + 1 + 1, 1, none⟩ = some (.int .i64 d) := (blk_cell BD.out.out 1).trans rfl
      have zo2 : wr.cell? ⟨w.heap.size + 1 + 1, 2, none⟩ = some (.string n) := (blk_cell BD.out.out 2).trans rfl
      have zo3 : wr.cell? ⟨w.heap.size + 1 + 1, 3, none⟩ = some (.slice A' ks.length c') := (blk_cell BD.out.out 3).trans rfl
      have zr0 : wr.cell? ⟨w.heap.size + 1, 0, none⟩ = some (.int .i64 0) := (blk_cell BD.out.zero 0).trans rfl
      have zr1 : wr.cell? ⟨w.heap.size + 1, 1, none⟩ = some (.int .i64 0) := (blk_cell BD.out.zero 1).trans rfl
      have zr2 : wr.cell? ⟨w.heap.size + 1, 2, none⟩ = some (.string ⟨#[]⟩) := (blk_cell BD.out.zero 2).trans rfl
      have zr3 : wr.cell? ⟨w.heap.size + 1, 3, none⟩ = some (.slice none 0 0) := (blk_cell BD.out.zero 3).trans rfl
      have zf0 := blk_frozen BD.out.zero 0
      have zf1 := blk_frozen BD.out.zero 1
      have zf2 := blk_frozen BD.out.zero 2
      have zf3 := blk_frozen BD.out.zero 3
      clear hd
      go_wp2
      refine bodyPost_ret (v := .agg #[.int .i64 k, .int .i64 d, .string n, .slice A' ks.length c']) (by simp [results, Try.results83, go_sem, zr0, zr1, zr2, zr3]) rfl ⟨[.int .i64 k, .int .i64 d, .string n, .slice A' ks.length c'], rfl, DN.out.1, DN.out.2⟩


end Go.Proofs.Ytbbpkjcmbakfeaa
