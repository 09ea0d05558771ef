/- Types made by hand: leaves, pairs; the makers once more, with their answers cell by cell; no condition. -/
import Derived.Test.YtbbpkjcmbakfeaaBtS
import Derived.Test.YtbbpkjcmbakfeaaHf
namespace Go.Proofs.Ytbbpkjcmbakfeaa
open Go.RowKit
set_option linter.unusedVariables false
set_option linter.unusedSimpArgs false

theorem btc {w w1 : World} {p : Addr} {v : Value} (hb : Below w.heap.size w w1) (h : w.cell? p = some v) : w1.cell? p = some v := (hb.cell (World.block_lt_of_cell? w _ h)).trans h
theorem bta (w : World) (o : Obj) : Below w.heap.size w (w.alloc o) := (Below.refl _ _).alloc (Nat.le_refl _) _
theorem bs1 {w : World} {g i : Nat} {q : Addr} {v u : Value} (h : w.cell? q = some v) (hne : q.block ≠ g) : (w.setCell ⟨g, i, none⟩ u).cell? q = some v := (World.cell?_of_block (a := q) (Below.heap_setCell w ⟨g, i, none⟩ u q.block hne)).trans h
theorem bs4 {w : World} {g : Nat} {q : Addr} {v u0 u1 u2 u3 : Value} (h : w.cell? q = some v) (hne : q.block ≠ g) : ((((w.setCell ⟨g, 0, none⟩ u0).setCell ⟨g, 1, none⟩ u1).setCell ⟨g, 2, none⟩ u2).setCell ⟨g, 3, none⟩ u3).cell? q = some v :=
  bs1 (bs1 (bs1 (bs1 h hne) hne) hne) hne
theorem bs6 {w : World} {g : Nat} {q : Addr} {v u0 u1 u2 u3 u4 u5 : Value} (h : w.cell? q = some v) (hne : q.block ≠ g) : ((((((w.setCell ⟨g, 0, none⟩ u0).setCell ⟨g, 1, none⟩ u1).setCell ⟨g, 2, none⟩ u2).setCell ⟨g, 3, none⟩ u3).setCell ⟨g, 4, none⟩ u4).setCell ⟨g, 5, none⟩ u5).cell? q = some v :=
  bs1 (bs1 (bs1 (bs1 (bs1 (bs1 h hne) hne) hne) hne) hne) hne
/-- A whole struct stored into a block that is known whole, at a step of a region that draws its order. -/
theorem step_store_blk {P : Program} {ops : Array Oper} {o : Oper} {a : Act} {w : World} {K : Act → World → Prop} {Q : Exit → Act → World → Prop} {E : Prop} (hgd : o.guard = none) (ty : TypeId) (x y : Operand) (ho : o.op = .store ty x y)
    (g : Nat) (cells : Array Value) (hx : a.eval x = .pointer (some ⟨g, 0, none⟩)) (hy : a.eval y = .agg cells) (t : TypeId) (old : Array Value) (hg : w.heap[g]? = some (.cells old t (0, 0))) (hi : (P.info? ty).map (·.size) = some cells.size)
    (hold : old.size = cells.size) (h1 : cells.all (·.oneCell') = true)
    (h : ∀ w1, w1.heap[g]? = some (.cells cells t (0, 0)) → w.grownBy w1 (some g) → w1.heap.size = w.heap.size → K (a.put o.dst undef) w1) : if Region.wanted o (yielded ops a.tmps) = true then Oper.wp P o a w K Q else E := by
  have hw : Region.wanted o (yielded ops a.tmps) = true := by simp [Region.wanted, hgd]
  rw [if_pos hw]
  refine wp_store_row ty x y ho g cells hx hy t old hg hi hold h1 ?_
  exact h _ (setRow_heap w g old cells t (0, 0) hg) ⟨rfl, rfl, rfl, by simp, fun k _ hne => setRow_other w g k cells (fun e => hne (by rw [e]))⟩ (by simp)
theorem Fr.grown_low {B : Nat} {w w1 : World} {x : D} {cs : List Value} {g : Nat} (h : Fr B w x cs) (hg : w.grownBy w1 (some g)) (hB : g < B) : Fr B w1 x cs := by
  obtain ⟨fp, h, ho⟩ := h
  have hm : ∀ k ∈ fp, w1.heap[k]? = w.heap[k]? := fun k hk => hg.block k (ho.2 k hk).2.lt (fun e => by injection e with e; have := (ho.2 k hk).1; omega)
  exact ⟨fp, D.K_move x hm hg.size h, ho.1, fun k hk => ⟨(ho.2 k hk).1, (ho.2 k hk).2.move (hm k hk)⟩⟩
theorem grown_cell {w w1 : World} {g : Nat} {q : Addr} {v : Value} (hg : w.grownBy w1 (some g)) (h : w.cell? q = some v) (hne : q.block ≠ g) : w1.cell? q = some v :=
  (World.cell?_of_block (a := q) (hg.block _ (World.block_lt_of_cell? w _ h) (fun e => hne (by injection e)))).trans h
theorem grown_set6 (w : World) (g : Nat) (u0 u1 u2 u3 u4 u5 : Value) : w.grownBy ((((((w.setCell ⟨g, 0, none⟩ u0).setCell ⟨g, 1, none⟩ u1).setCell ⟨g, 2, none⟩ u2).setCell ⟨g, 3, none⟩ u3).setCell ⟨g, 4, none⟩ u4).setCell ⟨g, 5, none⟩ u5) (some g) :=
  grown_set (p := ⟨g, 5, none⟩) (grown_set (p := ⟨g, 4, none⟩) (grown_set4 w g u0 u1 u2 u3))
theorem infoSch : (Try.prog.info? 39).map (·.size) = some 6 := by kernel_rfl
theorem leaf_K (w : World) (k d : Int) (n : ByteArray) (A : Option Addr) (c : Nat) (hc : c ≤ maxLen) : D.K w (Ty.mk k d n []).enc [.int .i64 k, .int .i64 d, .string n, .slice A 0 c] [] := by
  simp only [Ty.enc, Ty.encs, D.K, D.Fields]
  exact ⟨[.int .i64 k], _, [], [], rfl, rfl, ⟨rfl, rfl⟩, [.int .i64 d], _, [], [], rfl, rfl, ⟨rfl, rfl⟩, [.string n], _, [], [], rfl, rfl, ⟨rfl, rfl⟩, [.slice A 0 c], [], [], [], rfl, rfl, ⟨A, c, rfl, Nat.zero_le _, hc, .inl (by simp)⟩, rfl, rfl⟩
theorem fr_leaf (B : Nat) (w : World) (k d : Int) (n : ByteArray) (A : Option Addr) (c : Nat) (hc : c ≤ maxLen) : Fr B w (Ty.mk k d n []).enc [.int .i64 k, .int .i64 d, .string n, .slice A 0 c] := ⟨[], leaf_K w k d n A c hc, Own.nil _ _⟩
theorem frF_leaf {B : Nat} {w : World} {x : D} {cs : List Value} (k d : Int) (n : ByteArray) (A : Option Addr) (c : Nat) (hc : c ≤ maxLen) (h : Fr B w x cs) : FrF B w [(Ty.mk k d n []).enc, x] ([.int .i64 k, .int .i64 d, .string n, .slice A 0 c] ++ cs) := by
  obtain ⟨f, h, ho⟩ := h
  exact ⟨f, by simp only [D.Fields]; exact ⟨_, cs, [], f, rfl, rfl, leaf_K w k d n A c hc, cs, [], f, [], by simp, by simp, h, rfl, rfl⟩, ho⟩
theorem frF_leaf' {B : Nat} {w : World} {x : D} {cs : List Value} (k d : Int) (n : ByteArray) (A : Option Addr) (c : Nat) (hc : c ≤ maxLen) (h : Fr B w x cs) : FrF B w [x, (Ty.mk k d n []).enc] (cs ++ [.int .i64 k, .int .i64 d, .string n, .slice A 0 c]) := by
  obtain ⟨f, h, ho⟩ := h
  exact ⟨f, by simp only [D.Fields]; exact ⟨cs, _, f, [], rfl, by simp, h, _, [], [], [], by simp, rfl, leaf_K w k d n A c hc, rfl, rfl⟩, ho⟩
/-- What lies in four cells is a type with these parts. -/
def IsCon (B : Nat) (w : World) (n : ByteArray) (ys : List Ty) (A : Option Addr) (c : Nat) : Prop := Fr B w (Ty.mk 3 0 n ys).enc [.int .i64 3, .int .i64 0, .string n, .slice A ys.length c] ∧ c ≤ maxLen
theorem isCon_of {B : Nat} {w : World} {n : ByteArray} {ys : List Ty} {cs : List Value} (h : Fr B w (Ty.mk 3 0 n ys).enc cs) : ∃ A c, cs = [.int .i64 3, .int .i64 0, .string n, .slice A ys.length c] ∧ IsCon B w n ys A c := by
  obtain ⟨A, c, rfl, _, hc, _⟩ := Ty.open_ h.rd
  exact ⟨A, c, rfl, h, hc⟩
theorem IsCon.below {B : Nat} {w w1 : World} {n : ByteArray} {ys : List Ty} {A : Option Addr} {c : Nat} (h : IsCon B w n ys A c) (hb : Below w.heap.size w w1) : IsCon B w1 n ys A c := ⟨h.1.below hb, h.2⟩
theorem IsCon.grown_low {B : Nat} {w w1 : World} {n : ByteArray} {ys : List Ty} {A : Option Addr} {c g : Nat} (h : IsCon B w n ys A c) (hg : w.grownBy w1 (some g)) (hB : g < B) : IsCon B w1 n ys A c := ⟨h.1.grown_low hg hB, h.2⟩
theorem IsCon.lower {B B' : Nat} {w : World} {n : ByteArray} {ys : List Ty} {A : Option Addr} {c : Nat} (h : IsCon B w n ys A c) (hB : B' ≤ B) : IsCon B' w n ys A c := ⟨h.1.lower hB, h.2⟩
theorem con0S (w : World) (n : ByteArray) :
    Calls Try.prog 67 #[.string n, .slice none 0 0] w fun e w' => ∃ A c, e = .returned (.agg #[.int .i64 3, .int .i64 0, .string n, .slice A 0 c]) ∧ c ≤ maxLen ∧ Below w.heap.size w w' :=
  (conS0 w n).mono fun e w' ⟨cs', he, hf, hb⟩ => by
    obtain ⟨A, c, rfl, h1, h2⟩ := isCon_of hf
    exact ⟨A, c, he, h2, hb⟩
theorem con2I (w : World) (B : Nat) (xu xv : Ty) (u0 u1 u2 u3 v0 v1 v2 v3 : Value) (h : FrF B w [xu.enc, xv.enc] [u0, u1, u2, u3, v0, v1, v2, v3]) (hB : B ≤ w.heap.size) :
    Calls Try.prog 73 #[.agg #[u0, u1, u2, u3], .agg #[v0, v1, v2, v3]] w fun e w' => ∃ A c, e = .returned (.agg #[.int .i64 3, .int .i64 0, .string ⟨#[45, 62]⟩, .slice A 2 c]) ∧ IsCon B w' ⟨#[45, 62]⟩ [xu, xv] A c ∧ Below w.heap.size w w' :=
  (funI w B xu xv u0 u1 u2 u3 v0 v1 v2 v3 h hB).mono fun e w' ⟨cs', he, hf, hb⟩ => by
    obtain ⟨A, c, rfl, h1⟩ := isCon_of hf
    exact ⟨A, c, he, h1, hb⟩
theorem con1I (w : World) (B : Nat) (xu : Ty) (u0 u1 u2 u3 : Value) (h : FrF B w [xu.enc] [u0, u1, u2, u3]) (hB : B ≤ w.heap.size) :
    Calls Try.prog 72 #[.agg #[u0, u1, u2, u3]] w fun e w' => ∃ A c, e = .returned (.agg #[.int .i64 3, .int .i64 0, .string ⟨#[91, 93]⟩, .slice A 1 c]) ∧ IsCon B w' ⟨#[91, 93]⟩ [xu] A c ∧ Below w.heap.size w w' :=
  (listI w B xu u0 u1 u2 u3 h hB).mono fun e w' ⟨cs', he, hf, hb⟩ => by
    obtain ⟨A, c, rfl, h1⟩ := isCon_of hf
    exact ⟨A, c, he, h1, hb⟩
theorem cellsAt_blk {w : World} {g : Nat} {cs : List Value} {T : TypeId} {fz : Nat × Nat} (h : w.heap[g]? = some (.cells cs.toArray T fz)) : CellsAt w g 0 cs := fun j u hu => by
  rw [Nat.zero_add]
  exact (blk_cell h j).trans (by simpa using hu)
set_option maxRecDepth 100000 in
theorem con1S (w : World) (B : Nat) (xu : Ty) (u0 u1 u2 u3 : Value) (h : FrF B w [xu.enc] [u0, u1, u2, u3]) (hB : B ≤ w.heap.size) :
    Calls Try.prog 70 #[.agg #[u0, u1, u2, u3]] w fun e w' => ∃ A c, e = .returned (.agg #[.int .i64 3, .int .i64 0, .string ⟨#[91, 93]⟩, .slice A 1 c]) ∧ IsCon B w' ⟨#[91, 93]⟩ [xu] A c ∧ Below w.heap.size w w' := by
  have ONE : Hid (∀ u ∈ [u0, u1, u2, u3], u.oneCell' = true) := by
    obtain ⟨f, hF, _⟩ := h
    exact D.Fields_one _ hF
  have HW : Hid (Below w.heap.size w (((w.alloc (.cells #[u0, u1, u2, u3] 30)).alloc (.cells #[.int .i64 0, .int .i64 0, .string ⟨#[]⟩, .slice none 0 0] 30)).alloc (.cells #[u0, u1, u2, u3] 30))) := ((((Below.refl w.heap.size w).alloc (by first | exact Nat.le_refl _ | (simp; done) | (simp; omega)) _).alloc (by first | exact Nat.le_refl _ | (simp; done) | (simp; omega)) _).alloc (by first | exact Nat.le_refl _ | (simp; done) | (simp; omega)) _)
  have HR := Lib.hid (blk_old (blk_new_g (w := (w.alloc (.cells #[u0, u1, u2, u3] 30))) (g := w.heap.size + 1) (o := .cells #[.int .i64 0, .int .i64 0, .string ⟨#[]⟩, .slice none 0 0] 30) (by simp)) (.cells #[u0, u1, u2, u3] 30))
  have CAL := Lib.hid (conS w (((w.alloc (.cells #[u0, u1, u2, u3] 30)).alloc (.cells #[.int .i64 0, .int .i64 0, .string ⟨#[]⟩, .slice none 0 0] 30)).alloc (.cells #[u0, u1, u2, u3] 30)) B ⟨#[91, 93]⟩ [xu] [u0, u1, u2, u3] _ (w.heap.size + 1 + 1) 1 rfl h rfl HW.out (cellsAt_blk (cs := [u0, u1, u2, u3]) (blk_new_g (w := ((w.alloc (.cells #[u0, u1, u2, u3] 30)).alloc (.cells #[.int .i64 0, .int .i64 0, .string ⟨#[]⟩, .slice none 0 0] 30))) (o := .cells #[u0, u1, u2, u3] 30) (by simp))) (by simp) (by simp) (by simp) hB)
  clear h
  go_enter Try.func70, Try.ntmps70
  go_wp2_with fail
  refine CAL.out.mono ?_
  rintro e w1 ⟨A, c, rfl, hc, hf, hb⟩
  have BZ := Lib.hid (blk_below HR.out hb)
  have HF := Lib.hid hf
  have CM := Lib.hid hc
  have SZ := Lib.hid (show w.heap.size + 1 + 1 + 1 ≤ w1.heap.size by have := hb.size; simp at this; omega)
  have HB := Lib.hid (HW.out.trans (hb.mono HW.out.size))
  clear hb hf hc HR CAL
  have zr0 : World.cell? w1 ⟨w.heap.size + 1, 0, none⟩ = some (.int .i64 0) := (blk_cell BZ.out 0).trans rfl
  have zr1 : World.cell? w1 ⟨w.heap.size + 1, 1, none⟩ = some (.int .i64 0) := (blk_cell BZ.out 1).trans rfl
  have zr2 : World.cell? w1 ⟨w.heap.size + 1, 2, none⟩ = some (.string ⟨#[]⟩) := (blk_cell BZ.out 2).trans rfl
  have zr3 : World.cell? w1 ⟨w.heap.size + 1, 3, none⟩ = some (.slice none 0 0) := (blk_cell BZ.out 3).trans rfl
  have zf0 := blk_frozen BZ.out 0
  have zf1 := blk_frozen BZ.out 1
  have zf2 := blk_frozen BZ.out 2
  have zf3 := blk_frozen BZ.out 3
  go_wp2
  have GR := grown_set4 w1 (w.heap.size + 1) (.int .i64 3) (.int .i64 0) (.string ⟨#[91, 93]⟩) (.slice A 1 c)
  refine bodyPost_ret (v := .agg #[.int .i64 3, .int .i64 0, .string ⟨#[91, 93]⟩, .slice A 1 c]) (by simp [results, Try.results70, go_sem, zr0, zr1, zr2, zr3]) rfl ⟨_, _, rfl, ⟨?_, CM.out⟩, HB.out.grown GR HB.out.size (fun q hq => by injection hq with hq; omega)⟩
  refine HF.out _ GR.size fun k hk hc => GR.block k hk fun he => ?_
  injection he with he
  subst he
  rcases hc with hc | hc
  · omega
  · simp at hc
    omega
set_option maxRecDepth 100000 in
theorem con2S (w : World) (B : Nat) (xu xv : Ty) (u0 u1 u2 u3 v0 v1 v2 v3 : Value) (h : FrF B w [xu.enc, xv.enc] [u0, u1, u2, u3, v0, v1, v2, v3]) (hB : B ≤ w.heap.size) :
    Calls Try.prog 69 #[.agg #[u0, u1, u2, u3], .agg #[v0, v1, v2, v3]] w fun e w' => ∃ A c, e = .returned (.agg #[.int .i64 3, .int .i64 0, .string ⟨#[45, 62]⟩, .slice A 2 c]) ∧ IsCon B w' ⟨#[45, 62]⟩ [xu, xv] A c ∧ Below w.heap.size w w' := by
  have ONE : Hid (∀ u ∈ [u0, u1, u2, u3, v0, v1, v2, v3], u.oneCell' = true) := by
    obtain ⟨f, hF, _⟩ := h
    exact D.Fields_one _ hF
  have HW : Hid (Below w.heap.size w ((((w.alloc (.cells #[u0, u1, u2, u3] 30)).alloc (.cells #[v0, v1, v2, v3] 30)).alloc (.cells #[.int .i64 0, .int .i64 0, .string ⟨#[]⟩, .slice none 0 0] 30)).alloc (.cells #[u0, u1, u2, u3, v0, v1, v2, v3] 30))) := (((((Below.refl w.heap.size w).alloc (by first | exact Nat.le_refl _ | (simp; done) | (simp; omega)) _).alloc (by first | exact Nat.le_refl _ | (simp; done) | (simp; omega)) _).alloc (by first | exact Nat.le_refl _ | (simp; done) | (simp; omega)) _).alloc (by first | exact Nat.le_refl _ | (simp; done) | (simp; omega)) _)
  have HR := Lib.hid (blk_old (blk_new_g (w := ((w.alloc (.cells #[u0, u1, u2, u3] 30)).alloc (.cells #[v0, v1, v2, v3] 30))) (g := w.heap.size + 1 + 1) (o := .cells #[.int .i64 0, .int .i64 0, .string ⟨#[]⟩, .slice none 0 0] 30) (by simp)) (.cells #[u0, u1, u2, u3, v0, v1, v2, v3] 30))
  have CAL := Lib.hid (conS w ((((w.alloc (.cells #[u0, u1, u2, u3] 30)).alloc (.cells #[v0, v1, v2, v3] 30)).alloc (.cells #[.int .i64 0, .int .i64 0, .string ⟨#[]⟩, .slice none 0 0] 30)).alloc (.cells #[u0, u1, u2, u3, v0, v1, v2, v3] 30)) B ⟨#[45, 62]⟩ [xu, xv] [u0, u1, u2, u3, v0, v1, v2, v3] _ (w.heap.size + 1 + 1 + 1) 2 rfl h rfl HW.out (cellsAt_blk (cs := [u0, u1, u2, u3, v0, v1, v2, v3]) (blk_new_g (w := (((w.alloc (.cells #[u0, u1, u2, u3] 30)).alloc (.cells #[v0, v1, v2, v3] 30)).alloc (.cells #[.int .i64 0, .int .i64 0, .string ⟨#[]⟩, .slice none 0 0] 30))) (o := .cells #[u0, u1, u2, u3, v0, v1, v2, v3] 30) (by simp))) (by simp) (by simp) (by simp) hB)
  clear h
  go_enter Try.func69, Try.ntmps69
  go_wp2_with fail
  refine CAL.out.mono ?_
  rintro e w1 ⟨A, c, rfl, hc, hf, hb⟩
  have BZ := Lib.hid (blk_below HR.out hb)
  have HF := Lib.hid hf
  have CM := Lib.hid hc
  have SZ := Lib.hid (show w.heap.size + 1 + 1 + 1 + 1 ≤ w1.heap.size by have := hb.size; simp at this; omega)
  have HB := Lib.hid (HW.out.trans (hb.mono HW.out.size))
  clear hb hf hc HR CAL
  have zr0 : World.cell? w1 ⟨w.heap.size + 1 + 1, 0, none⟩ = some (.int .i64 0) := (blk_cell BZ.out 0).trans rfl
  have zr1 : World.cell? w1 ⟨w.heap.size + 1 + 1, 1, none⟩ = some (.int .i64 0) := (blk_cell BZ.out 1).trans rfl
  have zr2 : World.cell? w1 ⟨w.heap.size + 1 + 1, 2, none⟩ = some (.string ⟨#[]⟩) := (blk_cell BZ.out 2).trans rfl
  have zr3 : World.cell? w1 ⟨w.heap.size + 1 + 1, 3, none⟩ = some (.slice none 0 0) := (blk_cell BZ.out 3).trans rfl
  have zf0 := blk_frozen BZ.out 0
  have zf1 := blk_frozen BZ.out 1
  have zf2 := blk_frozen BZ.out 2
  have zf3 := blk_frozen BZ.out 3
  go_wp2
  have GR := grown_set4 w1 (w.heap.size + 1 + 1) (.int .i64 3) (.int .i64 0) (.string ⟨#[45, 62]⟩) (.slice A 2 c)
  refine bodyPost_ret (v := .agg #[.int .i64 3, .int .i64 0, .string ⟨#[45, 62]⟩, .slice A 2 c]) (by simp [results, Try.results69, go_sem, zr0, zr1, zr2, zr3]) rfl ⟨_, _, rfl, ⟨?_, CM.out⟩, HB.out.grown GR HB.out.size (fun q hq => by injection hq with hq; omega)⟩
  refine HF.out _ GR.size fun k hk hc => GR.block k hk fun he => ?_
  injection he with he
  subst he
  rcases hc with hc | hc
  · omega
  · simp at hc
    omega

end Go.Proofs.Ytbbpkjcmbakfeaa
