/- What the laws' own helpers do that write marks into an answer and look for them again; what a call keeps. No program is named here. -/
import Derived.Test.YthidbmjdphfddaaDoorHs
namespace Go.Proofs.YthidbmjdphfddaaDoor
open Go.RowKit
set_option linter.unusedVariables false
set_option linter.unusedSimpArgs false

/-- Digits of a number. -/
def digsN (n : Nat) : List UInt8 := if n < 10 then [UInt8.ofNat (48 + n)] else digsN (n / 10) ++ [UInt8.ofNat (48 + n % 10)]
termination_by n
decreasing_by omega
/-- The text of mark k. -/
def markT (k : Nat) : ByteArray := ⟨(109 :: digsN k).toArray⟩
mutual
/-- How many marks a value bears, all its cells and what it leads to. -/
def D.cnt : D → Nat
  | .int _ _ => 1
  | .bool _ => 1
  | .str _ => 1
  | .slice _ xs => D.cnts xs
  | .struct fs => D.cnts fs
def D.cnts : List D → Nat
  | [] => 0
  | x :: xs => x.cnt + D.cnts xs
end
mutual
/-- Marked from k on. -/
def D.mark : D → Nat → D
  | .int kd _, k => .int kd (kd.wrap k)
  | .bool _, k => .bool (k % 3 == 0)
  | .str _, k => .str (markT k)
  | .slice sz xs, k => .slice sz (D.marks xs k)
  | .struct fs, k => .struct (D.marks fs k)
def D.marks : List D → Nat → List D
  | [], _ => []
  | x :: xs, k => x.mark k :: D.marks xs (k + x.cnt)
end
mutual
/-- How many marks what a value leads to bears. -/
def D.tcnt : D → Nat
  | .int _ _ => 0
  | .bool _ => 0
  | .str _ => 0
  | .slice _ xs => D.cnts xs
  | .struct fs => D.tcnts fs
def D.tcnts : List D → Nat
  | [] => 0
  | x :: xs => x.tcnt + D.tcnts xs
end
mutual
/-- What a value leads to is marked from k on. -/
def D.top : D → Nat → D
  | .int kd n, _ => .int kd n
  | .bool b, _ => .bool b
  | .str s, _ => .str s
  | .slice sz xs, k => .slice sz (D.marks xs k)
  | .struct fs, k => .struct (D.tops fs k)
def D.tops : List D → Nat → List D
  | [], _ => []
  | x :: xs, k => x.top k :: D.tops xs (k + x.tcnt)
end
theorem D.cnts_append (xs ys : List D) : D.cnts (xs ++ ys) = D.cnts xs + D.cnts ys := by
  induction xs with
  | nil => simp [D.cnts]
  | cons x xs ih => simp [D.cnts, ih, Nat.add_assoc]
theorem D.marks_append (xs ys : List D) (k : Nat) : D.marks (xs ++ ys) k = D.marks xs k ++ D.marks ys (k + D.cnts xs) := by
  induction xs generalizing k with
  | nil => simp [D.cnts, D.marks]
  | cons x xs ih => simp [D.cnts, D.marks, ih, Nat.add_assoc]
theorem D.marks_length (xs : List D) (k : Nat) : (D.marks xs k).length = xs.length := by
  induction xs generalizing k with
  | nil => rfl
  | cons x xs ih => simp [D.marks, ih]

/-- Of what there was, blocks fp alone may have been written; those are still rows. -/
structure TouchF (fp : List Nat) (w w' : World) : Prop where
  os : w'.os = w.os
  tape : w'.tape = w.tape
  output : w'.output = w.output
  size : w.heap.size ≤ w'.heap.size
  block : ∀ k, k < w.heap.size → k ∉ fp → w'.heap[k]? = w.heap[k]?
  live : ∀ k ∈ fp, Live w k → Live w' k
theorem TouchF.refl (fp : List Nat) (w : World) : TouchF fp w w := ⟨rfl, rfl, rfl, Nat.le_refl _, fun _ _ _ => rfl, fun _ _ h => h⟩
theorem TouchF.trans {fp : List Nat} {a b c : World} (h : TouchF fp a b) (k : TouchF fp b c) : TouchF fp a c :=
  ⟨k.os.trans h.os, k.tape.trans h.tape, k.output.trans h.output, Nat.le_trans h.size k.size, fun i hi hn => (k.block i (Nat.lt_of_lt_of_le hi h.size) hn).trans (h.block i hi hn), fun i hi hl => k.live i hi (h.live i hi hl)⟩
theorem TouchF.mono {fp fq : List Nat} {w w' : World} (h : TouchF fp w w') (hs : ∀ k ∈ fp, k ∈ fq) : TouchF fq w w' :=
  ⟨h.os, h.tape, h.output, h.size, fun k hk hn => h.block k hk (fun hm => hn (hs k hm)), fun k hk hl => by
    by_cases hm : k ∈ fp
    · exact h.live k hm hl
    · exact hl.move (h.block k hl.lt hm)⟩
theorem TouchF.of_below {fp : List Nat} {w w' : World} (h : Below w.heap.size w w') : TouchF fp w w' :=
  ⟨h.os, h.tape, h.output, h.size, fun k hk _ => h.block k hk, fun k _ hl => hl.below h⟩
theorem Live.setCell {w : World} {b : Nat} (h : Live w b) (p : Addr) (u : Value) : Live (w.setCell p u) b := by
  obtain ⟨cur, e, h⟩ := h
  by_cases hp : b = p.block
  · subst hp
    refine ⟨if p.spot.isSome = true then cur else cur.setIfInBounds p.off u, e, ?_⟩
    simp only [World.setCell, Array.getElem?_modify]
    rw [if_pos True.intro, h]
    rfl
  · exact ⟨cur, e, (Below.heap_setCell w p u b hp).trans h⟩
theorem TouchF.set {fp : List Nat} {w : World} {b o : Nat} (hb : b ∈ fp) (u : Value) : TouchF fp w (w.setCell ⟨b, o, none⟩ u) :=
  ⟨rfl, rfl, rfl, by simp [World.setCell], fun k hk hn => Below.heap_setCell w _ u k (fun e => hn (e ▸ hb)), fun k _ hl => hl.setCell _ u⟩
/-- Blocks of a range alone may have been written. -/
structure Touch (B C : Nat) (w w' : World) : Prop where
  os : w'.os = w.os
  tape : w'.tape = w.tape
  output : w'.output = w.output
  size : w.heap.size ≤ w'.heap.size
  block : ∀ k, k < w.heap.size → (k < B ∨ C ≤ k) → w'.heap[k]? = w.heap[k]?
theorem TouchF.range {fp : List Nat} {B C : Nat} {w w' : World} (h : TouchF fp w w') (hs : ∀ k ∈ fp, B ≤ k ∧ k < C) : Touch B C w w' :=
  ⟨h.os, h.tape, h.output, h.size, fun k hk hn => h.block k hk (fun hm => by have := hs k hm; omega)⟩
theorem Touch.below {B C n : Nat} {a w w' : World} (h : Touch B C w w') (hb : Below n a w) (hn : n ≤ B) (hw : n ≤ w.heap.size) : Below n a w' :=
  hb.trans ⟨h.os, h.tape, h.output, h.size, fun k hk => h.block k (by omega) (.inl (by omega))⟩

theorem blk_new_at {w : World} {o : Obj} {g : Nat} (h : g = w.heap.size) : (w.alloc o).heap[g]? = some o := by subst h; exact blk_new w o

/-! ### What stands: blocks and data, as they are told -/
inductive As where
  | blk (g : Nat) (o : Obj)
  | dat (B C : Nat) (x : D) (cs : List Value)
def As.ok (w : World) : As → Prop
  | .blk g o => w.heap[g]? = some o
  | .dat B C x cs => FrR B C w x cs
def As.apart (B C : Nat) : As → Prop
  | .blk g _ => g < B ∨ C ≤ g
  | .dat B' C' _ _ => C' ≤ B ∨ C ≤ B'
def Has (L : List As) (w : World) : Prop := ∀ a ∈ L, a.ok w
theorem Has.nil (w : World) : Has [] w := fun _ h => by cases h
theorem Has.add {L : List As} {w : World} {a : As} (h : Has L w) (ha : a.ok w) : Has (a :: L) w := fun b hb => by
  rcases List.mem_cons.1 hb with rfl | hb
  · exact ha
  · exact h b hb
theorem Has.tail {L : List As} {w : World} {a : As} (h : Has (a :: L) w) : Has L w := fun b hb => h b (List.mem_cons_of_mem _ hb)
theorem Has.below {L : List As} {w w1 : World} (h : Has L w) (hb : Below w.heap.size w w1) : Has L w1 := fun a ha => by
  have := h a ha
  cases a with
  | blk g o => exact blk_below this hb
  | dat B C x cs => exact FrR.below this hb
theorem FrR.touch {B C B' C' : Nat} {w w1 : World} {x : D} {cs : List Value} (h : FrR B C w x cs) (ht : Touch B' C' w w1) (ha : C ≤ B' ∨ C' ≤ B) : FrR B C w1 x cs := by
  obtain ⟨fp, h, ho, hc⟩ := h
  have hm : ∀ k ∈ fp, w1.heap[k]? = w.heap[k]? := fun k hk => ht.block k (D.K_lt x h k hk) (by have := hc k hk; have := (ho.2 k hk).1; omega)
  exact ⟨fp, D.K_move x hm ht.size h, ⟨ho.1, fun k hk => ⟨(ho.2 k hk).1, (ho.2 k hk).2.move (hm k hk)⟩⟩, hc⟩
theorem Has.touch {L : List As} {w w1 : World} {B C : Nat} (h : Has L w) (ht : Touch B C w w1) (ha : ∀ a ∈ L, a.apart B C) : Has L w1 := fun a hm => by
  have h1 := h a hm
  have h2 := ha a hm
  cases a with
  | blk g o => exact (ht.block g (blk_lt h1) h2).trans h1
  | dat B' C' x cs => exact FrR.touch h1 ht h2
theorem Has.drew {L : List As} {w : World} (h : Has L w) : Has L w.drew := h.below (Below.refl _ _).drew
theorem Has.blk {L : List As} {w : World} {g : Nat} {o : Obj} (h : Has L w) (hm : As.blk g o ∈ L) : w.heap[g]? = some o := h _ hm
theorem Has.dat {L : List As} {w : World} {B C : Nat} {x : D} {cs : List Value} (h : Has L w) (hm : As.dat B C x cs ∈ L) : FrR B C w x cs := h _ hm
theorem Has.use_blk {L : List As} {w : World} {G : Prop} {g : Nat} {o : Obj} (h : Has L w) (hm : As.blk g o ∈ L) (k : w.heap[g]? = some o → G) : G := k (h.blk hm)
theorem alloc_sz (w : World) (o : Obj) : (w.alloc o).heap.size = w.heap.size + 1 := by simp
theorem alloc_le (w : World) (o : Obj) : w.heap.size ≤ (w.alloc o).heap.size := by simp
theorem lt_of_alloc {w w1 : World} {o : Obj} (h : (w.alloc o).heap.size ≤ w1.heap.size) : w.heap.size + 1 ≤ w1.heap.size := by rw [alloc_sz] at h; exact h
theorem le_of_alloc {w w1 : World} {o : Obj} (h : (w.alloc o).heap.size ≤ w1.heap.size) : w.heap.size ≤ w1.heap.size := Nat.le_trans (alloc_le w o) h
theorem FrR.lower {B B' C : Nat} {w : World} {x : D} {cs : List Value} (h : FrR B C w x cs) (hB : B' ≤ B) : FrR B' C w x cs := by
  obtain ⟨fp, h, ho, hc⟩ := h
  exact ⟨fp, h, ho.lower hB, hc⟩
theorem FrR.rd {B C : Nat} {w : World} {x : D} {cs : List Value} (h : FrR B C w x cs) : Rd w x cs := h.fr.rd

/-- A whole struct into the block that was made last; the world by name. -/
theorem wpl_store_new' {P : Program} {ops : Array Oper} {rest : List Oper} {o : Oper} {a : Act} {w : World} {Q : Exit → Act → World → Prop} (hgd : o.guard = none) (ty : TypeId) (x y : Operand) (ho : o.op = .store ty x y) (c c' : Array Value)
    (hx : a.eval x = .pointer (some ⟨w.heap.size, 0, none⟩)) (hy : a.eval y = .agg c') (hi : (P.info? ty).map (·.size) = some c'.size) (hold : c.size = c'.size) (h1 : c'.all (·.oneCell') = true)
    (h : ∀ w1, w1.heap[w.heap.size]? = some (.cells c' ty (0, 0)) → Below w.heap.size w w1 → w1.heap.size = w.heap.size + 1 → wpList P ops Q rest (a.put o.dst undef) w1) : wpList P ops Q (o :: rest) a (w.alloc (.cells c ty)) :=
  wpl_store_new hgd ty x y ho c c' hx hy hi hold h1 (h _ (heap_alloc_new w _) ((Below.refl _ _).alloc (Nat.le_refl _) _) (by simp))

theorem run_store_one {P : Program} {v : Value} (h : v.oneCell' = true) : ∀ (W : World) (a : Addr) (m : Mode), (store a v m).run P W = stored P W a v m := fun W a m => run_store P W a v m h
/-! ### The helpers -/
def MkO (P : Program) (f : FuncId) (x : D) : Prop := ∀ (w : World) (v : Value) (fp : List Nat) (k : Nat), D.K w x [v] fp → fp.Nodup → (∀ j ∈ fp, Live w j) → k + x.tcnt ≤ 1125899906842624 →
  Calls P f #[v, .int .i64 k] w fun e w' => e = .returned (.int .i64 ((k + x.tcnt : Nat) : Int)) ∧ D.K w' (x.top k) [v] fp ∧ TouchF fp w w'
def MkA (P : Program) (f : FuncId) (x : D) : Prop := ∀ (w : World) (cs : List Value) (fp : List Nat) (k : Nat), D.K w x cs fp → fp.Nodup → (∀ j ∈ fp, Live w j) → k + x.tcnt ≤ 1125899906842624 →
  Calls P f #[.agg cs.toArray, .int .i64 k] w fun e w' => e = .returned (.int .i64 ((k + x.tcnt : Nat) : Int)) ∧ D.K w' (x.top k) cs fp ∧ TouchF fp w w'
def HdO (P : Program) (f : FuncId) (x : D) : Prop := ∀ (w : World) (v : Value) (k : Nat), Rd w (x.top k) [v] → k + x.tcnt ≤ 1125899906842624 →
  Calls P f #[v, .int .i64 k] w fun e w' => e = .returned (.int .i64 ((k + x.tcnt : Nat) : Int)) ∧ Below w.heap.size w w'
def HdA (P : Program) (f : FuncId) (x : D) : Prop := ∀ (w : World) (cs : List Value) (k : Nat), Rd w (x.top k) cs → k + x.tcnt ≤ 1125899906842624 →
  Calls P f #[.agg cs.toArray, .int .i64 k] w fun e w' => e = .returned (.int .i64 ((k + x.tcnt : Nat) : Int)) ∧ Below w.heap.size w w'
theorem mk_range {B C : Nat} {w w' : World} {x y : D} {cs : List Value} {fp : List Nat} (ho : Own B w fp) (hc : ∀ k ∈ fp, k < C) (hk : D.K w' y cs fp) (ht : TouchF fp w w') : FrR B C w' y cs ∧ Touch B C w w' :=
  ⟨⟨fp, hk, ⟨ho.1, fun k hm => ⟨(ho.2 k hm).1, ht.live k hm (ho.2 k hm).2⟩⟩, hc⟩, ht.range fun k hm => ⟨(ho.2 k hm).1, hc k hm⟩⟩
/-- A helper that marks, told by ranges. -/
theorem MkA.range {P : Program} {f : FuncId} {x : D} (h : MkA P f x) {B C : Nat} {w : World} {cs : List Value} {k : Nat} (hf : FrR B C w x cs) (hk : k + x.tcnt ≤ 1125899906842624) :
    Calls P f #[.agg cs.toArray, .int .i64 k] w fun e w' => e = .returned (.int .i64 ((k + x.tcnt : Nat) : Int)) ∧ FrR B C w' (x.top k) cs ∧ Touch B C w w' := by
  obtain ⟨fp, h1, ho, hc⟩ := hf
  refine (h w cs fp k h1 ho.1 (fun j hj => (ho.2 j hj).2) hk).mono ?_
  rintro e w' ⟨rfl, h2, h3⟩
  exact ⟨rfl, mk_range (x := x) ho hc h2 h3⟩
theorem MkO.range {P : Program} {f : FuncId} {x : D} (h : MkO P f x) {B C : Nat} {w : World} {v : Value} {k : Nat} (hf : FrR B C w x [v]) (hk : k + x.tcnt ≤ 1125899906842624) :
    Calls P f #[v, .int .i64 k] w fun e w' => e = .returned (.int .i64 ((k + x.tcnt : Nat) : Int)) ∧ FrR B C w' (x.top k) [v] ∧ Touch B C w w' := by
  obtain ⟨fp, h1, ho, hc⟩ := hf
  refine (h w v fp k h1 ho.1 (fun j hj => (ho.2 j hj).2) hk).mono ?_
  rintro e w' ⟨rfl, h2, h3⟩
  exact ⟨rfl, mk_range (x := x) ho hc h2 h3⟩

/-! ### A row, leaf by leaf -/
theorem D.Row_app {w : World} {b : Nat} : ∀ {xs ys : List D} {off : Nat} {fp : List Nat}, D.Row w b off 1 (xs ++ ys) fp ↔ ∃ f g, fp = f ++ g ∧ D.Row w b off 1 xs f ∧ D.Row w b (off + xs.length) 1 ys g
  | [], ys, off, fp => by
    simp only [List.nil_append, D.Row]
    exact ⟨fun h => ⟨[], fp, rfl, rfl, by simpa using h⟩, fun ⟨f, g, h1, h2, h3⟩ => by subst h2; simp at h1 h3; rw [h1]; exact h3⟩
  | x :: xs, ys, off, fp => by
    simp only [List.cons_append, D.Row]
    constructor
    · rintro ⟨cs, f1, f2, rfl, h1, h2, h3, h4⟩
      obtain ⟨f, g, rfl, h5, h6⟩ := D.Row_app.1 h4
      exact ⟨f1 ++ f, g, by simp, ⟨cs, f1, f, rfl, h1, h2, h3, h5⟩, by rw [List.length_cons, show off + (xs.length + 1) = off + 1 + xs.length by omega]; exact h6⟩
    · rintro ⟨f, g, rfl, ⟨cs, f1, f2, rfl, h1, h2, h3, h4⟩, h5⟩
      exact ⟨cs, f1, f2 ++ g, by simp, h1, h2, h3, D.Row_app.2 ⟨f2, g, rfl, h4, by rw [List.length_cons, show off + (xs.length + 1) = off + 1 + xs.length by omega] at h5; exact h5⟩⟩
/-- Leaf number ms.length of a row: its cell, its blocks. -/
theorem D.Row_at {w : World} {b off : Nat} {ms rs : List D} {a : D} {fp : List Nat} (h : D.Row w b off 1 (ms ++ a :: rs) fp) :
    ∃ f1 f2 f3 v, fp = f1 ++ (f2 ++ f3) ∧ D.Row w b off 1 ms f1 ∧ D.K w a [v] f2 ∧ w.cell? ⟨b, off + ms.length, none⟩ = some v ∧ D.Row w b (off + ms.length + 1) 1 rs f3 := by
  obtain ⟨f, g, rfl, h1, h2⟩ := D.Row_app.1 h
  simp only [D.Row] at h2
  obtain ⟨cs, f2, f3, rfl, h3, h4, h5, h6⟩ := h2
  match cs, h3 with
  | [v], _ => exact ⟨f, f2, f3, v, rfl, h1, h4, by simpa using h5 0 v rfl, h6⟩
theorem D.Row_join {w : World} {b off : Nat} {ms rs : List D} {a : D} {f1 f2 f3 : List Nat} {v : Value} (h1 : D.Row w b off 1 ms f1) (h2 : D.K w a [v] f2) (hv : w.cell? ⟨b, off + ms.length, none⟩ = some v) (h3 : D.Row w b (off + ms.length + 1) 1 rs f3) : D.Row w b off 1 (ms ++ a :: rs) (f1 ++ (f2 ++ f3)) :=
  D.Row_app.2 ⟨f1, f2 ++ f3, rfl, h1, by
    simp only [D.Row]
    exact ⟨[v], f2, f3, rfl, rfl, h2, fun j u hu => by
      match j, hu with
      | 0, hu =>
        obtain rfl : v = u := by simpa using hu
        simpa using hv, h3⟩⟩
/-- Rows elsewhere in the block, behind a store. -/
theorem D.Row_keep {w : World} {b o : Nat} {u : Value} {xs : List D} {off : Nat} {f : List Nat} (h : D.Row w b off 1 xs f) (hb : b ∉ f) (ho : o < off ∨ off + xs.length ≤ o) : D.Row (w.setCell ⟨b, o, none⟩ u) b off 1 xs f :=
  D.Row_store h (fun k hk => Below.heap_setCell w ⟨b, o, none⟩ u k (fun e => by subst e; exact hb hk)) (by simp [World.setCell]) fun j h1 h2 => by
    rw [Nat.mul_one] at h2
    exact World.cell?_setCell_other _ _ _ _ (fun e => by injection e with _ e; omega)
/-- A scalar leaf is stored anew. -/
theorem D.Row_put {w : World} {b off : Nat} {ms rs : List D} {a a' : D} {u u' : Value} {fp : List Nat} (h : D.Row w b off 1 (ms ++ a :: rs) fp) (hb : b ∉ fp) (hl : Live w b) (ha : ∀ v f, D.K w a [v] f → f = []) (ha' : ∀ w, D.K w a' [u'] []) :
    D.Row (w.setCell ⟨b, off + ms.length, none⟩ u') b off 1 (ms ++ a' :: rs) fp := by
  obtain ⟨f1, f2, f3, v, rfl, h1, h2, h3, h4⟩ := D.Row_at h
  obtain rfl := ha _ _ h2
  have hb' : b ∉ f1 ∧ b ∉ f3 := by simpa using hb
  exact D.Row_join (D.Row_keep h1 hb'.1 (.inr (Nat.le_refl _))) (ha' _) (World.cell?_setCell_same' _ _ _ (by rw [h3]; rfl)) (D.Row_keep h4 hb'.2 (.inl (by omega)))

/-! ### Fields in line -/
theorem D.Fields_app {w : World} : ∀ {xs ys : List D} {cs : List Value} {fp : List Nat}, D.Fields w (xs ++ ys) cs fp ↔ ∃ c d f g, cs = c ++ d ∧ fp = f ++ g ∧ D.Fields w xs c f ∧ D.Fields w ys d g
  | [], ys, cs, fp => by
    simp only [List.nil_append, D.Fields]
    exact ⟨fun h => ⟨[], cs, [], fp, rfl, rfl, ⟨rfl, rfl⟩, h⟩, fun ⟨c, d, f, g, h1, h2, ⟨h3, h4⟩, h5⟩ => by subst h3 h4; simp at h1 h2; rw [h1, h2]; exact h5⟩
  | x :: xs, ys, cs, fp => by
    simp only [List.cons_append, D.Fields]
    constructor
    · rintro ⟨c1, c2, f1, f2, rfl, rfl, h3, h4⟩
      obtain ⟨c, d, f, g, rfl, rfl, h5, h6⟩ := D.Fields_app.1 h4
      exact ⟨c1 ++ c, d, f1 ++ f, g, by simp, by simp, ⟨c1, c, f1, f, rfl, rfl, h3, h5⟩, h6⟩
    · rintro ⟨c, d, f, g, rfl, rfl, ⟨c1, c2, f1, f2, rfl, rfl, h3, h4⟩, h5⟩
      exact ⟨c1, c2 ++ d, f1, f2 ++ g, by simp, by simp, h3, D.Fields_app.2 ⟨c2, d, f2, g, rfl, rfl, h4, h5⟩⟩
theorem D.Fields_at {w : World} {ms rs : List D} {a : D} {cs : List Value} {fp : List Nat} {n1 n2 : Nat} (h : D.Fields w (ms ++ a :: rs) cs fp) (hnd : fp.Nodup) (hn1 : D.nAll ms = n1) (hn2 : a.n = n2) :
    ∃ f2, f2.Nodup ∧ (∀ j ∈ f2, j ∈ fp) ∧ D.K w a ((cs.drop n1).take n2) f2 ∧ ∀ w' a', TouchF f2 w w' → D.K w' a' ((cs.drop n1).take n2) f2 → D.Fields w' (ms ++ a' :: rs) cs fp := by
  obtain ⟨c, d, f, g, rfl, rfl, h1, h2⟩ := D.Fields_app.1 h
  simp only [D.Fields] at h2
  obtain ⟨c2, c3, f2, f3, rfl, rfl, h3, h4⟩ := h2
  have l1 := (D.Fields_len ms h1).trans hn1
  have l2 := (D.K_len a h3).trans hn2
  have e : ((c ++ (c2 ++ c3)).drop n1).take n2 = c2 := by
    rw [← l1, List.drop_left, ← l2, List.take_left]
  rw [e]
  have hd := List.nodup_append.1 hnd
  have hd2 := List.nodup_append.1 hd.2.1
  refine ⟨f2, hd2.1, fun j hj => by simp [hj], h3, fun w' a' ht hk => D.Fields_app.2 ⟨c, c2 ++ c3, f, f2 ++ f3, rfl, rfl, ?_, ?_⟩⟩
  · exact D.Fields_move ms (fun k hk' => ht.block k (D.Fields_lt ms h1 k hk') (fun hm => hd.2.2 k hk' k (by simp [hm]) rfl)) ht.size h1
  · simp only [D.Fields]
    exact ⟨c2, c3, f2, f3, rfl, rfl, hk, D.Fields_move rs (fun k hk' => ht.block k (D.Fields_lt rs h4 k hk') (fun hm => hd2.2.2 k hm k hk' rfl)) ht.size h4⟩
theorem RdF_at {w : World} {ms rs : List D} {a : D} {cs : List Value} {n1 n2 : Nat} (h : RdF w (ms ++ a :: rs) cs) (hn1 : D.nAll ms = n1) (hn2 : a.n = n2) : Rd w a ((cs.drop n1).take n2) := by
  obtain ⟨fp, h⟩ := h
  obtain ⟨c, d, f, g, rfl, rfl, h1, h2⟩ := D.Fields_app.1 h
  simp only [D.Fields] at h2
  obtain ⟨c2, c3, f2, f3, rfl, rfl, h3, h4⟩ := h2
  have l1 := (D.Fields_len ms h1).trans hn1
  have l2 := (D.K_len a h3).trans hn2
  rw [← l1, List.drop_left, ← l2, List.take_left]
  exact ⟨f2, h3⟩
theorem D.K_below {w w1 : World} {x : D} {cs : List Value} {fp : List Nat} (h : D.K w x cs fp) (hb : Below w.heap.size w w1) : D.K w1 x cs fp := D.K_move x (fun k hk => hb.block k (D.K_lt x h k hk)) hb.size h
theorem D.Fields_below {w w1 : World} {xs : List D} {cs : List Value} {fp : List Nat} (h : D.Fields w xs cs fp) (hb : Below w.heap.size w w1) : D.Fields w1 xs cs fp := D.Fields_move xs (fun k hk => hb.block k (D.Fields_lt xs h k hk)) hb.size h
theorem D.K_struct {w : World} {fs : List D} {cs : List Value} {fp : List Nat} : D.K w (.struct fs) cs fp ↔ D.Fields w fs cs fp := by simp only [D.K]
theorem cells_touch {fp : List Nat} {w w1 : World} {g : Nat} {o : Obj} (h : w.heap[g]? = some o) (ht : TouchF fp w w1) (hg : g ∉ fp) : w1.heap[g]? = some o := (ht.block g (blk_lt h) hg).trans h

theorem Has.mid {l1 l2 : List As} {a : As} {w : World} (h : Has (l1 ++ a :: l2) w) : Has (l1 ++ l2) w := fun b hb => h b (by
  rcases List.mem_append.1 hb with hb | hb
  · exact List.mem_append_left _ hb
  · exact List.mem_append_right _ (List.mem_cons_of_mem _ hb))
theorem ap_nil {B C : Nat} : ∀ a ∈ ([] : List As), a.apart B C := fun _ h => by cases h
theorem ap_cons {B C : Nat} {a : As} {L : List As} (h : a.apart B C) (h' : ∀ b ∈ L, b.apart B C) : ∀ b ∈ a :: L, b.apart B C := fun b hb => by
  rcases List.mem_cons.1 hb with rfl | hb
  · exact h
  · exact h' b hb
theorem MkA.at_ {P : Program} {f : FuncId} {x : D} (h : MkA P f x) {B C : Nat} {w : World} {cs : List Value} {k : Nat} (hf : FrR B C w x cs) (hk : k + x.tcnt ≤ 1125899906842624) :
    Calls P f #[.agg cs.toArray, .int .i64 k] w fun e w' => ∃ n : Nat, n = k + x.tcnt ∧ e = .returned (.int .i64 (n : Int)) ∧ FrR B C w' (x.top k) cs ∧ Touch B C w w' :=
  (h.range hf hk).mono fun e w' h => ⟨_, rfl, h⟩
theorem MkO.at_ {P : Program} {f : FuncId} {x : D} (h : MkO P f x) {B C : Nat} {w : World} {v : Value} {k : Nat} (hf : FrR B C w x [v]) (hk : k + x.tcnt ≤ 1125899906842624) :
    Calls P f #[v, .int .i64 k] w fun e w' => ∃ n : Nat, n = k + x.tcnt ∧ e = .returned (.int .i64 (n : Int)) ∧ FrR B C w' (x.top k) [v] ∧ Touch B C w w' :=
  (h.range hf hk).mono fun e w' h => ⟨_, rfl, h⟩
theorem HdA.at_ {P : Program} {f : FuncId} {x : D} (h : HdA P f x) {w : World} {cs : List Value} {k : Nat} (hf : Rd w (x.top k) cs) (hk : k + x.tcnt ≤ 1125899906842624) :
    Calls P f #[.agg cs.toArray, .int .i64 k] w fun e w' => ∃ n : Nat, n = k + x.tcnt ∧ e = .returned (.int .i64 (n : Int)) ∧ Below w.heap.size w w' :=
  (h w cs k hf hk).mono fun e w' h => ⟨_, rfl, h⟩
theorem HdO.at_ {P : Program} {f : FuncId} {x : D} (h : HdO P f x) {w : World} {v : Value} {k : Nat} (hf : Rd w (x.top k) [v]) (hk : k + x.tcnt ≤ 1125899906842624) :
    Calls P f #[v, .int .i64 k] w fun e w' => ∃ n : Nat, n = k + x.tcnt ∧ e = .returned (.int .i64 (n : Int)) ∧ Below w.heap.size w w' :=
  (h w v k hf hk).mono fun e w' h => ⟨_, rfl, h⟩
/-- From mark 1 on. -/
theorem MkA.one {P : Program} {f : FuncId} {x : D} (h : MkA P f x) {B C : Nat} {w : World} {cs : List Value} (hf : FrR B C w x cs) (hk : x.tcnt ≤ 281474976710656) :
    Calls P f #[.agg cs.toArray, .int .i64 1] w fun e w' => ∃ n : Nat, n = 1 + x.tcnt ∧ e = .returned (.int .i64 (n : Int)) ∧ FrR B C w' (x.top 1) cs ∧ Touch B C w w' := h.at_ (k := 1) hf (by omega)
theorem MkO.one {P : Program} {f : FuncId} {x : D} (h : MkO P f x) {B C : Nat} {w : World} {v : Value} (hf : FrR B C w x [v]) (hk : x.tcnt ≤ 281474976710656) :
    Calls P f #[v, .int .i64 1] w fun e w' => ∃ n : Nat, n = 1 + x.tcnt ∧ e = .returned (.int .i64 (n : Int)) ∧ FrR B C w' (x.top 1) [v] ∧ Touch B C w w' := h.at_ (k := 1) hf (by omega)
theorem HdA.one {P : Program} {f : FuncId} {x : D} (h : HdA P f x) {w : World} {cs : List Value} (hf : Rd w (x.top 1) cs) (hk : x.tcnt ≤ 281474976710656) :
    Calls P f #[.agg cs.toArray, .int .i64 1] w fun e w' => ∃ n : Nat, n = 1 + x.tcnt ∧ e = .returned (.int .i64 (n : Int)) ∧ Below w.heap.size w w' := h.at_ (k := 1) hf (by omega)
theorem HdO.one {P : Program} {f : FuncId} {x : D} (h : HdO P f x) {w : World} {v : Value} (hf : Rd w (x.top 1) [v]) (hk : x.tcnt ≤ 281474976710656) :
    Calls P f #[v, .int .i64 1] w fun e w' => ∃ n : Nat, n = 1 + x.tcnt ∧ e = .returned (.int .i64 (n : Int)) ∧ Below w.heap.size w w' := h.at_ (k := 1) hf (by omega)

/-! ### A box made while a region draws its order -/
theorem blk_setCells {g : Nat} {e : TypeId} : ∀ (vs : List Value) (o : Nat) {w : World} {cur : Array Value}, w.heap[g]? = some (.cells cur e (0, 0)) → cur.size = o + vs.length → (w.setCells g o vs).heap[g]? = some (.cells ((cur.toList.take o ++ vs).toArray) e (0, 0))
  | [], o, w, cur, h, hs => by
    show w.heap[g]? = _
    rw [h, List.append_nil, List.take_of_length_le (by simp at hs ⊢; omega)]
  | v :: vs, o, w, cur, h, hs => by
    have h1 := blk_set h o v
    have h2 := blk_setCells vs (o + 1) h1 (by simp at hs ⊢; omega)
    rw [World.setCells, h2]
    congr 3
    have ho : o < cur.toList.length := by simp at hs ⊢; omega
    rw [Array.toList_setIfInBounds, List.take_set, List.take_succ_eq_append_getElem ho, List.set_append_right _ _ (by rw [List.length_take]; omega), List.length_take, Nat.min_eq_left (by omega)]
    simp
theorem touch_setCells {g : Nat} : ∀ (vs : List Value) (o : Nat) {w a : World}, Touch g (g + 1) a w → Touch g (g + 1) a (w.setCells g o vs)
  | [], _, _, _, h => h
  | v :: vs, o, w, a, h => touch_setCells vs (o + 1) ⟨h.os, h.tape, h.output, by rw [sz_setCell]; exact h.size, fun k hk hn => (Below.heap_setCell w ⟨g, o, none⟩ v k (by show k ≠ g; omega)).trans (h.block k hk hn)⟩
theorem touch_refl (B C : Nat) (w : World) : Touch B C w w := ⟨rfl, rfl, rfl, Nat.le_refl _, fun _ _ _ => rfl⟩
theorem keep_cell {w : World} {g h : Nat} {zs cur : Array Value} {T T' : TypeId} {fz fz' : Nat × Nat} (hz : w.heap[g]? = some (.cells zs T fz')) (hb : w.heap[h]? = some (.cells cur T' fz)) (hT : T ≠ T') (vs : List Value) (j : Nat) : (w.setCells g 0 vs).cell? ⟨h, j, none⟩ = cur[j]? := by
  have hne : h ≠ g := by
    rintro rfl
    rw [hz] at hb
    injection hb with hb
    injection hb with _ hb
    exact hT hb
  exact blk_cell (((touch_setCells vs 0 (touch_refl g (g + 1) w)).block h (blk_lt hb) (by omega)).trans hb) j
/-- What a region leaves that makes a box for data x. -/
def BoxR (T : TypeId) (base : Nat) (x : D) (L : List As) (w0 : World) (v : Value) (wx : World) : Prop :=
  ∃ g cs B C, v = .pointer (some ⟨g, 0, none⟩) ∧ cs.toArray.all (·.oneCell') = true ∧ cs.length = x.n ∧ Has (.blk g (.cells cs.toArray T (0, 0)) :: .dat B C x cs :: L) wx ∧ Below w0.heap.size w0 wx ∧ base ≤ g ∧ g < wx.heap.size ∧ base ≤ B ∧ C ≤ wx.heap.size ∧ (g < B ∨ C ≤ g)
theorem boxR_new {T : TypeId} {base B C : Nat} {x : D} {L : List As} {w0 w : World} {cs : List Value} (hL : Has L w) (hd : FrR B C w x cs) (hb : Below w0.heap.size w0 w) (h1 : base ≤ w.heap.size) (h2 : base ≤ B) (h3 : C ≤ w.heap.size) :
    BoxR T base x L w0 (.pointer (some ⟨w.heap.size, 0, none⟩)) (w.alloc (.cells cs.toArray T)) := by
  have hal := (Below.refl w.heap.size w).alloc (Nat.le_refl _) (.cells cs.toArray T)
  exact ⟨w.heap.size, cs, B, C, rfl, hd.fr.all, hd.fr.len, ((hL.below hal).add (a := .dat B C x cs) (FrR.below hd hal)).add (a := .blk w.heap.size (.cells cs.toArray T (0, 0))) (blk_new w _), hb.trans (hal.mono hb.size), h1, by simp, h2, by simp; omega, .inr h3⟩
theorem boxR_set {T : TypeId} {base B C g : Nat} {x : D} {L : List As} {w0 w : World} {cs : List Value} {zs : Array Value} (hL : Has L w) (hap : ∀ a ∈ L, a.apart g (g + 1)) (hz : w.heap[g]? = some (.cells zs T (0, 0))) (hzs : zs.size = cs.length) (hd : FrR B C w x cs) (hb : Below w0.heap.size w0 w) (h0 : w0.heap.size ≤ g) (h1 : base ≤ g) (h2 : base ≤ B) (h3 : C ≤ w.heap.size) (h4 : g < B ∨ C ≤ g) :
    BoxR T base x L w0 (.pointer (some ⟨g, 0, none⟩)) (w.setCells g 0 cs) := by
  have ht := touch_setCells cs 0 (touch_refl g (g + 1) w)
  have hg := blk_lt hz
  refine ⟨g, cs, B, C, rfl, hd.fr.all, hd.fr.len, ((hL.touch ht hap).add (a := .dat B C x cs) (FrR.touch hd ht (by omega))).add (a := .blk g (.cells cs.toArray T (0, 0))) ?_, ht.below hb h0 hb.size, h1, Nat.lt_of_lt_of_le hg ht.size, h2, Nat.le_trans h3 ht.size, h4⟩
  have := blk_setCells cs 0 hz (by omega)
  exact (by simpa using this : (w.setCells g 0 cs).heap[g]? = some (.cells cs.toArray T (0, 0)))

theorem boxR_new' {T : TypeId} {base : Nat} {x : D} {L : List As} {w0 w : World} {cs : List Value} (h : ∃ B C, Has L w ∧ FrR B C w x cs ∧ Below w0.heap.size w0 w ∧ base ≤ w.heap.size ∧ base ≤ B ∧ C ≤ w.heap.size) :
    BoxR T base x L w0 (.pointer (some ⟨w.heap.size, 0, none⟩)) (w.alloc (.cells cs.toArray T)) := by
  obtain ⟨B, C, h1, h2, h3, h4, h5, h6⟩ := h
  exact boxR_new h1 h2 h3 h4 h5 h6
theorem boxR_set' {T : TypeId} {base g : Nat} {x : D} {L : List As} {w0 w W : World} {cs : List Value} (hW : W = w.setCells g 0 cs) (h : ∃ B C, ∃ zs : Array Value, Has L w ∧ (∀ a ∈ L, a.apart g (g + 1)) ∧ w.heap[g]? = some (.cells zs T (0, 0)) ∧ zs.size = cs.length ∧ FrR B C w x cs ∧ Below w0.heap.size w0 w ∧ w0.heap.size ≤ g ∧ base ≤ g ∧ base ≤ B ∧ C ≤ w.heap.size ∧ (g < B ∨ C ≤ g)) :
    BoxR T base x L w0 (.pointer (some ⟨g, 0, none⟩)) W := by
  obtain ⟨B, C, zs, h1, h2, h3, h4, h5, h6, h7, h8, h9, h10, h11⟩ := h
  subst hW
  exact boxR_set h1 h2 h3 h4 h5 h6 h7 h8 h9 h10 h11

end Go.Proofs.YthidbmjdphfddaaDoor
