/- Data that a call makes anew: its blocks, apart from one another; a made slice that is filled; a row that grows. No program is named here. -/
import Derived.Test.YthidbmjdphfddaaDoorHp
import Derived.Deep.MidRow
import Derived.Deep.Upon
import Derived.Deep.WholeRow
import Derived.Lib.Hide
namespace Go.Proofs.YthidbmjdphfddaaDoor
open Go.RowKit
set_option linter.unusedVariables false

/-- A row of cells, not frozen. -/
def Live (w : World) (k : Nat) : Prop := ∃ cur e, w.heap[k]? = some (.cells cur e (0, 0))
theorem Live.lt {w : World} {k : Nat} (h : Live w k) : k < w.heap.size := by
  obtain ⟨cur, e, h⟩ := h
  exact (Array.getElem?_eq_some_iff.1 h).1
theorem Live.move {w w1 : World} {k : Nat} (h : Live w k) (hb : w1.heap[k]? = w.heap[k]?) : Live w1 k := by
  obtain ⟨cur, e, h⟩ := h
  exact ⟨cur, e, hb.trans h⟩
theorem Live.below {w w1 : World} {k : Nat} (h : Live w k) (hb : Below w.heap.size w w1) : Live w1 k := h.move (hb.block k h.lt)

theorem sz_setCell (w : World) (p : Addr) (v : Value) : (w.setCell p v).heap.size = w.heap.size := by simp [World.setCell]
/-- One call more, behind what was done so far. -/
theorem bstep {B : Nat} {W w w1 : World} (h : Below B W w) (hB : B ≤ W.heap.size) (hb : Below w.heap.size w w1) : Below B W w1 := h.trans (hb.mono (Nat.le_trans hB h.size))
theorem Rd.len {w : World} {x : D} {cs : List Value} (h : Rd w x cs) : cs.length = x.n := by
  obtain ⟨fp, h⟩ := h
  exact D.K_len x h
/-! ### A block that is known whole -/
theorem blk_new (w : World) (o : Obj) : (w.alloc o).heap[w.heap.size]? = some o := heap_alloc_new w o
theorem blk_old {w : World} {g : Nat} {o : Obj} (h : w.heap[g]? = some o) (o' : Obj) : (w.alloc o').heap[g]? = some o := (Below.heap_alloc w o' g (Array.getElem?_eq_some_iff.1 h).1).trans h
theorem blk_below {w w1 : World} {g : Nat} {o : Obj} (h : w.heap[g]? = some o) (hb : Below w.heap.size w w1) : w1.heap[g]? = some o := (hb.block g (Array.getElem?_eq_some_iff.1 h).1).trans h
theorem blk_far {w : World} {g : Nat} {o : Obj} (h : w.heap[g]? = some o) {p : Addr} (hne : g ≠ p.block) (v : Value) : (w.setCell p v).heap[g]? = some o := (Below.heap_setCell w p v g hne).trans h
theorem blk_set {w : World} {g : Nat} {cur : Array Value} {e : TypeId} {fz : Nat × Nat} (h : w.heap[g]? = some (.cells cur e fz)) (j : Nat) (v : Value) : (w.setCell ⟨g, j, none⟩ v).heap[g]? = some (.cells (cur.setIfInBounds j v) e fz) := by
  simp only [World.setCell, Array.getElem?_modify]
  rw [if_pos True.intro, h]
  rfl
theorem blk_cell {w : World} {g : Nat} {cur : Array Value} {e : TypeId} {fz : Nat × Nat} (h : w.heap[g]? = some (.cells cur e fz)) (j : Nat) : w.cell? ⟨g, j, none⟩ = cur[j]? := by simp [World.cell?, h]
theorem blk_frozen {w : World} {g : Nat} {cur : Array Value} {e : TypeId} (h : w.heap[g]? = some (.cells cur e (0, 0))) (j : Nat) : w.frozen? ⟨g, j, none⟩ = false := by simp [World.frozen?, h]
theorem blk_drew {w : World} {g : Nat} {o : Obj} (h : w.heap[g]? = some o) : w.drew.heap[g]? = some o := h
theorem blk_lt {w : World} {g : Nat} {o : Obj} (h : w.heap[g]? = some o) : g < w.heap.size := (Array.getElem?_eq_some_iff.1 h).1

/-- A whole struct into the block that was made last. -/
theorem wpl_store_new {P : Program} {ops : Array Oper} {rest : List Oper} {o : Oper} {a : Act} {w : World} {Q : Exit → Act → World → Prop} (hgd : o.guard = none) (ty : TypeId) (x y : Operand) (ho : o.op = .store ty x y) (c c' : Array Value)
    (hx : a.eval x = .pointer (some ⟨w.heap.size, 0, none⟩)) (hy : a.eval y = .agg c') (hi : (P.info? ty).map (·.size) = some c'.size) (hold : c.size = c'.size) (h1 : c'.all (·.oneCell') = true)
    (h : wpList P ops Q rest (a.put o.dst undef) (w.alloc (.cells c' ty))) : wpList P ops Q (o :: rest) a (w.alloc (.cells c ty)) := by
  refine wpList_store_row hgd ty x y ho w.heap.size c' hx hy ty c (heap_alloc_new w _) hi hold h1 ?_
  rw [World.setRow_alloc_new]
  exact h

/-- Blocks from B on, each once, all rows of cells. -/
def Own (B : Nat) (w : World) (fp : List Nat) : Prop := fp.Nodup ∧ ∀ k ∈ fp, B ≤ k ∧ Live w k
theorem Own.nil (B : Nat) (w : World) : Own B w [] := ⟨List.nodup_nil, by simp⟩
theorem Own.below {B : Nat} {w w1 : World} {fp : List Nat} (h : Own B w fp) (hb : Below w.heap.size w w1) : Own B w1 fp := ⟨h.1, fun k hk => ⟨(h.2 k hk).1, (h.2 k hk).2.below hb⟩⟩
theorem Own.lower {B B' : Nat} {w : World} {fp : List Nat} (h : Own B w fp) (hB : B' ≤ B) : Own B' w fp := ⟨h.1, fun k hk => ⟨Nat.le_trans hB (h.2 k hk).1, (h.2 k hk).2⟩⟩
theorem Own.append {B : Nat} {w : World} {f g : List Nat} (h : Own B w f) (h' : Own B w g) (hd : ∀ k ∈ f, k ∉ g) : Own B w (f ++ g) :=
  ⟨List.nodup_append.2 ⟨h.1, h'.1, fun a ha b hb e => hd a ha (e ▸ hb)⟩, fun k hk => by
    rcases List.mem_append.1 hk with hk | hk
    · exact h.2 k hk
    · exact h'.2 k hk⟩
/-- An elder one and a younger one. -/
theorem Own.join {B : Nat} {w w1 : World} {f g : List Nat} (h : Own B w f) (hb : Below w.heap.size w w1) (h' : Own w.heap.size w1 g) (hB : B ≤ w.heap.size) : Own B w1 (f ++ g) :=
  (h.below hb).append (h'.lower hB) (fun k hk hg => by
    have := (h.2 k hk).2.lt
    have := (h'.2 k hg).1
    omega)
theorem Own.left {B : Nat} {w : World} {f g : List Nat} (h : Own B w (f ++ g)) : Own B w f := ⟨(List.nodup_append.1 h.1).1, fun k hk => h.2 k (by simp [hk])⟩
theorem Own.right {B : Nat} {w : World} {f g : List Nat} (h : Own B w (f ++ g)) : Own B w g := ⟨(List.nodup_append.1 h.1).2.1, fun k hk => h.2 k (by simp [hk])⟩

/-- Data x made anew since block B. -/
def Fr (B : Nat) (w : World) (x : D) (cs : List Value) : Prop := ∃ fp, D.K w x cs fp ∧ Own B w fp
/-- Fields in line, made anew. -/
def FrF (B : Nat) (w : World) (xs : List D) (cs : List Value) : Prop := ∃ fp, D.Fields w xs cs fp ∧ Own B w fp
theorem Fr.rd {B : Nat} {w : World} {x : D} {cs : List Value} (h : Fr B w x cs) : Rd w x cs := by
  obtain ⟨fp, h, _⟩ := h
  exact ⟨fp, h⟩
theorem Fr.below {B : Nat} {w w1 : World} {x : D} {cs : List Value} (h : Fr B w x cs) (hb : Below w.heap.size w w1) : Fr B w1 x cs := by
  obtain ⟨fp, h, ho⟩ := h
  exact ⟨fp, D.K_move x (fun k hk => hb.block k (D.K_lt x h k hk)) hb.size h, ho.below hb⟩
theorem FrF.below {B : Nat} {w w1 : World} {x : List D} {cs : List Value} (h : FrF B w x cs) (hb : Below w.heap.size w w1) : FrF B w1 x cs := by
  obtain ⟨fp, h, ho⟩ := h
  exact ⟨fp, D.Fields_move x (fun k hk => hb.block k (D.Fields_lt x h k hk)) hb.size h, ho.below hb⟩
theorem Fr.lower {B B' : Nat} {w : World} {x : D} {cs : List Value} (h : Fr B w x cs) (hB : B' ≤ B) : Fr B' w x cs := by
  obtain ⟨fp, h, ho⟩ := h
  exact ⟨fp, h, ho.lower hB⟩
/-- A store below the base. -/
theorem Fr.set {B : Nat} {w : World} {x : D} {cs : List Value} (h : Fr B w x cs) {p : Addr} (hp : p.block < B) (v : Value) : Fr B (w.setCell p v) x cs := by
  obtain ⟨fp, h, ho⟩ := h
  have hm : ∀ k ∈ fp, (w.setCell p v).heap[k]? = w.heap[k]? := fun k hk => Below.heap_setCell w p v k (by have := (ho.2 k hk).1; omega)
  exact ⟨fp, D.K_move x hm (by simp [World.setCell]) h, ho.1, fun k hk => ⟨(ho.2 k hk).1, (ho.2 k hk).2.move (hm k hk)⟩⟩
theorem Fr.len {B : Nat} {w : World} {x : D} {cs : List Value} (h : Fr B w x cs) : cs.length = x.n := by
  obtain ⟨fp, h, _⟩ := h
  exact D.K_len x h
theorem Fr.all {B : Nat} {w : World} {x : D} {cs : List Value} (h : Fr B w x cs) : cs.toArray.all (·.oneCell') = true := by
  obtain ⟨fp, h, _⟩ := h
  exact all_oneCell_toArray (D.K_one x h)
theorem Fr.one {B : Nat} {w : World} {x : D} {cs : List Value} (h : Fr B w x cs) : ∀ u ∈ cs, u.oneCell' = true := by
  obtain ⟨fp, h, _⟩ := h
  exact D.K_one x h
theorem Fr.slice {B : Nat} {w : World} {sz : Nat} {xs : List D} {v : Value} (h : Fr B w (.slice sz xs) [v]) : ∃ A c, v = .slice A xs.length c ∧ xs.length ≤ c ∧ c ≤ maxLen ∧ RdRow w sz A xs := by
  obtain ⟨A, c, h1, h2, h3, h4⟩ := rd_slice h.rd
  exact ⟨A, c, by simpa using h1, h2, h3, h4⟩
theorem fr_int (B : Nat) (w : World) (k : IntKind) (n : Int) : Fr B w (.int k n) [.int k n] := ⟨[], by simp [D.K], Own.nil _ _⟩
theorem fr_bool (B : Nat) (w : World) (b : Bool) : Fr B w (.bool b) [.bool b] := ⟨[], by simp [D.K], Own.nil _ _⟩
theorem fr_str (B : Nat) (w : World) (s : ByteArray) : Fr B w (.str s) [.string s] := ⟨[], by simp [D.K], Own.nil _ _⟩
theorem fr_nil (B : Nat) (w : World) (sz : Nat) (A : Option Addr) (c : Nat) (hc : c ≤ maxLen) : Fr B w (.slice sz []) [.slice A 0 c] := ⟨[], by simp only [D.K]; exact ⟨A, c, rfl, Nat.zero_le _, hc, .inl ⟨True.intro, True.intro⟩⟩, Own.nil _ _⟩
theorem fr_struct {B : Nat} {w : World} {xs : List D} {cs : List Value} : Fr B w (.struct xs) cs ↔ FrF B w xs cs := by simp [Fr, FrF, D.K]
theorem frF_nil (B : Nat) (w : World) : FrF B w [] [] := ⟨[], by simp [D.Fields], Own.nil _ _⟩
/-- A field without blocks ahead. -/
theorem frF_plain {B : Nat} {w : World} {x : D} {xs : List D} {c : Value} {cs : List Value} (hx : D.K w x [c] []) (h : FrF B w xs cs) : FrF B w (x :: xs) (c :: cs) := by
  obtain ⟨fp, h, ho⟩ := h
  exact ⟨fp, by simp only [D.Fields]; exact ⟨[c], cs, [], fp, rfl, rfl, hx, h⟩, ho⟩
theorem frF_int {B : Nat} {w : World} {k : IntKind} {n : Int} {xs : List D} {cs : List Value} (h : FrF B w xs cs) : FrF B w (.int k n :: xs) (.int k n :: cs) := frF_plain (by simp [D.K]) h
theorem frF_bool {B : Nat} {w : World} {b : Bool} {xs : List D} {cs : List Value} (h : FrF B w xs cs) : FrF B w (.bool b :: xs) (.bool b :: cs) := frF_plain (by simp [D.K]) h
theorem frF_str {B : Nat} {w : World} {s : ByteArray} {xs : List D} {cs : List Value} (h : FrF B w xs cs) : FrF B w (.str s :: xs) (.string s :: cs) := frF_plain (by simp [D.K]) h
/-- The last field. -/
theorem frF_last {B : Nat} {w : World} {x : D} {cs : List Value} (h : Fr B w x cs) : FrF B w [x] cs := by
  obtain ⟨fp, h, ho⟩ := h
  exact ⟨fp, by simp only [D.Fields]; exact ⟨cs, [], fp, [], by simp, by simp, h, rfl, rfl⟩, ho⟩
/-- A field that was made before the rest. -/
theorem frF_join {B : Nat} {w w1 : World} {x : D} {xs : List D} {c cs : List Value} (hx : Fr B w x c) (hb : Below w.heap.size w w1) (h : FrF w.heap.size w1 xs cs) (hB : B ≤ w.heap.size) : FrF B w1 (x :: xs) (c ++ cs) := by
  obtain ⟨f, hx, ho⟩ := hx
  obtain ⟨g, h, ho'⟩ := h
  exact ⟨f ++ g, by simp only [D.Fields]; exact ⟨c, cs, f, g, rfl, rfl, D.K_move x (fun k hk => hb.block k (D.K_lt x hx k hk)) hb.size hx, h⟩, ho.join hb ho' hB⟩
theorem D.Fields_snoc {w : World} {x : D} {c : List Value} {g : List Nat} : ∀ {xs : List D} {cs : List Value} {f : List Nat}, D.Fields w xs cs f → D.K w x c g → D.Fields w (xs ++ [x]) (cs ++ c) (f ++ g)
  | [], _, _, h, hx => by
    simp only [D.Fields] at h
    obtain ⟨rfl, rfl⟩ := h
    simp only [List.nil_append, D.Fields]
    exact ⟨c, [], g, [], by simp, by simp, hx, rfl, rfl⟩
  | y :: ys, _, _, h, hx => by
    simp only [D.Fields] at h
    obtain ⟨c1, c2, f1, f2, rfl, rfl, q1, q2⟩ := h
    simp only [List.cons_append, D.Fields]
    exact ⟨c1, c2 ++ c, f1, f2 ++ g, by simp, by simp, q1, D.Fields_snoc q2 hx⟩
/-- A field behind the ones made before. -/
theorem frF_snoc {B : Nat} {w w1 : World} {x : D} {xs : List D} {c cs : List Value} (h : FrF B w xs cs) (hb : Below w.heap.size w w1) (hx : Fr w.heap.size w1 x c) (hB : B ≤ w.heap.size) : FrF B w1 (xs ++ [x]) (cs ++ c) := by
  obtain ⟨f, h, ho⟩ := h
  obtain ⟨g, hx, ho'⟩ := hx
  exact ⟨f ++ g, D.Fields_snoc (D.Fields_move xs (fun k hk => hb.block k (D.Fields_lt xs h k hk)) hb.size h) hx, ho.join hb ho' hB⟩

theorem D.Row_snoc {w : World} {b sz : Nat} {x : D} {cs : List Value} {g : List Nat} : ∀ {xs : List D} {off : Nat} {f : List Nat}, D.Row w b off sz xs f → cs.length = sz → D.K w x cs g → CellsAt w b (off + xs.length * sz) cs → D.Row w b off sz (xs ++ [x]) (f ++ g)
  | [], off, f, h, hl, hk, hc => by
    simp only [D.Row] at h
    subst h
    simp only [List.nil_append, D.Row]
    exact ⟨cs, g, [], by simp, hl, hk, by simpa using hc, rfl⟩
  | y :: ys, off, f, h, hl, hk, hc => by
    simp only [D.Row] at h
    obtain ⟨c1, f1, f2, rfl, h2, h3, h4, h5⟩ := h
    simp only [List.cons_append, D.Row]
    refine ⟨c1, f1, f2 ++ g, by simp, h2, h3, h4, D.Row_snoc h5 hl hk ?_⟩
    rw [show off + sz + ys.length * sz = off + (ys.length + 1) * sz by rw [Nat.add_mul]; omega]
    exact hc
/-- Cells of the row may be stored anew where no element lies. -/
theorem D.Row_store {w w1 : World} {b sz : Nat} : ∀ {xs : List D} {off : Nat} {f : List Nat}, D.Row w b off sz xs f → (∀ k ∈ f, w1.heap[k]? = w.heap[k]?) → w.heap.size ≤ w1.heap.size →
    (∀ j, off ≤ j → j < off + xs.length * sz → w1.cell? ⟨b, j, none⟩ = w.cell? ⟨b, j, none⟩) → D.Row w1 b off sz xs f
  | [], _, _, h, _, _, _ => by simpa only [D.Row] using h
  | y :: ys, off, f, h, hm, hs, hc => by
    simp only [D.Row] at h ⊢
    obtain ⟨c1, f1, f2, rfl, h2, h3, h4, h5⟩ := h
    refine ⟨c1, f1, f2, rfl, h2, D.K_move y (fun k hk => hm k (by simp [hk])) hs h3, fun j u hu => ?_, D.Row_store h5 (fun k hk => hm k (by simp [hk])) hs fun j h6 h7 => hc j (by omega) ?_⟩
    · have hj : j < c1.length := (List.getElem?_eq_some_iff.1 hu).1
      rw [hc (off + j) (by omega) (by rw [List.length_cons, Nat.add_mul]; omega)]
      exact h4 j u hu
    · rw [List.length_cons, Nat.add_mul]
      omega

theorem live_setCells {g : Nat} {e : TypeId} : ∀ (vs : List Value) (o : Nat) {w : World} {cur : Array Value}, w.heap[g]? = some (.cells cur e (0, 0)) → ∃ cur', (w.setCells g o vs).heap[g]? = some (.cells cur' e (0, 0)) ∧ cur'.size = cur.size
  | [], _, _, cur, h => ⟨cur, h, rfl⟩
  | v :: vs, o, w, cur, h => by
    have h1 : (w.setCell ⟨g, o, none⟩ v).heap[g]? = some (.cells (cur.setIfInBounds o v) e (0, 0)) := by
      simp only [World.setCell, Array.getElem?_modify]
      rw [if_pos True.intro, h]
      rfl
    obtain ⟨cur', q1, q2⟩ := live_setCells vs (o + 1) h1
    exact ⟨cur', q1, by rw [q2]; simp⟩
theorem cellsAt_live {w : World} {g : Nat} {e : TypeId} {cur : Array Value} (h : w.heap[g]? = some (.cells cur e (0, 0))) (j : Nat) : w.cell? ⟨g, j, none⟩ = cur[j]? := by simp [World.cell?, h]
theorem there_live {w : World} {g o n : Nat} {e : TypeId} {cur : Array Value} (h : w.heap[g]? = some (.cells cur e (0, 0))) (hn : o + n ≤ cur.size) : w.there g o n := by
  intro j hj
  refine ⟨?_, by simp [World.frozen?, h]⟩
  rw [cellsAt_live h, Array.getElem?_eq_getElem (by omega)]
  rfl

/-- A made slice (block g, n elements of sz cells each), of which the first are data ys. -/
def Fill (B : Nat) (w : World) (g e sz n : Nat) (ys : List D) : Prop := ∃ cur f, w.heap[g]? = some (.cells cur e (0, 0)) ∧ cur.size = n * sz ∧ D.Row w g 0 sz ys f ∧ B ≤ g ∧ Own B w (g :: f)
theorem Fill.start {B : Nat} {w : World} {e sz n : Nat} {cur : Array Value} (hB : B ≤ w.heap.size) (hs : cur.size = n * sz) : Fill B (w.alloc (.cells cur e)) w.heap.size e sz n [] :=
  ⟨cur, [], heap_alloc_new w _, hs, by simp [D.Row], hB, by simp, fun k hk => by
    obtain rfl : k = w.heap.size := by simpa using hk
    exact ⟨hB, cur, e, heap_alloc_new w _⟩⟩
theorem Fill.below {B : Nat} {w w1 : World} {g e sz n : Nat} {ys : List D} (h : Fill B w g e sz n ys) (hb : Below w.heap.size w w1) : Fill B w1 g e sz n ys := by
  obtain ⟨cur, f, h1, h2, h3, h4, h5⟩ := h
  have hg : w1.heap[g]? = w.heap[g]? := hb.block g (Array.getElem?_eq_some_iff.1 h1).1
  exact ⟨cur, f, hg.trans h1, h2, D.Row_move ys hg (fun k hk => hb.block k (D.Row_lt ys h3 k hk)) hb.size h3, h4, h5.below hb⟩
theorem Fill.lt {B : Nat} {w : World} {g e sz n : Nat} {ys : List D} (h : Fill B w g e sz n ys) : g < w.heap.size := by
  obtain ⟨cur, f, h1, _⟩ := h
  exact (Array.getElem?_eq_some_iff.1 h1).1
theorem Fill.there {B : Nat} {w : World} {g e sz n : Nat} {ys : List D} (h : Fill B w g e sz n ys) {j : Nat} (hj : j < n) : w.there g (j * sz) sz := by
  obtain ⟨cur, f, h1, h2, _⟩ := h
  refine there_live h1 ?_
  rw [h2]
  have : (j + 1) * sz ≤ n * sz := Nat.mul_le_mul_right _ hj
  rw [Nat.add_mul] at this
  omega
theorem below_setCells {B g : Nat} {a : World} (hg : B ≤ g) : ∀ (vs : List Value) (o : Nat) {w : World}, Below B a w → Below B a (w.setCells g o vs)
  | [], _, _, h => h
  | v :: vs, o, w, h => below_setCells hg vs (o + 1) (h.setCell (p := ⟨g, o, none⟩) hg v)
/-- The next element is stored: it was made behind world w. -/
theorem Fill.store {B : Nat} {w w1 : World} {g e sz n : Nat} {ys : List D} {x : D} {cs : List Value} (h : Fill B w g e sz n ys) (hb : Below w.heap.size w w1) (hx : Fr w.heap.size w1 x cs) (hl : cs.length = sz) (hj : ys.length < n) :
    Fill B (w1.setCells g (ys.length * sz) cs) g e sz n (ys ++ [x]) := by
  have hth := (h.below hb).there hj
  obtain ⟨cur, f, h1, h2, h3, h4, h5⟩ := h
  have hglt : g < w.heap.size := (Array.getElem?_eq_some_iff.1 h1).1
  have hflt := D.Row_lt ys h3
  have hg : w1.heap[g]? = w.heap[g]? := hb.block g hglt
  have h3' := D.Row_move ys hg (fun k hk => hb.block k (hflt k hk)) hb.size h3
  obtain ⟨fx, hk, ho⟩ := hx
  obtain ⟨cur', q1, q2⟩ := live_setCells (g := g) (e := e) cs (ys.length * sz) (hg.trans h1)
  have hg1 : ∀ k ∈ fx, k ≠ g := fun k hk' => by have := (ho.2 k hk').1; omega
  have hnd := List.nodup_cons.1 h5.1
  have hg2 : ∀ k ∈ f, k ≠ g := fun k hk' e => hnd.1 (e ▸ hk')
  have hf : ∀ k ∈ f, (w1.setCells g (ys.length * sz) cs).heap[k]? = w1.heap[k]? := fun k hk' => World.heap_setCells_other w1 g _ cs (Nat.lt_of_lt_of_le (hflt k hk') hb.size) (hg2 k hk')
  have hfx : ∀ k ∈ fx, (w1.setCells g (ys.length * sz) cs).heap[k]? = w1.heap[k]? := fun k hk' => World.heap_setCells_other w1 g _ cs (D.K_lt x hk k hk') (hg1 k hk')
  have hsize : w1.heap.size ≤ (w1.setCells g (ys.length * sz) cs).heap.size := (below_setCells (B := 0) (a := w1) (Nat.zero_le _) cs _ (Below.refl 0 w1)).size
  refine ⟨cur', f ++ fx, q1, q2.trans h2, ?_, h4, ?_⟩
  · refine D.Row_snoc (D.Row_store h3' hf hsize fun j _ hj' => ?_) hl (D.K_move x hfx hsize hk) ?_
    · exact World.cell?_setCells_out g cs _ w1 ⟨g, j, none⟩ (fun _ _ => .inl (by simpa using hj'))
    · rw [Nat.zero_add]
      intro j u hu
      exact World.rangeAt_setCells_same w1 g (ys.length * sz) cs (by rw [hl]; exact hth) j u hu
  · refine ⟨?_, fun k hk' => ?_⟩
    · rw [← List.cons_append]
      refine List.nodup_append.2 ⟨h5.1, ho.1, fun a ha b hb' e => ?_⟩
      subst e
      have h6 := (ho.2 _ hb').1
      rcases List.mem_cons.1 ha with h7 | ha
      · omega
      · have := hflt _ ha
        omega
    · rcases List.mem_cons.1 hk' with rfl | hk'
      · exact ⟨h4, cur', e, q1⟩
      rcases List.mem_append.1 hk' with hk' | hk'
      · have h6 := h5.2 k (by simp [hk'])
        exact ⟨h6.1, (h6.2.move (hb.block k (hflt k hk'))).move (hf k hk')⟩
      · have h6 := ho.2 k hk'
        exact ⟨by omega, h6.2.move (hfx k hk')⟩
/-- All is filled. -/
theorem Fill.done {B : Nat} {w : World} {g e sz n : Nat} {ys : List D} (h : Fill B w g e sz n ys) (hn : ys.length = n) (hm : n ≤ maxLen) : Fr B w (.slice sz ys) [.slice (some ⟨g, 0, none⟩) n n] := by
  obtain ⟨cur, f, h1, h2, h3, h4, h5⟩ := h
  have hglt : g < w.heap.size := (Array.getElem?_eq_some_iff.1 h1).1
  by_cases h0 : ys = []
  · subst h0
    obtain rfl : n = 0 := by simpa using hn.symm
    exact fr_nil B w sz _ 0 (Nat.zero_le _)
  · refine ⟨g :: f, ?_, h5⟩
    simp only [D.K]
    exact ⟨_, n, by rw [hn], by omega, hm, .inr ⟨g, 0, f, rfl, hglt, rfl, h3⟩⟩

/-! ### A row that grows by append -/
/-- The slice value v owns a row of elements ys (type e, sz cells each), all since block B. -/
def Grow (B : Nat) (w : World) (v : Value) (e sz : Nat) (ys : List D) : Prop := ∃ cells f, w.ownsRow B e sz v ys.length cells ∧ D.Fields w ys cells f ∧ (∀ y ∈ ys, y.n = sz) ∧ Own B w (v.ownBlock.toList ++ f)
theorem Grow.nil (B : Nat) (w : World) (e sz : Nat) : Grow B w (.slice none 0 0) e sz [] := ⟨[], [], World.ownsRow_nil w B e sz, by simp [D.Fields], by simp, by simpa [Value.ownBlock] using Own.nil B w⟩
theorem ownsRow_block {w : World} {B : Nat} {e : TypeId} {sz n : Nat} {v : Value} {xs : List Value} (h : w.ownsRow B e sz v n xs) {k : Nat} (hk : v.ownBlock = some k) : B ≤ k ∧ ∃ cur, w.heap[k]? = some (.cells cur e (0, 0)) := by
  rcases h.2 with ⟨rfl, _⟩ | ⟨g, cap, cur, rfl, hb, hg, _⟩
  · simp [Value.ownBlock] at hk
  · have : g = k := by simpa [Value.ownBlock] using hk
    subst this
    exact ⟨hb, cur, hg⟩
theorem Grow.below {B : Nat} {w w1 : World} {v : Value} {e sz : Nat} {ys : List D} (h : Grow B w v e sz ys) (hb : Below w.heap.size w w1) : Grow B w1 v e sz ys := by
  obtain ⟨cells, f, h1, h2, h3, h4⟩ := h
  refine ⟨cells, f, h1.kept (row := none) ⟨hb.os, hb.tape, hb.output, hb.size, fun k hk _ => hb.block k hk⟩ (by cases v.ownBlock <;> simp), D.Fields_move ys (fun k hk => hb.block k (D.Fields_lt ys h2 k hk)) hb.size h2, h3, h4.below hb⟩
theorem D.Row_of_fields {w : World} {b sz : Nat} : ∀ {ys : List D} {cells : List Value} {f : List Nat} {off : Nat}, D.Fields w ys cells f → (∀ y ∈ ys, y.n = sz) → CellsAt w b off cells → D.Row w b off sz ys f
  | [], _, _, _, h, _, _ => by
    simp only [D.Fields] at h
    simp only [D.Row]
    exact h.2
  | y :: ys, cells, f, off, h, hn, hc => by
    simp only [D.Fields] at h
    obtain ⟨c1, c2, f1, f2, rfl, rfl, h3, h4⟩ := h
    have hl : c1.length = sz := (D.K_len y h3).trans (hn y (by simp))
    simp only [D.Row]
    refine ⟨c1, f1, f2, rfl, hl, h3, fun j u hu => hc j u ?_, D.Row_of_fields h4 (fun z hz => hn z (by simp [hz])) fun j u hu => ?_⟩
    · rw [List.getElem?_append_left (List.getElem?_eq_some_iff.1 hu).1]
      exact hu
    · rw [Nat.add_assoc]
      refine hc (sz + j) u ?_
      rw [List.getElem?_append_right (by omega), hl, Nat.add_sub_cancel_left]
      exact hu
/-- What has grown is data made anew. -/
theorem Grow.fr {B : Nat} {w : World} {v : Value} {e sz : Nat} {ys : List D} (h : Grow B w v e sz ys) : Fr B w (.slice sz ys) [v] := by
  obtain ⟨cells, f, h1, h2, h3, h4⟩ := h
  by_cases h0 : ys = []
  · subst h0
    rcases h1.2 with ⟨rfl, _⟩ | ⟨g, cap, cur, rfl, hb, hg, hn, hm, _⟩
    · exact fr_nil B w sz none 0 (Nat.zero_le _)
    · exact fr_nil B w sz _ cap hm
  · have hpos : 0 < ys.length := List.length_pos_iff.2 h0
    rcases h1.2 with ⟨rfl, hn⟩ | ⟨g, cap, cur, rfl, hb, hg, hn, hm, hs, ht⟩
    · omega
    · refine ⟨g :: f, ?_, by simpa [Value.ownBlock] using h4⟩
      simp only [D.K]
      refine ⟨_, cap, rfl, hn, hm, .inr ⟨g, 0, f, rfl, (Array.getElem?_eq_some_iff.1 hg).1, rfl, D.Row_of_fields h2 h3 fun j u hu => ?_⟩⟩
      have := h1.cells (g := g) rfl j u hu
      rwa [Addr.add_mid] at this
theorem Grow.form {B : Nat} {w : World} {v : Value} {e sz : Nat} {ys : List D} (h : Grow B w v e sz ys) : ∃ A c, v = .slice A ys.length c ∧ ys.length ≤ c ∧ c ≤ maxLen ∧ RdRow w sz A ys := by
  obtain ⟨A, c, h1, h2, h3, h4⟩ := rd_slice h.fr.rd
  exact ⟨A, c, by simpa using h1, h2, h3, h4⟩
/-- Behind an append of one element that was made since w (a block or blocks of the call's own), in a world w1 = w2 but for the row. -/
theorem Grow.snoc {B : Nat} {w w1 w2 : World} {v v' : Value} {e sz : Nat} {ys : List D} {x : D} {cs : List Value} (h : Grow B w v e sz ys) (hb : Below w.heap.size w w1) (hx : Fr w.heap.size w1 x cs) (hn : x.n = sz) (hB : B ≤ w.heap.size)
    (hs : w1.heap.size ≤ w2.heap.size) (hg : ∀ k, k < w1.heap.size → some k ≠ v.ownBlock → w2.heap[k]? = w1.heap[k]?) (hat : v'.ownBlock = v.ownBlock ∨ ∃ b, v'.ownBlock = some b ∧ w1.heap.size ≤ b)
    (hown : ∀ cells, w.ownsRow B e sz v ys.length cells → w2.ownsRow B e sz v' (ys.length + 1) (cells ++ cs)) : Grow B w2 v' e sz (ys ++ [x]) := by
  obtain ⟨cells, f, h1, h2, h3, h4⟩ := h
  obtain ⟨fx, hk, ho⟩ := hx
  have hflt := D.Fields_lt ys h2
  have hfv : ∀ k ∈ f, some k ≠ v.ownBlock := fun k hk' e => by
    have := (List.nodup_append.1 h4.1).2.2 k (by simp [← e]) k hk'
    exact this rfl
  have hvlt : ∀ k, v.ownBlock = some k → k < w.heap.size := fun k hk' => (h4.2 k (by simp [hk'])).2.lt
  have hxv : ∀ k ∈ fx, some k ≠ v.ownBlock := fun k hk' e => by
    have := hvlt k e.symm
    have := (ho.2 k hk').1
    omega
  have hf2 : ∀ k ∈ f, w2.heap[k]? = w.heap[k]? := fun k hk' => (hg k (Nat.lt_of_lt_of_le (hflt k hk') hb.size) (hfv k hk')).trans (hb.block k (hflt k hk'))
  have hx2 : ∀ k ∈ fx, w2.heap[k]? = w1.heap[k]? := fun k hk' => hg k (ho.2 k hk').2.lt (hxv k hk')
  have hown2 := hown cells h1
  refine ⟨cells ++ cs, f ++ fx, by simpa using hown2, D.Fields_snoc (D.Fields_move ys hf2 (Nat.le_trans hb.size hs) h2) (D.K_move x hx2 hs hk), fun y hy => ?_, ?_⟩
  · rcases List.mem_append.1 hy with hy | hy
    · exact h3 y hy
    · rw [List.mem_singleton.1 hy]; exact hn
  · have hv' : ∀ k, v'.ownBlock = some k → B ≤ k ∧ Live w2 k ∧ k ∉ f ∧ k ∉ fx := fun k hk' => by
      obtain ⟨hBk, cur, hcur⟩ := ownsRow_block hown2 hk'
      refine ⟨hBk, ⟨cur, e, hcur⟩, fun hm => ?_, fun hm => ?_⟩
      · rcases hat with hat | ⟨b, hb', hle⟩
        · exact hfv k hm (by rw [← hat, hk'])
        · have h6 := hflt k hm
          have h7 := hb.size
          rw [hk'] at hb'
          injection hb' with hb'
          omega
      · rcases hat with hat | ⟨b, hb', hle⟩
        · exact hxv k hm (by rw [← hat, hk'])
        · have h6 := (ho.2 k hm).2.lt
          rw [hk'] at hb'
          injection hb' with hb'
          omega
    have hff : Own B w2 (f ++ fx) := ⟨List.nodup_append.2 ⟨(List.nodup_append.1 h4.1).2.1, ho.1, fun a ha b hb' e => by
      subst e
      have := hflt a ha
      have := (ho.2 a hb').1
      omega⟩, fun k hk' => by
      rcases List.mem_append.1 hk' with hk' | hk'
      · have h6 := h4.2 k (by simp [hk'])
        exact ⟨h6.1, h6.2.move (hf2 k hk')⟩
      · have h6 := ho.2 k hk'
        exact ⟨by omega, h6.2.move (hx2 k hk')⟩⟩
    cases hv : v'.ownBlock with
    | none => simpa using hff
    | some k =>
      obtain ⟨q1, q2, q3, q4⟩ := hv' k hv
      exact ⟨by simpa using ⟨⟨q3, q4⟩, hff.1⟩, fun j hj => by
        rcases List.mem_append.1 hj with hj | hj
        · obtain rfl : j = k := by simpa using hj
          exact ⟨q1, q2⟩
        · exact hff.2 j hj⟩

end Go.Proofs.YthidbmjdphfddaaDoor
