/- Data of any shape and how it lies in memory: read, made anew, kept by what a call does. No program is named here. -/
import Derived.WalkKit
import Derived.ChangeArms
import Derived.SizedLaws
import Derived.Laws.AppendOwn
namespace Go.Proofs.YthidbmjdphfddaaDoor
open Go.RowKit

/-- Data as it lies in memory: a slice bears the number of cells of an element. -/
inductive D where
  | int (k : IntKind) (n : Int)
  | bool (b : Bool)
  | str (s : ByteArray)
  | slice (sz : Nat) (xs : List D)
  | struct (fs : List D)

def CellsAt (w : World) (b off : Nat) (cs : List Value) : Prop := ∀ j u, cs[j]? = some u → w.cell? ⟨b, off + j, none⟩ = some u

mutual
/-- How many cells. -/
def D.n : D → Nat
  | .struct fs => D.nAll fs
  | .int _ _ => 1
  | .bool _ => 1
  | .str _ => 1
  | .slice _ _ => 1
def D.nAll : List D → Nat
  | [] => 0
  | x :: xs => x.n + D.nAll xs
end

mutual
/-- Cells 'cs' are data x in world w; fp: the blocks that this hangs on. -/
def D.K (w : World) : D → List Value → List Nat → Prop
  | .int k n, cs, fp => cs = [.int k n] ∧ fp = []
  | .bool b, cs, fp => cs = [.bool b] ∧ fp = []
  | .str s, cs, fp => cs = [.string s] ∧ fp = []
  | .slice sz xs, cs, fp => ∃ A c, cs = [.slice A xs.length c] ∧ xs.length ≤ c ∧ c ≤ maxLen ∧
      (xs = [] ∧ fp = [] ∨ ∃ b off f, A = some ⟨b, off, none⟩ ∧ b < w.heap.size ∧ fp = b :: f ∧ D.Row w b off sz xs f)
  | .struct fs, cs, fp => D.Fields w fs cs fp
def D.Row (w : World) (b off sz : Nat) : List D → List Nat → Prop
  | [], fp => fp = []
  | x :: xs, fp => ∃ cs f1 f2, fp = f1 ++ f2 ∧ cs.length = sz ∧ D.K w x cs f1 ∧ CellsAt w b off cs ∧ D.Row w b (off + sz) sz xs f2
def D.Fields (w : World) : List D → List Value → List Nat → Prop
  | [], cs, fp => cs = [] ∧ fp = []
  | x :: xs, cs, fp => ∃ c1 c2 f1 f2, cs = c1 ++ c2 ∧ fp = f1 ++ f2 ∧ D.K w x c1 f1 ∧ D.Fields w xs c2 f2
end

theorem CellsAt.move {w w1 : World} {b off : Nat} {cs : List Value} (h : CellsAt w b off cs) (hb : w1.heap[b]? = w.heap[b]?) : CellsAt w1 b off cs :=
  fun j u hu => (World.cell?_of_block (a := ⟨b, off + j, none⟩) hb).trans (h j u hu)

mutual
theorem D.K_move {w w1 : World} : ∀ (x : D) {cs : List Value} {fp : List Nat}, (∀ k ∈ fp, w1.heap[k]? = w.heap[k]?) → w.heap.size ≤ w1.heap.size → D.K w x cs fp → D.K w1 x cs fp
  | .int _ _, _, _, _, _, h => by simpa only [D.K] using h
  | .bool _, _, _, _, _, h => by simpa only [D.K] using h
  | .str _, _, _, _, _, h => by simpa only [D.K] using h
  | .struct fs, cs, fp, hm, hs, h => by
    simp only [D.K] at h ⊢
    exact D.Fields_move fs hm hs h
  | .slice sz xs, cs, fp, hm, hs, h => by
    simp only [D.K] at h ⊢
    obtain ⟨A, c, h1, h2, h3, h4⟩ := h
    refine ⟨A, c, h1, h2, h3, ?_⟩
    rcases h4 with h4 | ⟨b, off, f, h5, h6, h7, h8⟩
    · exact .inl h4
    · refine .inr ⟨b, off, f, h5, Nat.lt_of_lt_of_le h6 hs, h7, ?_⟩
      subst h7
      exact D.Row_move xs (hm b (by simp)) (fun k hk => hm k (by simp [hk])) hs h8
theorem D.Row_move {w w1 : World} {b sz : Nat} : ∀ (xs : List D) {off : Nat} {fp : List Nat}, w1.heap[b]? = w.heap[b]? → (∀ k ∈ fp, w1.heap[k]? = w.heap[k]?) → w.heap.size ≤ w1.heap.size → D.Row w b off sz xs fp → D.Row w1 b off sz xs fp
  | [], _, _, _, _, _, h => by simpa only [D.Row] using h
  | x :: xs, off, fp, hb, hm, hs, h => by
    simp only [D.Row] at h ⊢
    obtain ⟨cs, f1, f2, rfl, h2, h3, h4, h5⟩ := h
    exact ⟨cs, f1, f2, rfl, h2, D.K_move x (fun k hk => hm k (by simp [hk])) hs h3, h4.move hb, D.Row_move xs hb (fun k hk => hm k (by simp [hk])) hs h5⟩
theorem D.Fields_move {w w1 : World} : ∀ (xs : List D) {cs : List Value} {fp : List Nat}, (∀ k ∈ fp, w1.heap[k]? = w.heap[k]?) → w.heap.size ≤ w1.heap.size → D.Fields w xs cs fp → D.Fields w1 xs cs fp
  | [], _, _, _, _, h => by simpa only [D.Fields] using h
  | x :: xs, cs, fp, hm, hs, h => by
    simp only [D.Fields] at h ⊢
    obtain ⟨c1, c2, f1, f2, rfl, rfl, h3, h4⟩ := h
    exact ⟨c1, c2, f1, f2, rfl, rfl, D.K_move x (fun k hk => hm k (by simp [hk])) hs h3, D.Fields_move xs (fun k hk => hm k (by simp [hk])) hs h4⟩
end

mutual
theorem D.K_lt {w : World} : ∀ (x : D) {cs : List Value} {fp : List Nat}, D.K w x cs fp → ∀ k ∈ fp, k < w.heap.size
  | .int _ _, _, _, h => by
    simp only [D.K] at h
    simp [h.2]
  | .bool _, _, _, h => by
    simp only [D.K] at h
    simp [h.2]
  | .str _, _, _, h => by
    simp only [D.K] at h
    simp [h.2]
  | .struct fs, cs, fp, h => by
    simp only [D.K] at h
    exact D.Fields_lt fs h
  | .slice sz xs, cs, fp, h => by
    simp only [D.K] at h
    obtain ⟨A, c, h1, h2, h3, h4⟩ := h
    rcases h4 with ⟨_, rfl⟩ | ⟨b, off, f, h5, h6, rfl, h8⟩
    · simp
    · intro k hk
      rcases List.mem_cons.1 hk with rfl | hk
      · exact h6
      · exact D.Row_lt xs h8 k hk
theorem D.Row_lt {w : World} {b sz : Nat} : ∀ (xs : List D) {off : Nat} {fp : List Nat}, D.Row w b off sz xs fp → ∀ k ∈ fp, k < w.heap.size
  | [], _, _, h => by
    simp only [D.Row] at h
    simp [h]
  | x :: xs, off, fp, h => by
    simp only [D.Row] at h
    obtain ⟨cs, f1, f2, rfl, h2, h3, h4, h5⟩ := h
    intro k hk
    rcases List.mem_append.1 hk with hk | hk
    · exact D.K_lt x h3 k hk
    · exact D.Row_lt xs h5 k hk
theorem D.Fields_lt {w : World} : ∀ (xs : List D) {cs : List Value} {fp : List Nat}, D.Fields w xs cs fp → ∀ k ∈ fp, k < w.heap.size
  | [], _, _, h => by
    simp only [D.Fields] at h
    simp [h.2]
  | x :: xs, cs, fp, h => by
    simp only [D.Fields] at h
    obtain ⟨c1, c2, f1, f2, rfl, rfl, h3, h4⟩ := h
    intro k hk
    rcases List.mem_append.1 hk with hk | hk
    · exact D.K_lt x h3 k hk
    · exact D.Fields_lt xs h4 k hk
end

mutual
theorem D.K_len {w : World} : ∀ (x : D) {cs : List Value} {fp : List Nat}, D.K w x cs fp → cs.length = x.n
  | .int _ _, _, _, h => by
    simp only [D.K] at h
    simp [h.1, D.n]
  | .bool _, _, _, h => by
    simp only [D.K] at h
    simp [h.1, D.n]
  | .str _, _, _, h => by
    simp only [D.K] at h
    simp [h.1, D.n]
  | .struct fs, cs, fp, h => by
    simp only [D.K] at h
    simp only [D.n]
    exact D.Fields_len fs h
  | .slice sz xs, cs, fp, h => by
    simp only [D.K] at h
    obtain ⟨A, c, rfl, _⟩ := h
    simp [D.n]
theorem D.Fields_len {w : World} : ∀ (xs : List D) {cs : List Value} {fp : List Nat}, D.Fields w xs cs fp → cs.length = D.nAll xs
  | [], _, _, h => by
    simp only [D.Fields] at h
    simp [h.1, D.nAll]
  | x :: xs, cs, fp, h => by
    simp only [D.Fields] at h
    obtain ⟨c1, c2, f1, f2, rfl, rfl, h3, h4⟩ := h
    simp only [D.nAll, List.length_append, D.K_len x h3, D.Fields_len xs h4]
end

mutual
theorem D.K_one {w : World} : ∀ (x : D) {cs : List Value} {fp : List Nat}, D.K w x cs fp → ∀ u ∈ cs, u.oneCell' = true
  | .int _ _, _, _, h => by
    simp only [D.K] at h
    rw [h.1]
    simp [Value.oneCell']
  | .bool _, _, _, h => by
    simp only [D.K] at h
    rw [h.1]
    simp [Value.oneCell']
  | .str _, _, _, h => by
    simp only [D.K] at h
    rw [h.1]
    simp [Value.oneCell']
  | .struct fs, cs, fp, h => by
    simp only [D.K] at h
    exact D.Fields_one fs h
  | .slice sz xs, cs, fp, h => by
    simp only [D.K] at h
    obtain ⟨A, c, rfl, _⟩ := h
    simp [Value.oneCell']
theorem D.Fields_one {w : World} : ∀ (xs : List D) {cs : List Value} {fp : List Nat}, D.Fields w xs cs fp → ∀ u ∈ cs, u.oneCell' = true
  | [], _, _, h => by
    simp only [D.Fields] at h
    simp [h.1]
  | x :: xs, cs, fp, h => by
    simp only [D.Fields] at h
    obtain ⟨c1, c2, f1, f2, rfl, rfl, h3, h4⟩ := h
    intro u hu
    rcases List.mem_append.1 hu with hu | hu
    · exact D.K_one x h3 u hu
    · exact D.Fields_one xs h4 u hu
end

theorem D.Row_get {w : World} {b sz : Nat} : ∀ {xs : List D} {off : Nat} {fp : List Nat}, D.Row w b off sz xs fp → ∀ (i : Nat) (x : D), xs[i]? = some x →
    ∃ cs f, cs.length = sz ∧ D.K w x cs f ∧ (∀ k ∈ f, k ∈ fp) ∧ CellsAt w b (off + i * sz) cs
  | [], _, _, _, i, x, hx => by simp at hx
  | y :: xs, off, fp, h, i, x, hx => by
    simp only [D.Row] at h
    obtain ⟨cs, f1, f2, rfl, h2, h3, h4, h5⟩ := h
    cases i with
    | zero =>
      simp only [List.getElem?_cons_zero, Option.some.injEq] at hx
      subst hx
      exact ⟨cs, f1, h2, h3, fun k hk => by simp [hk], by simpa using h4⟩
    | succ i =>
      rw [List.getElem?_cons_succ] at hx
      obtain ⟨cs', f', q1, q2, q3, q4⟩ := D.Row_get h5 i x hx
      refine ⟨cs', f', q1, q2, fun k hk => by simp [q3 k hk], ?_⟩
      rw [show off + (i + 1) * sz = off + sz + i * sz by rw [Nat.add_mul]; omega]
      exact q4

/-! ### Read -/
/-- The cells are data x. -/
def Rd (w : World) (x : D) (cs : List Value) : Prop := ∃ fp, D.K w x cs fp
/-- A row of elements, from the address A on. -/
def RdRow (w : World) (sz : Nat) (A : Option Addr) (xs : List D) : Prop :=
  xs = [] ∨ ∃ b off, A = some ⟨b, off, none⟩ ∧ ∀ i x, xs[i]? = some x → ∃ cs, cs.length = sz ∧ Rd w x cs ∧ CellsAt w b (off + i * sz) cs
def RdF (w : World) (xs : List D) (cs : List Value) : Prop := ∃ fp, D.Fields w xs cs fp

theorem Rd.below {w w1 : World} {x : D} {cs : List Value} (h : Rd w x cs) (hb : Below w.heap.size w w1) : Rd w1 x cs := by
  obtain ⟨fp, h⟩ := h
  exact ⟨fp, D.K_move x (fun k hk => hb.block k (D.K_lt x h k hk)) hb.size h⟩
theorem rd_int {w : World} {k : IntKind} {n : Int} {cs : List Value} : Rd w (.int k n) cs ↔ cs = [.int k n] := by simp [Rd, D.K]
theorem rd_bool {w : World} {b : Bool} {cs : List Value} : Rd w (.bool b) cs ↔ cs = [.bool b] := by simp [Rd, D.K]
theorem rd_str {w : World} {s : ByteArray} {cs : List Value} : Rd w (.str s) cs ↔ cs = [.string s] := by simp [Rd, D.K]
theorem rd_struct {w : World} {fs : List D} {cs : List Value} : Rd w (.struct fs) cs ↔ RdF w fs cs := by simp [Rd, RdF, D.K]
theorem rdF_nil {w : World} {cs : List Value} : RdF w [] cs ↔ cs = [] := by simp [RdF, D.Fields]
theorem rdF_cons {w : World} {x : D} {xs : List D} {cs : List Value} : RdF w (x :: xs) cs ↔ ∃ c1 c2, cs = c1 ++ c2 ∧ Rd w x c1 ∧ RdF w xs c2 := by
  constructor
  · rintro ⟨fp, h⟩
    simp only [D.Fields] at h
    obtain ⟨c1, c2, f1, f2, rfl, rfl, h3, h4⟩ := h
    exact ⟨c1, c2, rfl, ⟨f1, h3⟩, ⟨f2, h4⟩⟩
  · rintro ⟨c1, c2, rfl, ⟨f1, h3⟩, ⟨f2, h4⟩⟩
    exact ⟨f1 ++ f2, by simp only [D.Fields]; exact ⟨c1, c2, f1, f2, rfl, rfl, h3, h4⟩⟩
theorem rd_slice {w : World} {sz : Nat} {xs : List D} {cs : List Value} (h : Rd w (.slice sz xs) cs) : ∃ A c, cs = [.slice A xs.length c] ∧ xs.length ≤ c ∧ c ≤ maxLen ∧ RdRow w sz A xs := by
  obtain ⟨fp, h⟩ := h
  simp only [D.K] at h
  obtain ⟨A, c, h1, h2, h3, h4⟩ := h
  refine ⟨A, c, h1, h2, h3, ?_⟩
  rcases h4 with ⟨h4, _⟩ | ⟨b, off, f, h5, h6, h7, h8⟩
  · exact .inl h4
  · refine .inr ⟨b, off, h5, fun i x hx => ?_⟩
    obtain ⟨cs', f', q1, q2, _, q4⟩ := D.Row_get h8 i x hx
    exact ⟨cs', q1, ⟨f', q2⟩, q4⟩
theorem RdRow.below {w w1 : World} {sz : Nat} {A : Option Addr} {xs : List D} (h : RdRow w sz A xs) (hp : 0 < sz) (hb : Below w.heap.size w w1) : RdRow w1 sz A xs := by
  rcases h with h | ⟨b, off, h1, h2⟩
  · exact .inl h
  · refine .inr ⟨b, off, h1, fun i x hx => ?_⟩
    obtain ⟨cs, q1, q2, q3⟩ := h2 i x hx
    refine ⟨cs, q1, q2.below hb, q3.move ?_⟩
    obtain ⟨u, hu⟩ : ∃ u, cs[0]? = some u := ⟨_, List.getElem?_eq_getElem (show 0 < cs.length by omega)⟩
    exact hb.block b (World.block_lt_of_cell? w _ (q3 0 u hu))
/-- Element i of a row. -/
theorem RdRow.get {w : World} {sz : Nat} {A : Option Addr} {xs : List D} (h : RdRow w sz A xs) {i : Nat} {x : D} (hx : xs[i]? = some x) :
    ∃ b off cs, A = some ⟨b, off, none⟩ ∧ cs.length = sz ∧ Rd w x cs ∧ CellsAt w b (off + i * sz) cs := by
  rcases h with rfl | ⟨b, off, h1, h2⟩
  · simp at hx
  · obtain ⟨cs, q⟩ := h2 i x hx
    exact ⟨b, off, cs, h1, q⟩

theorem D.Row_mk {w : World} {b sz : Nat} : ∀ {xs : List D} {off : Nat}, (∀ i x, xs[i]? = some x → ∃ cs, cs.length = sz ∧ Rd w x cs ∧ CellsAt w b (off + i * sz) cs) → ∃ fp, D.Row w b off sz xs fp
  | [], _, _ => ⟨[], by simp [D.Row]⟩
  | x :: xs, off, h => by
    obtain ⟨cs, h1, ⟨f1, h2⟩, h3⟩ := h 0 x rfl
    obtain ⟨f2, h4⟩ := D.Row_mk (w := w) (b := b) (sz := sz) (xs := xs) (off := off + sz) (fun i y hy => by
      obtain ⟨cs', q1, q2, q3⟩ := h (i + 1) y hy
      refine ⟨cs', q1, q2, ?_⟩
      rw [show off + sz + i * sz = off + (i + 1) * sz by rw [Nat.add_mul]; omega]
      exact q3)
    exact ⟨f1 ++ f2, by simp only [D.Row]; exact ⟨cs, f1, f2, rfl, h1, h2, by simpa using h3, h4⟩⟩
theorem rd_slice_mk {w : World} {sz : Nat} {xs : List D} {A : Option Addr} {c : Nat} (h1 : xs.length ≤ c) (h2 : c ≤ maxLen) (hp : 0 < sz) (h : RdRow w sz A xs) : Rd w (.slice sz xs) [.slice A xs.length c] := by
  rcases h with rfl | ⟨b, off, rfl, h⟩
  · exact ⟨[], by simp only [D.K]; exact ⟨A, c, rfl, h1, h2, .inl ⟨True.intro, True.intro⟩⟩⟩
  · by_cases h0 : xs = []
    · subst h0
      exact ⟨[], by simp only [D.K]; exact ⟨_, c, rfl, h1, h2, .inl ⟨True.intro, True.intro⟩⟩⟩
    · obtain ⟨fp, hr⟩ := D.Row_mk h
      obtain ⟨x, hx⟩ : ∃ x, xs[0]? = some x := ⟨_, List.getElem?_eq_getElem (List.length_pos_iff.2 h0)⟩
      obtain ⟨cs, q1, _, q3⟩ := h 0 x hx
      obtain ⟨u, hu⟩ : ∃ u, cs[0]? = some u := ⟨_, List.getElem?_eq_getElem (show 0 < cs.length by omega)⟩
      have := World.block_lt_of_cell? w _ (q3 0 u hu)
      exact ⟨b :: fp, by simp only [D.K]; exact ⟨_, c, rfl, h1, h2, .inr ⟨b, off, fp, rfl, this, rfl, hr⟩⟩⟩

/-! ### What is read as an argument is data -/
mutual
/-- Numbers are of their kinds; strings and slices have a size that memory can hold. -/
def D.ok : D → Prop
  | .int k n => (Lit.int k n).wf = true
  | .bool _ => True
  | .str s => s.size ≤ reachBytes
  | .slice _ xs => xs.length ≤ reachBytes ∧ D.okAll xs
  | .struct fs => D.okAll fs
def D.okAll : List D → Prop
  | [] => True
  | x :: xs => x.ok ∧ D.okAll xs
end
theorem D.okAll_mem : ∀ {xs : List D}, D.okAll xs → ∀ x ∈ xs, x.ok
  | [], _, x, hx => by cases hx
  | y :: xs, h, x, hx => by
    simp only [D.okAll] at h
    rcases List.mem_cons.1 hx with rfl | hx
    · exact h.1
    · exact D.okAll_mem h.2 x hx
theorem D.okAll_mk : ∀ {xs : List D}, (∀ x ∈ xs, x.ok) → D.okAll xs
  | [], _ => by simp [D.okAll]
  | y :: xs, h => by
    simp only [D.okAll]
    exact ⟨h y (by simp), D.okAll_mk (fun x hx => h x (by simp [hx]))⟩

/-- What type t's readings are: data in G. -/
def Opens (P : Program) (t : TypeId) (G : D → Prop) (N : Nat) : Prop :=
  ∀ (H : Type) (enc : TypeId × Value → H) (w : World) (base : Nat) (spare : Nat → Bool) (held : Bool) (fuel : Nat) (cs : List Value) (x : DataW H × List MemPlace), fuel ≤ N →
    DataW.trod enc P w base spare held fuel t cs = some x → (∀ n ∈ x.1.weights P t, n ≤ reachBytes) → ∃ y : D, Rd w y cs ∧ G y ∧ cs.length = P.cellsOf t

theorem opens_int {P : Program} {t : TypeId} {k : IntKind} (ht : P.underlying t = some (.int k)) (hc : P.cellsOf t = 1) (N : Nat) : Opens P t (fun y => ∃ n, y = .int k n ∧ (Lit.int k n).wf = true) N := by
  intro H enc w base spare held fuel cs x _ h _
  obtain ⟨n, rfl, rfl, hw⟩ := DataW.trod_int ht h
  exact ⟨.int k n, rd_int.2 rfl, ⟨n, rfl, hw⟩, by simp [hc]⟩
theorem opens_bool {P : Program} {t : TypeId} (ht : P.underlying t = some .bool) (hc : P.cellsOf t = 1) (N : Nat) : Opens P t (fun y => ∃ b, y = .bool b) N := by
  intro H enc w base spare held fuel cs x _ h _
  cases fuel with
  | zero => simp [DataW.trod] at h
  | succ n =>
    unfold DataW.trod at h
    rw [ht] at h
    split at h <;> simp_all
    rename_i b
    exact ⟨.bool b, rd_bool.2 rfl, by cases b <;> simp⟩
theorem opens_str {P : Program} {t : TypeId} (ht : P.underlying t = some .string) (hc : P.cellsOf t = 1) (N : Nat) : Opens P t (fun y => ∃ s, y = .str s ∧ s.size ≤ reachBytes) N := by
  intro H enc w base spare held fuel cs x _ h hz
  obtain ⟨s, rfl, rfl, hw⟩ := DataW.trod_string ht h
  refine ⟨.str s, rd_str.2 rfl, ⟨s, rfl, ?_⟩, by simp [hc]⟩
  exact hz s.size (by simp [DataW.weights])

theorem weights_all {H : Type} {P : Program} {e : TypeId} : ∀ {ds : List (DataW H)} {d : DataW H}, d ∈ ds → ∀ n ∈ d.weights P e, n ∈ DataW.weightsAll P e ds
  | d0 :: ds, d, hd, n, hn => by
    simp only [DataW.weightsAll, List.mem_append]
    rcases List.mem_cons.1 hd with rfl | hd
    · exact .inl hn
    · exact .inr (weights_all hd n hn)
  | [], d, hd, _, _ => by cases hd

theorem opens_slice {P : Program} {t e : TypeId} {G : D → Prop} {sz B N : Nat} (ht : P.underlying t = some (.slice e)) (hc : P.cellsOf t = 1) (hsz : P.cellsOf e = sz) (hp : 0 < sz) (hB : P.bytesOf e = B) (he : Opens P e G N) :
    Opens P t (fun y => ∃ xs, y = .slice sz xs ∧ xs.length * B ≤ reachBytes ∧ ∀ x ∈ xs, G x) (N + 1) := by
  intro H enc w base spare held fuel cs x hN h hz
  rcases DataW.trod_slice ht h with ⟨rfl, rfl⟩ | ⟨a, len, cap, elems, rest, m, rfl, rfl, rfl, hb, hl, hm, hlen, hel, _, _⟩
  · refine ⟨.slice sz [], rd_slice_mk (xs := []) (Nat.le_refl _) (by decide) hp (.inl rfl), ⟨[], rfl, by simp, by simp⟩, by simp [hc]⟩
  · have hw1 : (elems.length + rest.length) * B ≤ reachBytes := by
      have := hz ((elems.length + rest.length) * B) (by simp [DataW.weights, ht, hB])
      exact this
    have hw2 : ∀ (i : Nat) (d : DataW H × List MemPlace), elems[i]? = some d → ∀ n ∈ d.1.weights P e, n ≤ reachBytes := by
      intro i d hd n hn
      refine hz n ?_
      simp only [DataW.weights, ht, List.mem_cons, List.mem_append]
      exact .inr (.inl (weights_all (List.mem_map.2 ⟨d, List.mem_of_getElem? hd, rfl⟩) n hn))
    have key : ∀ i, i < len → ∃ y cs', cs'.length = sz ∧ Rd w y cs' ∧ G y ∧ w.cells? base (a.add (i * sz)) sz = some cs' := by
      intro i hi
      have h1 := hel i hi
      rw [hsz, List.getElem?_eq_getElem (show i < elems.length by omega)] at h1
      obtain ⟨cs', q1, q2⟩ := Option.bind_eq_some_iff.1 h1
      obtain ⟨y, r1, r2, r3⟩ := he H enc w base spare held m cs' _ (by omega) q2 (hw2 i _ (List.getElem?_eq_getElem (by omega)))
      exact ⟨y, cs', r3.trans hsz, r1, r2, q1⟩
    have lists : ∀ n, n ≤ len → ∃ ys : List D, ys.length = n ∧ (∀ y ∈ ys, G y) ∧ ∀ i y, ys[i]? = some y → ∃ cs', cs'.length = sz ∧ Rd w y cs' ∧ w.cells? base (a.add (i * sz)) sz = some cs' := by
      intro n
      induction n with
      | zero => exact fun _ => ⟨[], rfl, by simp, by simp⟩
      | succ n ih =>
        intro hn
        obtain ⟨ys, g1, g2, g3⟩ := ih (by omega)
        obtain ⟨y, cs', r1, r2, r3, r4⟩ := key n (by omega)
        refine ⟨ys ++ [y], by simp [g1], fun z hz => ?_, fun i z hz => ?_⟩
        · rcases List.mem_append.1 hz with hz | hz
          · exact g2 z hz
          · rw [List.mem_singleton.1 hz]; exact r3
        · rcases Nat.lt_or_ge i ys.length with hi | hi
          · rw [List.getElem?_append_left hi] at hz
            exact g3 i z hz
          · rw [List.getElem?_append_right hi] at hz
            have hi0 : i - ys.length = 0 := by
              rcases Nat.eq_zero_or_pos (i - ys.length) with h0 | h0
              · exact h0
              · rw [List.getElem?_eq_none (by simp; omega)] at hz
                cases hz
            rw [hi0] at hz
            simp only [List.getElem?_cons_zero, Option.some.injEq] at hz
            subst hz
            have hin : i = n := by omega
            subst hin
            exact ⟨cs', r1, r2, r4⟩
    obtain ⟨ys, g1, g2, g3⟩ := lists len (Nat.le_refl _)
    have hbytes : ys.length * B ≤ reachBytes := by
      rw [g1]
      refine Nat.le_trans (Nat.mul_le_mul_right _ ?_) hw1
      omega
    refine ⟨.slice sz ys, ?_, ⟨ys, rfl, hbytes, g2⟩, by simp [hc]⟩
    rw [← g1]
    refine rd_slice_mk (by omega) hm hp ?_
    by_cases h0 : ys = []
    · exact .inl h0
    · have hpos : 0 < ys.length := List.length_pos_iff.2 h0
      have cellOf : ∀ i y, ys[i]? = some y → ∃ cs', cs'.length = sz ∧ Rd w y cs' ∧ ∀ j u, cs'[j]? = some u → w.cell? ((a.add (i * sz)).add j) = some u := by
        intro i y hy
        obtain ⟨cs', q1, q2, q3⟩ := g3 i y hy
        refine ⟨cs', q1, q2, fun j u hu => ?_⟩
        obtain ⟨_, _, hcell⟩ := World.cells?_some q3
        have hj : j < sz := by have := (List.getElem?_eq_some_iff.1 hu).1; omega
        rw [hcell j hj]
        exact hu
      have hspot : a.spot = none := by
        obtain ⟨cs', q1, q2, q3⟩ := cellOf 0 _ (List.getElem?_eq_getElem hpos)
        obtain ⟨u, hu⟩ : ∃ u, cs'[0]? = some u := ⟨_, List.getElem?_eq_getElem (show 0 < cs'.length by omega)⟩
        have h1 := q3 0 u hu
        simp only [Nat.zero_mul, Addr.add] at h1
        unfold World.cell? at h1
        cases hs : a.spot with
        | none => rfl
        | some z => simp [hs] at h1; split at h1 <;> simp_all
      refine .inr ⟨a.block, a.off, by cases a; simp_all, fun i y hy => ?_⟩
      obtain ⟨cs', q1, q2, q3⟩ := cellOf i y hy
      refine ⟨cs', q1, q2, fun j u hu => ?_⟩
      rw [← q3 j u hu]
      congr 1
      obtain ⟨ab, ao, asp⟩ := a
      simp only at hspot
      subst hspot
      unfold Addr.add
      by_cases h1 : i * sz = 0 <;> by_cases h2 : j = 0 <;> simp [h1, h2, Nat.add_assoc]

/-- Fields in line, from offset o on. -/
def OpensF (P : Program) (fs : List Field) (o : Nat) (G : List D → Prop) (N : Nat) : Prop :=
  ∀ (H : Type) (enc : TypeId × Value → H) (w : World) (base : Nat) (spare : Nat → Bool) (held : Bool) (fuel : Nat) (cs : List Value) (xs : List (DataW H × List MemPlace)), fuel ≤ N → xs.length = fs.length →
    (∀ (i : Nat) (f : Field), fs[i]? = some f → DataW.trod enc P w base spare held fuel f.type ((cs.drop f.offset).take (P.cellsOf f.type)) = xs[i]?) →
    (∀ n ∈ DataW.weightsEach P (fs.map (·.type)) (xs.map (·.1)), n ≤ reachBytes) → (cs.drop o).length = (fs.map fun f => P.cellsOf f.type).sum → ∃ ys, RdF w ys (cs.drop o) ∧ G ys
theorem opensF_nil {P : Program} {o N : Nat} : OpensF P [] o (fun ys => ys = []) N := by
  intro H enc w base spare held fuel cs xs _ _ _ _ hl
  exact ⟨[], rdF_nil.2 (List.eq_nil_of_length_eq_zero (by simpa using hl)), rfl⟩
theorem opensF_cons {P : Program} {f : Field} {fs : List Field} {o N c : Nat} {G : D → Prop} {G2 : List D → Prop} (ho : f.offset = o) (hc : P.cellsOf f.type = c) (h1 : Opens P f.type G N) (h2 : OpensF P fs (o + c) G2 N) :
    OpensF P (f :: fs) o (fun ys => ∃ x xs, ys = x :: xs ∧ G x ∧ G2 xs) N := by
  intro H enc w base spare held fuel cs xs hN hlen hi hz hl
  cases xs with
  | nil => simp at hlen
  | cons x xs =>
    have e0 := hi 0 f rfl
    simp only [List.getElem?_cons_zero] at e0
    obtain ⟨y, q1, q2, q3⟩ := h1 H enc w base spare held fuel _ x hN e0 (fun n hn => hz n (by
      simp only [List.map_cons, DataW.weightsEach, List.mem_append]
      exact .inl hn))
    have hd : (cs.drop o).drop c = cs.drop (o + c) := by rw [List.drop_drop]
    obtain ⟨ys, r1, r2⟩ := h2 H enc w base spare held fuel cs xs hN (by simpa using hlen) (fun i g hg => by simpa using hi (i + 1) g (by simpa using hg)) (fun n hn => hz n (by
      simp only [List.map_cons, DataW.weightsEach, List.mem_append]
      exact .inr hn)) (by
      rw [← hd, List.length_drop, hl]
      simp [hc])
    refine ⟨y :: ys, rdF_cons.2 ⟨_, _, ?_, q1, r1⟩, y, ys, rfl, q2, r2⟩
    rw [ho, hc, ← hd, List.take_append_drop]
theorem opens_struct {P : Program} {t : TypeId} {fs : Array Field} {G : List D → Prop} {N : Nat} (ht : P.underlying t = some (.struct fs)) (hc : P.cellsOf t = (fs.toList.map fun f => P.cellsOf f.type).sum) (h : OpensF P fs.toList 0 G N) :
    Opens P t (fun y => ∃ ys, y = .struct ys ∧ G ys) (N + 1) := by
  intro H enc w base spare held fuel cs x hN hx hz
  obtain ⟨xs, n, rfl, rfl, hl, hlen, hi⟩ := DataW.trod_struct ht hx
  obtain ⟨ys, q1, q2⟩ := h H enc w base spare held n cs xs (by omega) (by simpa using hlen) (fun i f hf => hi i f (by simpa using hf)) (fun m hm => hz m (by simpa [DataW.weights, ht] using hm)) (by simpa [hc] using hl)
  exact ⟨.struct ys, rd_struct.2 (by simpa using q1), ⟨ys, rfl, q2⟩, hl⟩
theorem Opens.imp {P : Program} {t : TypeId} {G G' : D → Prop} {N : Nat} (h : Opens P t G N) (hi : ∀ y, G y → G' y) : Opens P t G' N := by
  intro H enc w base spare held fuel cs x hN hx hz
  obtain ⟨y, q1, q2, q3⟩ := h H enc w base spare held fuel cs x hN hx hz
  exact ⟨y, q1, hi y q2, q3⟩
theorem Opens.le {P : Program} {t : TypeId} {G : D → Prop} {N M : Nat} (h : Opens P t G N) (hM : M ≤ N) : Opens P t G M := by
  intro H enc w base spare held fuel cs x hN hx hz
  exact h H enc w base spare held fuel cs x (by omega) hx hz
theorem opens_zero {P : Program} {t : TypeId} {G : D → Prop} : Opens P t G 0 := by
  intro H enc w base spare held fuel cs x hN hx hz
  obtain rfl : fuel = 0 := by omega
  simp [DataW.trod] at hx

/-- An argument that is read is data. -/
theorem opened {H : Type} {enc : TypeId × Value → H} {P : Program} {W : World} {base : Nat} {spare : Nat → Bool} {held : Bool} {t : TypeId} {v : Value} {d : DataW H} {ps : List MemPlace} {ts : List TypeId} {ds : List (DataW H)} {j : Nat} {G : D → Prop}
    (ho : ∀ N, Opens P t G N) (hsz : (DataW.weightsEach P ts ds).all (· ≤ reachBytes) = true) (ht : ts[j]? = some t) (hd : ds[j]? = some d) (h : DataW.Trod enc P W base spare held t v d ps) : ∃ y : D, Rd W y v.cells.toList ∧ G y := by
  obtain ⟨fuel, hf⟩ := h
  obtain ⟨y, q1, q2, _⟩ := ho fuel H enc W base spare held fuel _ _ (Nat.le_refl _) hf (fun n hn => by
    have := List.all_eq_true.1 hsz n (DataW.weights_mem_each ht hd n hn)
    simpa using this)
  exact ⟨y, q1, q2⟩

end Go.Proofs.YthidbmjdphfddaaDoor
