/- Rows of structs, leaf by leaf; one cell stored, the world by name. No program is named here. -/
import Derived.Test.YthidbmjdphfddaaDoorHm
namespace Go.Proofs.YthidbmjdphfddaaDoor
open Go.RowKit
set_option linter.unusedVariables false
set_option linter.unusedSimpArgs false

mutual
/-- The leaves, a cell each. -/
def D.flat : D → List D
  | .struct fs => D.flats fs
  | .int k n => [.int k n]
  | .bool b => [.bool b]
  | .str s => [.str s]
  | .slice sz xs => [.slice sz xs]
def D.flats : List D → List D
  | [] => []
  | x :: xs => x.flat ++ D.flats xs
end
theorem D.flats_append (xs ys : List D) : D.flats (xs ++ ys) = D.flats xs ++ D.flats ys := by
  induction xs with
  | nil => rfl
  | cons x xs ih => simp only [List.cons_append, D.flats, ih, List.append_assoc]
mutual
theorem D.flat_len : ∀ x : D, x.flat.length = x.n
  | .int _ _ => rfl
  | .bool _ => rfl
  | .str _ => rfl
  | .slice _ _ => rfl
  | .struct fs => by simp only [D.flat, D.n, D.flats_len fs]
theorem D.flats_len : ∀ xs : List D, (D.flats xs).length = D.nAll xs
  | [] => rfl
  | x :: xs => by simp only [D.flats, D.nAll, List.length_append, D.flat_len x, D.flats_len xs]
end
mutual
theorem D.flat_one : ∀ (x : D), ∀ y ∈ x.flat, y.n = 1
  | .int _ _, y, h => by simp only [D.flat, List.mem_singleton] at h; rw [h]; rfl
  | .bool _, y, h => by simp only [D.flat, List.mem_singleton] at h; rw [h]; rfl
  | .str _, y, h => by simp only [D.flat, List.mem_singleton] at h; rw [h]; rfl
  | .slice _ _, y, h => by simp only [D.flat, List.mem_singleton] at h; rw [h]; rfl
  | .struct fs, y, h => by simp only [D.flat] at h; exact D.flats_one fs y h
theorem D.flats_one : ∀ (xs : List D), ∀ y ∈ D.flats xs, y.n = 1
  | [], y, h => by simp [D.flats] at h
  | x :: xs, y, h => by
    simp only [D.flats, List.mem_append] at h
    rcases h with h | h
    · exact D.flat_one x y h
    · exact D.flats_one xs y h
end
theorem D.Fields_single {w : World} {x : D} {cs : List Value} {fp : List Nat} : D.Fields w [x] cs fp ↔ D.K w x cs fp := by
  simp only [D.Fields]
  constructor
  · rintro ⟨c1, c2, f1, f2, rfl, rfl, h, rfl, rfl⟩
    simpa using h
  · intro h
    exact ⟨cs, [], fp, [], by simp, by simp, h, rfl, rfl⟩
mutual
theorem D.K_flat {w : World} : ∀ (x : D) {cs : List Value} {fp : List Nat}, D.K w x cs fp ↔ D.Fields w x.flat cs fp
  | .int _ _, _, _ => by simp only [D.flat]; exact D.Fields_single.symm
  | .bool _, _, _ => by simp only [D.flat]; exact D.Fields_single.symm
  | .str _, _, _ => by simp only [D.flat]; exact D.Fields_single.symm
  | .slice _ _, _, _ => by simp only [D.flat]; exact D.Fields_single.symm
  | .struct fs, _, _ => by simp only [D.flat]; rw [D.K_struct]; exact D.Fields_flats fs
theorem D.Fields_flats {w : World} : ∀ (xs : List D) {cs : List Value} {fp : List Nat}, D.Fields w xs cs fp ↔ D.Fields w (D.flats xs) cs fp
  | [], _, _ => by simp only [D.flats]
  | x :: xs, cs, fp => by
    rw [D.flats, D.Fields_app]
    simp only [D.Fields]
    constructor
    · rintro ⟨c1, c2, f1, f2, rfl, rfl, h1, h2⟩
      exact ⟨c1, c2, f1, f2, rfl, rfl, (D.K_flat x).1 h1, (D.Fields_flats xs).1 h2⟩
    · rintro ⟨c1, c2, f1, f2, rfl, rfl, h1, h2⟩
      exact ⟨c1, c2, f1, f2, rfl, rfl, (D.K_flat x).2 h1, (D.Fields_flats xs).2 h2⟩
end
theorem D.fields_of_row {w : World} {b : Nat} : ∀ {ys : List D} {off : Nat} {f : List Nat}, D.Row w b off 1 ys f → ∃ cells, cells.length = ys.length ∧ D.Fields w ys cells f ∧ CellsAt w b off cells
  | [], off, f, h => by
    simp only [D.Row] at h
    exact ⟨[], rfl, by simp only [D.Fields]; exact ⟨True.intro, h⟩, fun j u hu => by simp at hu⟩
  | y :: ys, off, f, h => by
    simp only [D.Row] at h
    obtain ⟨cs, f1, f2, rfl, h1, h2, h3, h4⟩ := h
    obtain ⟨cells, q1, q2, q3⟩ := D.fields_of_row h4
    refine ⟨cs ++ cells, by simp only [List.length_append, List.length_cons]; omega, by simp only [D.Fields]; exact ⟨cs, cells, f1, f2, rfl, rfl, h2, q2⟩, fun j u hu => ?_⟩
    rcases Nat.lt_or_ge j cs.length with hj | hj
    · rw [List.getElem?_append_left hj] at hu
      exact h3 j u hu
    · rw [List.getElem?_append_right hj] at hu
      have := q3 _ u hu
      rwa [show off + 1 + (j - cs.length) = off + j by omega] at this
theorem D.Row_flats {w : World} {b sz : Nat} : ∀ {xs : List D} {off : Nat} {f : List Nat}, (∀ x ∈ xs, x.n = sz) → (D.Row w b off sz xs f ↔ D.Row w b off 1 (D.flats xs) f)
  | [], off, f, _ => by simp only [D.flats, D.Row]
  | x :: xs, off, f, hn => by
    have hx : x.flat.length = sz := (D.flat_len x).trans (hn x (by simp))
    have ih := fun {off f} => D.Row_flats (w := w) (b := b) (sz := sz) (xs := xs) (off := off) (f := f) (fun y hy => hn y (by simp [hy]))
    rw [D.flats, D.Row_app, hx]
    simp only [D.Row]
    constructor
    · rintro ⟨cs, f1, f2, rfl, h1, h2, h3, h4⟩
      exact ⟨f1, f2, rfl, D.Row_of_fields ((D.K_flat x).1 h2) (D.flat_one x) h3, ih.1 h4⟩
    · rintro ⟨f1, f2, rfl, h1, h2⟩
      obtain ⟨cells, q1, q2, q3⟩ := D.fields_of_row h1
      exact ⟨cells, f1, f2, rfl, q1.trans hx, (D.K_flat x).2 q2, q3, ih.2 h2⟩
mutual
theorem D.mark_n : ∀ (x : D) (k : Nat), (x.mark k).n = x.n
  | .int _ _, _ => rfl
  | .bool _, _ => rfl
  | .str _, _ => rfl
  | .slice _ _, _ => rfl
  | .struct fs, k => by simp only [D.mark, D.n, D.marks_n fs k]
theorem D.marks_n : ∀ (xs : List D) (k : Nat), D.nAll (D.marks xs k) = D.nAll xs
  | [], _ => rfl
  | x :: xs, k => by simp only [D.marks, D.nAll, D.mark_n x k, D.marks_n xs]
end
mutual
theorem D.cnt_flat : ∀ x : D, D.cnts x.flat = x.cnt
  | .int _ _ => rfl
  | .bool _ => rfl
  | .str _ => rfl
  | .slice _ _ => rfl
  | .struct fs => by simp only [D.flat, D.cnt, D.cnts_flats fs]
theorem D.cnts_flats : ∀ xs : List D, D.cnts (D.flats xs) = D.cnts xs
  | [] => rfl
  | x :: xs => by simp only [D.flats, D.cnts_append, D.cnts, D.cnt_flat x, D.cnts_flats xs]
end
mutual
theorem D.marks_flat : ∀ (x : D) (k : Nat), D.marks x.flat k = (x.mark k).flat
  | .int _ _, _ => rfl
  | .bool _, _ => rfl
  | .str _, _ => rfl
  | .slice _ _, _ => rfl
  | .struct fs, k => by simp only [D.flat, D.mark, D.marks_flats fs k]
theorem D.marks_flats : ∀ (xs : List D) (k : Nat), D.marks (D.flats xs) k = D.flats (D.marks xs k)
  | [], _ => rfl
  | x :: xs, k => by simp only [D.flats, D.marks, D.marks_append, D.marks_flat x k, D.cnt_flat x, D.marks_flats xs]
end
theorem D.marks_mem_n {sz : Nat} {xs : List D} (h : ∀ x ∈ xs, x.n = sz) : ∀ (k : Nat), ∀ y ∈ D.marks xs k, y.n = sz := by
  induction xs with
  | nil => intro k y hy; simp [D.marks] at hy
  | cons x xs ih =>
    intro k y hy
    simp only [D.marks, List.mem_cons] at hy
    rcases hy with rfl | hy
    · rw [D.mark_n]; exact h x (by simp)
    · exact ih (fun z hz => h z (by simp [hz])) _ y hy
theorem D.flats_take_len {sz : Nat} {xs : List D} (h : ∀ x ∈ xs, x.n = sz) (j : Nat) (hj : j ≤ xs.length) : (D.flats (xs.take j)).length = j * sz := by
  induction j generalizing xs with
  | zero => simp [D.flats]
  | succ j ih =>
    cases xs with
    | nil => simp at hj
    | cons x xs =>
      rw [List.take_succ_cons, D.flats, List.length_append, D.flat_len, h x (by simp), ih (fun y hy => h y (by simp [hy])) (by simpa using hj), Nat.add_mul]
      omega

/-! ### One cell is stored -/
theorem wpl_store1 {P : Program} {ops : Array Oper} {rest : List Oper} {o : Oper} {a : Act} {w : World} {Q : Exit → Act → World → Prop} (hgd : o.guard = none) (ty : TypeId) (x y : Operand) (ho : o.op = .store ty x y)
    (b off : Nat) (v : Value) (hx : a.eval x = .pointer (some ⟨b, off, none⟩)) (hy : a.eval y = v) (hsz : (P.info? ty).map (·.size) = some 1) (h1 : v.oneCell' = true) (hc : (w.cell? ⟨b, off, none⟩).isSome = true) (hf : w.frozen? ⟨b, off, none⟩ = false)
    (h : wpList P ops Q rest (a.put o.dst undef) (w.setCell ⟨b, off, none⟩ v)) : wpList P ops Q (o :: rest) a w := by
  refine wpList_plain hgd fun K hK => ?_
  have hv : v.cells = #[v] := by cases v <;> first | rfl | (simp [Value.oneCell'] at h1; done)
  have hst := run_storeCells_cells (P := P) b off [v] 0 w (fun j hj => by
    obtain rfl : j = 0 := by simpa using hj
    simpa using hc) (fun j hj => by
    obtain rfl : j = 0 := by simpa using hj
    simpa using hf) (fun u hu => by rw [List.mem_singleton.1 hu]; exact h1)
  have hs : (storeVar ty ⟨b, off, none⟩ v).run P w = .ok () (w.setCell ⟨b, off, none⟩ v) := by
    cases hq : P.info? ty with
    | none => simp [hq] at hsz
    | some i =>
      have hi : i.size = 1 := by simpa [hq] using hsz
      simp only [Nat.add_zero] at hst
      simp [storeVar, sizeOf, typeInfo, hq, hv, hi, hst, World.setCells]
  unfold Oper.wp execOp
  simp only [ho, hx, hy, Instr.storeAt, Instr.sureAddr, Sem.run_bind, Sem.run_pure, Result.andThen_ok, hs]
  exact hK _ _ h
/-- A leaf of a row is written anew, the world by name. -/
theorem wpl_leaf {P : Program} {ops : Array Oper} {rest : List Oper} {o : Oper} {act : Act} {w : World} {Q : Exit → Act → World → Prop} (hgd : o.guard = none) (ty : TypeId) (x y : Operand) (ho : o.op = .store ty x y)
    {b off : Nat} {ms rs : List D} {a : D} {fp : List Nat} (a' : D) (p : Nat) (v : Value) (hx : act.eval x = .pointer (some ⟨b, p, none⟩)) (hy : act.eval y = v) (hsz : (P.info? ty).map (·.size) = some 1) (h1 : v.oneCell' = true) (hp : p = off + ms.length)
    (row : D.Row w b off 1 (ms ++ a :: rs) fp) (hb : b ∉ fp) (hl : Live w b) (ha : ∀ v f, D.K w a [v] f → f = []) (ha' : ∀ w, D.K w a' [v] [])
    (h : ∀ w1, D.Row w1 b off 1 (ms ++ a' :: rs) fp → TouchF (b :: fp) w w1 → wpList P ops Q rest (act.put o.dst undef) w1) : wpList P ops Q (o :: rest) act w := by
  subst hp
  have hput := D.Row_put (u := v) row hb hl ha ha'
  obtain ⟨_, _, _, z, _, _, _, hz, _⟩ := D.Row_at row
  obtain ⟨cur, e, hcur⟩ := hl
  exact wpl_store1 hgd ty x y ho b _ v hx hy hsz h1 (by rw [hz]; rfl) (blk_frozen hcur _) (h _ hput (TouchF.set (by simp) v))
theorem K_int_nil {w : World} {k : IntKind} {n : Int} : ∀ v f, D.K w (.int k n) [v] f → f = [] := fun v f h => by simp only [D.K] at h; exact h.2
theorem K_bool_nil {w : World} {b : Bool} : ∀ v f, D.K w (.bool b) [v] f → f = [] := fun v f h => by simp only [D.K] at h; exact h.2
theorem K_str_nil {w : World} {s : ByteArray} : ∀ v f, D.K w (.str s) [v] f → f = [] := fun v f h => by simp only [D.K] at h; exact h.2
theorem K_int (k : IntKind) (n : Int) (w : World) : D.K w (.int k n) [.int k n] [] := by simp [D.K]
theorem K_bool (b : Bool) (w : World) : D.K w (.bool b) [.bool b] [] := by simp [D.K]
theorem K_str (s : ByteArray) (w : World) : D.K w (.str s) [.string s] [] := by simp [D.K]
/-- What a leaf leads to is written by a call. -/
theorem D.Row_call {w : World} {b off : Nat} {ms rs : List D} {a : D} {fp : List Nat} {v : Value} (h : D.Row w b off 1 (ms ++ a :: rs) fp) (hnd : (b :: fp).Nodup) (hv : w.cell? ⟨b, off + ms.length, none⟩ = some v) :
    ∃ f2, D.K w a [v] f2 ∧ f2.Nodup ∧ (∀ j ∈ f2, j ∈ fp) ∧ ∀ w1 a', D.K w1 a' [v] f2 → TouchF f2 w w1 → D.Row w1 b off 1 (ms ++ a' :: rs) fp := by
  obtain ⟨f1, f2, f3, v', rfl, h1, h2, h3, h4⟩ := D.Row_at h
  obtain rfl : v' = v := by rw [h3] at hv; exact Option.some.inj hv
  have hd := List.nodup_cons.1 hnd
  have hd1 := List.nodup_append.1 hd.2
  have hd2 := List.nodup_append.1 hd1.2.1
  have hb : b ∉ f2 := fun hm => hd.1 (by simp [hm])
  refine ⟨f2, h2, hd2.1, fun j hj => by simp [hj], fun w1 a' hk ht => ?_⟩
  have hblt := World.block_lt_of_cell? w _ h3
  have hbb : w1.heap[b]? = w.heap[b]? := ht.block b hblt hb
  refine D.Row_join (D.Row_move ms hbb (fun k hk' => ht.block k (D.Row_lt ms h1 k hk') (fun hm => hd1.2.2 k hk' k (by simp [hm]) rfl)) ht.size h1) hk ?_ (D.Row_move rs hbb (fun k hk' => ht.block k (D.Row_lt rs h4 k hk') (fun hm => hd2.2.2 k hm k hk' rfl)) ht.size h4)
  rw [World.cell?_of_block (a := ⟨b, off + ms.length, none⟩) hbb]
  exact h3
theorem Row_live {w w1 : World} {b : Nat} {fp : List Nat} (ht : TouchF (b :: fp) w w1) (hl : Live w b) : Live w1 b := ht.live b (by simp) hl
theorem cnt_take {xs : List D} {j : Nat} (h : j < xs.length) : D.cnts (xs.take (j + 1)) = D.cnts (xs.take j) + xs[j].cnt := by
  rw [List.take_succ_eq_append_getElem h, D.cnts_append]
  simp [D.cnts]
theorem cnts_take_le (xs : List D) (j : Nat) : D.cnts (xs.take j) ≤ D.cnts xs := by
  conv => rhs; rw [← List.take_append_drop j xs, D.cnts_append]
  omega
/-- The row half marked, at element j. -/
theorem marks_at {xs : List D} {j : Nat} (h : j < xs.length) (k : Nat) : D.flats (D.marks (xs.take j) k) ++ D.flats (xs.drop j) = D.flats (D.marks (xs.take j) k) ++ (xs[j].flat ++ D.flats (xs.drop (j + 1))) := by
  rw [List.drop_eq_getElem_cons h, D.flats]
theorem marks_next {xs : List D} {j : Nat} (h : j < xs.length) (k : Nat) : D.flats (D.marks (xs.take (j + 1)) k) ++ D.flats (xs.drop (j + 1)) = D.flats (D.marks (xs.take j) k) ++ ((xs[j].mark (k + D.cnts (xs.take j))).flat ++ D.flats (xs.drop (j + 1))) := by
  rw [List.take_succ_eq_append_getElem h, D.marks_append, D.flats_append]
  simp [D.marks, D.flats]
theorem marks_len {sz : Nat} {xs : List D} (h : ∀ x ∈ xs, x.n = sz) (k j : Nat) (hj : j ≤ xs.length) : (D.flats (D.marks (xs.take j) k)).length = j * sz := by
  rw [D.flats_len, D.marks_n, ← D.flats_len, D.flats_take_len h j hj]

section
variable {P : Program} {ops : Array Oper} {rest : List Oper} {o : Oper} {act : Act} {w : World} {Q : Exit → Act → World → Prop}
theorem wpl_leaf_int (hgd : o.guard = none) (ty : TypeId) (x y : Operand) (ho : o.op = .store ty x y)
    {b off : Nat} {ms rs : List D} {k : IntKind} {m z : Int} {fp : List Nat} {p : Nat} (hx : act.eval x = .pointer (some ⟨b, p, none⟩)) (hy : act.eval y = .int k z) (hsz : (P.info? ty).map (·.size) = some 1) (hp : p = off + ms.length)
    (row : D.Row w b off 1 (ms ++ .int k m :: rs) fp) (hb : b ∉ fp) (hl : Live w b)
    (h : ∀ w1, D.Row w1 b off 1 (ms ++ .int k z :: rs) fp → TouchF (b :: fp) w w1 → wpList P ops Q rest (act.put o.dst undef) w1) : wpList P ops Q (o :: rest) act w :=
  wpl_leaf hgd ty x y ho (.int k z) p _ hx hy hsz rfl hp row hb hl K_int_nil (K_int k z) h
theorem wpl_leaf_bool (hgd : o.guard = none) (ty : TypeId) (x y : Operand) (ho : o.op = .store ty x y)
    {b off : Nat} {ms rs : List D} {m z : Bool} {fp : List Nat} {p : Nat} (hx : act.eval x = .pointer (some ⟨b, p, none⟩)) (hy : act.eval y = .bool z) (hsz : (P.info? ty).map (·.size) = some 1) (hp : p = off + ms.length)
    (row : D.Row w b off 1 (ms ++ .bool m :: rs) fp) (hb : b ∉ fp) (hl : Live w b)
    (h : ∀ w1, D.Row w1 b off 1 (ms ++ .bool z :: rs) fp → TouchF (b :: fp) w w1 → wpList P ops Q rest (act.put o.dst undef) w1) : wpList P ops Q (o :: rest) act w :=
  wpl_leaf hgd ty x y ho (.bool z) p _ hx hy hsz rfl hp row hb hl K_bool_nil (K_bool z) h
theorem wpl_leaf_str (hgd : o.guard = none) (ty : TypeId) (x y : Operand) (ho : o.op = .store ty x y)
    {b off : Nat} {ms rs : List D} {m z : ByteArray} {fp : List Nat} {p : Nat} (hx : act.eval x = .pointer (some ⟨b, p, none⟩)) (hy : act.eval y = .string z) (hsz : (P.info? ty).map (·.size) = some 1) (hp : p = off + ms.length)
    (row : D.Row w b off 1 (ms ++ .str m :: rs) fp) (hb : b ∉ fp) (hl : Live w b)
    (h : ∀ w1, D.Row w1 b off 1 (ms ++ .str z :: rs) fp → TouchF (b :: fp) w w1 → wpList P ops Q rest (act.put o.dst undef) w1) : wpList P ops Q (o :: rest) act w :=
  wpl_leaf hgd ty x y ho (.str z) p _ hx hy hsz rfl hp row hb hl K_str_nil (K_str z) h
end
/-- The cell of a leaf that is a slice. -/
theorem row_slice {w : World} {b off : Nat} {ms rs : List D} {sz : Nat} {xs : List D} {fp : List Nat} (h : D.Row w b off 1 (ms ++ .slice sz xs :: rs) fp) {p : Nat} (hp : p = off + ms.length) : ∃ A c, w.cell? ⟨b, p, none⟩ = some (.slice A xs.length c) := by
  obtain ⟨f1, f2, f3, v, rfl, h1, h2, h3, h4⟩ := D.Row_at h
  simp only [D.K] at h2
  obtain ⟨A, c, he, _⟩ := h2
  obtain rfl : v = .slice A xs.length c := by simpa using he
  exact ⟨A, c, by rw [hp]; exact h3⟩
theorem D.Row_call' {w : World} {b off : Nat} {ms rs : List D} {a : D} {fp : List Nat} {v : Value} (h : D.Row w b off 1 (ms ++ a :: rs) fp) (hnd : (b :: fp).Nodup) {p : Nat} (hp : p = off + ms.length) (hv : w.cell? ⟨b, p, none⟩ = some v) :
    ∃ f2, D.K w a [v] f2 ∧ f2.Nodup ∧ (∀ j ∈ f2, j ∈ fp) ∧ ∀ w1 a', D.K w1 a' [v] f2 → TouchF f2 w w1 → D.Row w1 b off 1 (ms ++ a' :: rs) fp := by
  subst hp
  exact D.Row_call h hnd hv
theorem row_below {w w1 : World} {b off : Nat} {xs : List D} {fp : List Nat} (h : D.Row w b off 1 xs fp) (hb : Below w.heap.size w w1) : D.Row w1 b off 1 xs fp := by
  cases xs with
  | nil => simpa only [D.Row] using h
  | cons x xs =>
    have hbl : b < w.heap.size := by
      simp only [D.Row] at h
      obtain ⟨cs, f1, f2, _, hl, _, hc, _⟩ := h
      obtain ⟨u, hu⟩ : ∃ u, cs[0]? = some u := ⟨_, List.getElem?_eq_getElem (show 0 < cs.length by omega)⟩
      exact World.block_lt_of_cell? w _ (hc 0 u hu)
    exact D.Row_move _ (hb.block b hbl) (fun k hk => hb.block k (D.Row_lt _ h k hk)) hb.size h
theorem MkO.atz {P : Program} {f : FuncId} {x : D} (h : MkO P f x) (z : Int) (k : Nat) (hz : z = k) {w : World} {v : Value} {fp : List Nat} (hk : D.K w x [v] fp) (hnd : fp.Nodup) (hl : ∀ j ∈ fp, Live w j) (hb : k + x.tcnt ≤ 1125899906842624) :
    Calls P f #[v, .int .i64 z] w fun e w' => ∃ n : Nat, n = k + x.tcnt ∧ e = .returned (.int .i64 (n : Int)) ∧ D.K w' (x.top k) [v] fp ∧ TouchF fp w w' := by
  subst hz
  exact (h w v fp k hk hnd hl hb).mono fun e w' h => ⟨_, rfl, h⟩
theorem HdO.atz {P : Program} {f : FuncId} {x : D} (h : HdO P f x) (z : Int) (k : Nat) (hz : z = k) {w : World} {v : Value} (hf : Rd w (x.top k) [v]) (hk : k + x.tcnt ≤ 1125899906842624) :
    Calls P f #[v, .int .i64 z] w fun e w' => ∃ n : Nat, n = k + x.tcnt ∧ e = .returned (.int .i64 (n : Int)) ∧ Below w.heap.size w w' := by
  subst hz
  exact h.at_ hf hk
theorem MN_eq {A M R X : List D} (h : A = M ++ (X ++ R)) {M' R' : List D} (hM : M = M') (hR : R = R') : M' ++ (X ++ R') = A := by subst hM hR; exact h.symm
theorem rd_flat {w : World} {x : D} {cs : List Value} : Rd w x cs ↔ RdF w x.flat cs := ⟨fun ⟨f, h⟩ => ⟨f, (D.K_flat x).1 h⟩, fun ⟨f, h⟩ => ⟨f, (D.K_flat x).2 h⟩⟩
theorem marks_get {xs : List D} {j : Nat} (h : j < xs.length) (k : Nat) : (D.marks xs k)[j]? = some (xs[j].mark (k + D.cnts (xs.take j))) := by
  induction xs generalizing k j with
  | nil => simp at h
  | cons x xs ih =>
    cases j with
    | zero => simp [D.marks, D.cnts]
    | succ j =>
      simp only [D.marks, List.getElem?_cons_succ, List.getElem_cons_succ, List.take_succ_cons, D.cnts]
      rw [ih (by simpa using h), Nat.add_assoc]
theorem rd_cong {w : World} {x : D} {k k' : Nat} {cs : List Value} (h : Rd w (x.top k) cs) (hk : k = k') : Rd w (x.top k') cs := by subst hk; exact h
theorem rd_top_slice {w : World} {sz : Nat} {xs : List D} {k : Nat} {cs : List Value} (h : Rd w ((D.slice sz xs).top k) cs) : ∃ A c, cs = [.slice A xs.length c] := by
  simp only [D.top] at h
  obtain ⟨A, c, rfl, _⟩ := rd_slice h
  exact ⟨A, c, by rw [D.marks_length]⟩
theorem i64_p (z : Int) (h0 : 0 ≤ z) (h : z ≤ 9223372036854775807) : IntKind.i64.wrap z = z := by rw [IntKind.wrap_i64]; omega
theorem i64_small (n : Nat) (h : n ≤ 9223372036854775807) : IntKind.i64.wrap (n : Int) = n := by rw [IntKind.wrap_i64]; omega

end Go.Proofs.YthidbmjdphfddaaDoor
