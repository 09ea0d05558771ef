/- A map that the call makes, its elements as they lie there (whatever type): stored, looked up, counted; a row that grows by one element. No program is named here. -/
import Derived.Test.YthidbmjdphfddaaHs
import Derived.Maps.Own
import Derived.Maps.OwnOps
import Derived.Maps.OwnSet
import Derived.Maps.Views
import Derived.Laws.Strings
import Derived.DeepKeys4
namespace Go.Proofs.Ythidbmjdphfddaa
open Go.RowKit
set_option linter.unusedVariables false
set_option linter.unusedSimpArgs false

section
variable {κ : Type} [DecidableEq κ]
def mget : List (κ × Value) → κ → Option Value
  | [], _ => none
  | (k, v) :: es, x => if k = x then some v else mget es x
def mput : List (κ × Value) → κ → Value → List (κ × Value)
  | [], x, v => [(x, v)]
  | (k, u) :: es, x, v => if k = x then (k, v) :: es else (k, u) :: mput es x v
theorem mget_put_same (es : List (κ × Value)) (x : κ) (v : Value) : mget (mput es x v) x = some v := by
  induction es with
  | nil => simp [mput, mget]
  | cons p es ih =>
    obtain ⟨k, u⟩ := p
    simp only [mput]
    split
    · rename_i h; simp [mget, h]
    · rename_i h; simp [mget, h, ih]
theorem mget_put_other (es : List (κ × Value)) {x y : κ} (v : Value) (h : x ≠ y) : mget (mput es x v) y = mget es y := by
  induction es with
  | nil => simp [mput, mget, h]
  | cons p es ih =>
    obtain ⟨k, u⟩ := p
    simp only [mput]
    split
    · rename_i hk
      subst hk
      simp [mget, h]
    · simp only [mget, ih]
theorem mput_new {es : List (κ × Value)} {x : κ} {v : Value} (h : mget es x = none) : mput es x v = es ++ [(x, v)] := by
  induction es with
  | nil => rfl
  | cons p es ih =>
    obtain ⟨k, u⟩ := p
    simp only [mget] at h
    split at h
    · simp at h
    · rename_i hk
      simp only [mput, if_neg hk, ih h, List.cons_append]
theorem mput_len (es : List (κ × Value)) (x : κ) (v : Value) : (mput es x v).length = if (mget es x).isSome then es.length else es.length + 1 := by
  induction es with
  | nil => simp [mput, mget]
  | cons p es ih =>
    obtain ⟨k, u⟩ := p
    simp only [mput, mget]
    split
    · simp
    · simp only [List.length_cons, ih]
      split <;> rfl
/-- A key type of the program, its keys as κ. -/
structure KeyK (P : Program) (k : TypeId) (κ : Type) where
  val : κ → Value
  lit : κ → Lit
  ok : κ → Prop
  law : Maps.Keyed P k
  key : ∀ x, ok x → keyOf P k (val x) = some (lit x)
  inj : ∀ x y, lit x = lit y → x = y
def RawR (v : Value) : Option (DataW Value × List MemPlace) := some (.held v, [])
theorem rawR_inv {v u : Value} {ps : List MemPlace} (h : RawR v = some (.held u, ps)) : v = u := by
  simp only [RawR, Option.some.injEq, Prod.mk.injEq, DataW.held.injEq] at h
  exact h.1
/-- Block b holds the map of these entries. -/
def HasMap {P : Program} {k : TypeId} (KK : KeyK P k κ) (b : Nat) (es : List (κ × Value)) (w : World) : Prop :=
  ∃ D : DataW Value, w.ownsMap P k RawR b es.length D ∧ Maps.Tidy D ∧ Maps.size D = es.length ∧
    ∀ x, KK.ok x → Maps.has D (KK.lit x) = (mget es x).isSome ∧ ∀ z, D.atKey (KK.lit x) z = match mget es x with | some v => .held v | none => z
variable {P : Program} {k e t : TypeId} {KK : KeyK P k κ} {b : Nat} {es : List (κ × Value)} {w : World}
theorem hasMap_new (w : World) (KK : KeyK P k κ) : HasMap KK w.heap.size [] (w.alloc (.map #[] 0)) :=
  ⟨_, World.ownsMap_made w P k _, Maps.tidy_empty, rfl, fun x _ => ⟨rfl, fun z => rfl⟩⟩
theorem HasMap.lt (h : HasMap KK b es w) : b < w.heap.size := by
  obtain ⟨D, h, _⟩ := h
  exact h.lt
theorem HasMap.kept {w' : World} {row : Option Nat} (h : HasMap KK b es w) (hg : w.grownBy w' row) (hne : some b ≠ row) : HasMap KK b es w' := by
  obtain ⟨D, h1, h2⟩ := h
  exact ⟨D, h1.kept hg hne, h2⟩
theorem grownBy_below {w w' : World} (h : Below w.heap.size w w') (row : Option Nat) : w.grownBy w' row := ⟨h.os, h.tape, h.output, h.size, fun k hk _ => h.block k hk⟩
theorem HasMap.below {w' : World} (h : HasMap KK b es w) (hb : Below w.heap.size w w') : HasMap KK b es w' := h.kept (grownBy_below hb none) (by simp)
theorem HasMap.move {w' : World} (h : HasMap KK b es w) (hb : w'.heap[b]? = w.heap[b]?) : HasMap KK b es w' := by
  obtain ⟨D, ⟨ms, clock, h1, h2⟩, h3⟩ := h
  exact ⟨D, ⟨ms, clock, hb.trans h1, h2⟩, h3⟩
theorem HasMap.not_cells {o : Array Value} {T : TypeId} {fz : Nat × Nat} {g : Nat} (h : HasMap KK b es w) (hg : w.heap[g]? = some (.cells o T fz)) : b ≠ g := by
  rintro rfl
  obtain ⟨D, ⟨ms, clock, h1, _⟩, _⟩ := h
  rw [h1] at hg
  simp at hg
theorem wpl_map_put {ops : Array Oper} {rest : List Oper} {o : Oper} {a : Act} {Q : Exit → Act → World → Prop} (hg : o.guard = none) (m x v : Operand) (hop : o.op = .mapUpdate t m x v)
    (ht : P.underlying t = some (.map k e)) (hm : a.eval m = .map (some b)) (h : HasMap KK b es w) (hn : es.length < maxLen) (y : κ) (hx : a.eval x = KK.val y) (hy : KK.ok y) (u : Value) (hv : a.eval v = u)
    (hK : ∀ w', HasMap KK b (mput es y u) w' → w.grownBy w' (some b) → wpList P ops Q rest (a.put o.dst undef) w') :
    wpList P ops Q (o :: rest) a w := by
  obtain ⟨D, hown, hD, hs, hM⟩ := h
  have hkey := KK.law.key (KK.key y hy)
  refine wpList_mapUpdate_own w hg m x v t hop k e KK.law ht _ b _ D hm hown hn _ _ _ hx hv (KK.key y hy) (.held u) [] rfl fun w' h1 h2 => hK w' ⟨D.put (KK.lit y) (.held u), ?_, hD.put hkey _, ?_, fun z hz => ?_⟩ h2
  · obtain ⟨ms, clock, q1, q2, q3, q4⟩ := h1
    refine ⟨ms, clock, q1, q2, ?_, q4⟩
    have hsz := Maps.size_put hD (k := KK.lit y) (.held u)
    rw [q4, Maps.size_eq, length_sorted, List.length_map, (hM y hy).1, hs] at hsz
    rw [mput_len]
    have : ms.size = ms.toList.length := by simp
    omega
  · rw [Maps.size_put hD, (hM y hy).1, hs, mput_len]
  · by_cases he : y = z
    · subst he
      rw [mget_put_same]
      exact ⟨Maps.has_put_same hD.isMap hkey _, fun z => Maps.atKey_put_same hD.isMap hkey _ _⟩
    · have hne : KK.lit z ≠ KK.lit y := fun h => he (KK.inj _ _ h).symm
      rw [mget_put_other _ _ he]
      exact ⟨(Maps.has_put_other hne _).trans (hM z hz).1, fun q => (Maps.atKey_put_other hne _ _).trans ((hM z hz).2 q)⟩
theorem HasMap.at_ (h : HasMap KK b es w) (y : κ) (hy : KK.ok y) (z : Value) : ∃ D : DataW Value, w.ownsMap P k RawR b es.length D ∧ D.atKey (KK.lit y) (.held z) = .held ((mget es y).getD z) ∧ Maps.has D (KK.lit y) = (mget es y).isSome := by
  obtain ⟨D, hown, _, _, hM⟩ := h
  refine ⟨D, hown, ?_, (hM y hy).1⟩
  rw [(hM y hy).2]
  cases mget es y <;> rfl
theorem wpl_map_get {ops : Array Oper} {rest : List Oper} {o : Oper} {a : Act} {Q : Exit → Act → World → Prop} (hg : o.guard = none) (m x : Operand) (hop : o.op = .lookup t m x false)
    {z : Value} (hz : (zeroValue e).run P w = .ok z w) (ht : P.underlying t = some (.map k e)) (hm : a.eval m = .map (some b)) (h : HasMap KK b es w) (y : κ) (hx : a.eval x = KK.val y) (hy : KK.ok y) (c : Value) (hc : (mget es y).getD z = c)
    (hK : wpList P ops Q rest (a.put o.dst c) w) : wpList P ops Q (o :: rest) a w := by
  obtain ⟨D, hown, hat, _⟩ := h.at_ y hy z
  obtain ⟨v, ps, hrun, hv⟩ := hown.lookup KK.law ht hz (show RawR z = some (.held z, []) from rfl) (KK.key y hy)
  rw [hat, hc] at hv
  obtain rfl := rawR_inv hv
  refine wpList_plain hg fun K' hK' => ?_
  unfold Oper.wp
  simp [execOp, hop, hm, hx, hrun, Result.andThen]
  exact hK' _ _ hK
theorem wpList_want {P : Program} {ops : Array Oper} {rest : List Oper} {o : Oper} {a : Act} {w : World} {Q : Exit → Act → World → Prop} (hg : Region.wanted o (yielded ops a.tmps) = true)
    (h : ∀ K : Act → World → Prop, (∀ a w, wpList P ops Q rest a w → K a w) → o.wp P a w K Q) : wpList P ops Q (o :: rest) a w :=
  wpList_step fun K hK => by simp only [hg, if_true]; exact h K hK
theorem wpl_map_get_g {ops : Array Oper} {rest : List Oper} {o : Oper} {a : Act} {Q : Exit → Act → World → Prop} (hg : Region.wanted o (yielded ops a.tmps) = true) (m x : Operand) (hop : o.op = .lookup t m x false)
    {z : Value} (hz : (zeroValue e).run P w = .ok z w) (ht : P.underlying t = some (.map k e)) (hm : a.eval m = .map (some b)) (h : HasMap KK b es w) (y : κ) (hx : a.eval x = KK.val y) (hy : KK.ok y) (c : Value) (hc : (mget es y).getD z = c)
    (hK : wpList P ops Q rest (a.put o.dst c) w) : wpList P ops Q (o :: rest) a w := by
  obtain ⟨D, hown, hat, _⟩ := h.at_ y hy z
  obtain ⟨v, ps, hrun, hv⟩ := hown.lookup KK.law ht hz (show RawR z = some (.held z, []) from rfl) (KK.key y hy)
  rw [hat, hc] at hv
  obtain rfl := rawR_inv hv
  refine wpList_want hg fun K' hK' => ?_
  unfold Oper.wp
  simp [execOp, hop, hm, hx, hrun, Result.andThen]
  exact hK' _ _ hK
theorem wpl_map_get2 {ops : Array Oper} {rest : List Oper} {o : Oper} {a : Act} {Q : Exit → Act → World → Prop} (hg : o.guard = none) (m x : Operand) (hop : o.op = .lookup t m x true)
    {z : Value} (hz : (zeroValue e).run P w = .ok z w) (ht : P.underlying t = some (.map k e)) (hm : a.eval m = .map (some b)) (h : HasMap KK b es w) (y : κ) (hx : a.eval x = KK.val y) (hy : KK.ok y) (c : Value) (hc : (mget es y).getD z = c) (f : Bool) (hf : (mget es y).isSome = f)
    (hK : wpList P ops Q rest (a.put o.dst (.tuple #[c, .bool f])) w) : wpList P ops Q (o :: rest) a w := by
  obtain ⟨D, hown, hat, hh⟩ := h.at_ y hy z
  refine wpList_lookup_own_ok w hg m x t hop k e KK.law ht RawR hz (.held z) [] rfl b _ D hm hown _ _ hx (KK.key y hy) fun v ps hv => ?_
  rw [hat, hc] at hv
  obtain rfl := rawR_inv hv
  rw [hh, hf]
  exact hK
theorem wpl_map_len {ops : Array Oper} {rest : List Oper} {o : Oper} {a : Act} {Q : Exit → Act → World → Prop} (hg : o.guard = none) (m : Operand) (hop : o.op = Op.call { callee := Callee.builtin Builtin.len, args := #[m], argTypes := #[t] })
    (ht : P.underlying t = some (.map k e)) (hm : a.eval m = .map (some b)) (h : HasMap KK b es w) (hK : wpList P ops Q rest (a.put o.dst (.int .i64 es.length)) w) : wpList P ops Q (o :: rest) a w := by
  obtain ⟨D, hown, _, hs, _⟩ := h
  refine wpList_len_own w hg m t hop k e ht RawR b _ D hm hown ?_
  rw [hs]
  exact hK
end
/-- Keys that are whole numbers. -/
def intKey {P : Program} {k : TypeId} (hk : P.underlying k = some (.int .i64)) : KeyK P k Int where
  val n := .int .i64 n
  lit n := .int .i64 n
  ok n := (Lit.int .i64 n).wf = true
  law := Maps.int_keyed hk
  key n h := by simp [keyOf, hk, mapKey, h]
  inj x y h := by injection h
theorem str_eq {a b : ByteArray} : (a.toList == b.toList) = true ↔ a = b := by
  rw [ByteArray.toList_eq, ByteArray.toList_eq, beq_iff_eq]
  exact ⟨fun h => by cases a; cases b; simp at h; rw [h], fun h => by rw [h]⟩
/-- Keys that are texts. -/
def strKey {P : Program} {k : TypeId} (hk : P.underlying k = some .string) : KeyK P k ByteArray where
  val s := .string s
  lit s := .string s.data.toList
  ok s := s.size ≤ maxLen
  law := Maps.string_keyed hk
  key s h := by simp [keyOf, hk, mapKey, h]
  inj x y h := by
    cases x; cases y
    simp at h
    rw [h]

/-! ### A row that grows by one element -/
theorem Grow.bound {B : Nat} {w : World} {v : Value} {e sz : Nat} {ys : List D} (h : Grow B w v e sz ys) : ∀ g, v.ownBlock = some g → B ≤ g ∧ ∃ cur, w.heap[g]? = some (.cells cur e (0, 0)) := by
  obtain ⟨cells, f, h1, _⟩ := h
  exact fun g hg => ownsRow_block h1 hg
/-- The row's own block is of the element's type. -/
theorem Grow.ne {B : Nat} {w : World} {v : Value} {e sz g : Nat} {ys : List D} (h : Grow B w v e sz ys) {cur : Array Value} {T : TypeId} {fz : Nat × Nat} (hg : w.heap[g]? = some (.cells cur T fz)) (hT : T ≠ e) : some g ≠ v.ownBlock := fun hk => by
  obtain ⟨_, cur', hc⟩ := h.bound g hk.symm
  rw [hg] at hc
  injection hc with hc
  injection hc with _ hc
  exact hT hc
theorem Grow.ne_map {κ : Type} [DecidableEq κ] {P : Program} {k : TypeId} {KK : KeyK P k κ} {B b : Nat} {w : World} {v : Value} {e sz : Nat} {ys : List D} {es : List (κ × Value)} (h : Grow B w v e sz ys) (hm : HasMap KK b es w) : some b ≠ v.ownBlock := fun hk => by
  obtain ⟨_, cur', hc⟩ := h.bound b hk.symm
  exact hm.not_cells hc rfl
theorem Grow.grown {B : Nat} {w w1 : World} {v : Value} {e sz : Nat} {ys : List D} {row : Option Nat} (h : Grow B w v e sz ys) (hg : w.grownBy w1 row) (hr : ∀ g, row = some g → g < B) : Grow B w1 v e sz ys := by
  obtain ⟨cells, f, h1, h2, h3, h4⟩ := h
  have hne : ∀ k ∈ v.ownBlock.toList ++ f, some k ≠ row := fun k hk e => by
    have := hr k e.symm
    have := (h4.2 k hk).1
    omega
  have hlt : ∀ k ∈ v.ownBlock.toList ++ f, w1.heap[k]? = w.heap[k]? := fun k hk => hg.block k (h4.2 k hk).2.lt (hne k hk)
  refine ⟨cells, f, h1.kept hg ?_, D.Fields_move ys (fun k hk => hlt k (by simp [hk])) hg.size h2, h3, h4.1, fun k hk => ⟨(h4.2 k hk).1, (h4.2 k hk).2.move (hlt k hk)⟩⟩
  cases hv : v.ownBlock with
  | none => exact .inl rfl
  | some g => exact .inr (hne g (by simp [hv]))
/-- Other blocks than the row's have been written (and ones of no data of its elements). -/
theorem Grow.plain {B : Nat} {w w1 : World} {v : Value} {e sz : Nat} {ys : List D} {row : Option Nat} (h : Grow B w v e sz ys) (hp : ∀ cells f, D.Fields w ys cells f → f = []) (hg : w.grownBy w1 row) (hr : v.ownBlock = none ∨ v.ownBlock ≠ row) : Grow B w1 v e sz ys := by
  obtain ⟨cells, f, h1, h2, h3, h4⟩ := h
  obtain rfl := hp _ _ h2
  refine ⟨cells, [], h1.kept hg hr, D.Fields_move ys (fun k hk => by cases hk) hg.size h2, h3, h4.1, fun k hk => ⟨(h4.2 k hk).1, ?_⟩⟩
  have h5 := (h4.2 k hk).2
  refine h5.move (hg.block k h5.lt fun e => ?_)
  have hv : v.ownBlock = some k := by
    cases hv : v.ownBlock with
    | none => simp [hv] at hk
    | some g => simp [hv] at hk; rw [hk]
  rcases hr with hr | hr
  · rw [hv] at hr; cases hr
  · exact hr (hv.trans e)
theorem run_append_at {P : Program} {w : World} (base : Nat) (t ty e : TypeId) (i : TypeInfo) (z : Value) (size bytes : Nat) (ht : P.underlying t = some (.slice e)) (hi : P.info? e = some i) (hz : i.zero = some z)
    (hsize : i.size = size) (hby : i.bytes = bytes) (v : Value) (n : Nat) (xs : List Value) (hown : w.ownsRow base e size v n xs)
    (a : Addr) (m c : Nat) (news : List Value) (hl : news.length = m * size) (hnews : ∀ j u, news[j]? = some u → w.cell? (a.add j) = some u) (h1 : ∀ u ∈ news, u.oneCell' = true)
    (h63 : n + m ≤ maxLen) (hbytes : (n + m) * bytes ≤ 140737488355328) (hm : 0 < m) :
    ∃ v' w', (Builtin.append_ #[t, t] ty #[v, .slice (some a) m c]).run P w = .ok v' w' ∧ (v'.ownBlock = v.ownBlock ∨ v'.ownBlock = some w.heap.size) := by
  subst hsize
  subst hby
  have hsmall : n + m ≤ 9223372036854775807 := by simp only [maxLen] at h63; omega
  rcases hown.2 with ⟨rfl, rfl⟩ | ⟨g, cap, cur, rfl, hbg, hg, hnc, hcm, hcs, htake⟩
  · exact ⟨_, _, run_append_nil (P := P) w t ty e i z ht hi hz a m c news hl hnews hm (by omega) (by have hb := hbytes; simp only [Nat.zero_add] at hb; omega), .inr rfl⟩
  · by_cases hroom : n + m ≤ cap
    · have hfit : n * i.size + news.length ≤ cur.size := by rw [hl, hcs, ← Nat.add_mul]; exact Nat.mul_le_mul_right _ hroom
      exact ⟨_, _, run_append_room (P := P) w t ty e i ht hi g n cap cur hg a m c news hl hnews h1 hroom hfit, .inl rfl⟩
    · have holds : ∀ j u, xs[j]? = some u → w.cell? ((⟨g, 0, none⟩ : Addr).add j) = some u := hown.cells (g := g) rfl
      exact ⟨_, _, run_append_grow (P := P) w t ty e i z ht hi hz ⟨g, 0, none⟩ n cap xs hown.1 holds a m c news hl hnews (by omega) (by omega) (growslice_fits (by omega) hbytes), .inr rfl⟩
/-- What an append leaves: other blocks stand; the row is where it was, or new. -/
structure Grew (w w' : World) (v v' : Value) : Prop where
  grown : w.grownBy w' v.ownBlock
  moved : v'.ownBlock = v.ownBlock ∨ ∃ b, v'.ownBlock = some b ∧ w.heap.size ≤ b
theorem Grew.refl (w : World) (v : Value) : Grew w w v v := ⟨⟨rfl, rfl, rfl, Nat.le_refl _, fun _ _ _ => rfl⟩, .inl rfl⟩
theorem Grew.of_below {w w' : World} (h : Below w.heap.size w w') (v : Value) : Grew w w' v v := ⟨grownBy_below h _, .inl rfl⟩
theorem Grew.trans {w w1 w2 : World} {v v1 v2 : Value} (h : Grew w w1 v v1) (k : Grew w1 w2 v1 v2) : Grew w w2 v v2 := by
  refine ⟨⟨k.grown.os.trans h.grown.os, k.grown.tape.trans h.grown.tape, k.grown.output.trans h.grown.output, Nat.le_trans h.grown.size k.grown.size, fun i hi hne => ?_⟩, ?_⟩
  · refine (k.grown.block i (Nat.lt_of_lt_of_le hi h.grown.size) fun e => ?_).trans (h.grown.block i hi hne)
    rcases h.moved with hm | ⟨b, hm, hb⟩
    · exact hne (e.trans hm)
    · rw [hm] at e
      injection e with e
      omega
  · rcases k.moved with hk | ⟨b, hk, hb⟩
    · rcases h.moved with hm | ⟨b, hm, hb⟩
      · exact .inl (hk.trans hm)
      · exact .inr ⟨b, hk.trans hm, hb⟩
    · exact .inr ⟨b, hk, Nat.le_trans h.grown.size hb⟩
theorem Grew.blk {w w' : World} {v v' : Value} (h : Grew w w' v v') {g : Nat} {o : Obj} (hg : w.heap[g]? = some o) (hne : some g ≠ v.ownBlock) : w'.heap[g]? = some o := (h.grown.block g (blk_lt hg) hne).trans hg
theorem Grew.below {B : Nat} {W0 w w' : World} {v v' : Value} (h : Grew w w' v v') (hb : Below B W0 w) (hB : B ≤ w.heap.size) (hv : ∀ g, v.ownBlock = some g → B ≤ g) : Below B W0 w' := hb.grown h.grown hB hv
theorem Grow.own_lt {B : Nat} {w : World} {v : Value} {e sz : Nat} {ys : List D} (h : Grow B w v e sz ys) : ∀ g, v.ownBlock = some g → g < w.heap.size := fun g hg => by
  obtain ⟨_, cur, hc⟩ := h.bound g hg
  exact blk_lt hc
theorem Grow.new_ne {B : Nat} {w : World} {v : Value} {e sz : Nat} {ys : List D} (h : Grow B w v e sz ys) : some w.heap.size ≠ v.ownBlock := fun hk => by
  have := h.own_lt _ hk.symm
  omega
/-- A new slice of one element (its cells cs, in the block made last) is appended: the row holds one element more, which was made since world w0. -/
theorem wpl_push {P : Program} {ops : Array Oper} {rest : List Oper} {o : Oper} {a : Act} {w0 w : World} {Q : Exit → Act → World → Prop} (hgd : o.guard = none) (s x : Operand) (t : TypeId)
    (ho : o.op = .call { callee := .builtin .append, args := #[s, x], argTypes := #[t, t] })
    (B : Nat) (e : TypeId) (i : TypeInfo) (z : Value) (sz bytes : Nat) (ht : P.underlying t = some (.slice e)) (hi : P.info? e = some i) (hz : i.zero = some z)
    (hsize : i.size = sz) (hby : i.bytes = bytes) (hzs : z.cells.size = sz) (hsz : 0 < sz)
    (v : Value) (ys : List D) (hs : a.eval s = v) (hgr : Grow B w0 v e sz ys) (hb0 : Below w0.heap.size w0 w) (y : D) (cs : List Value) (hy : Fr w0.heap.size w y cs) (hyn : y.n = sz)
    (g c : Nat) (hx : a.eval x = .slice (some ⟨g, 0, none⟩) 1 c) (hg : CellsAt w g 0 cs)
    (hbytes : (ys.length + 1) * bytes ≤ 140737488355328) (hn : ys.length < 140737488355328) (hB : B ≤ w0.heap.size)
    (h : ∀ v' w', Grow B w' v' e sz (ys ++ [y]) → Grew w w' v v' → v' ≠ .slice none 0 0 → wpList P ops Q rest (a.put o.dst v') w') : wpList P ops Q (o :: rest) a w := by
  have hgr' := hgr
  obtain ⟨cells, f, h1, h2, h3, h4⟩ := hgr'
  have hl : cs.length = sz := hy.len.trans hyn
  have hown : w.ownsRow B e sz v ys.length cells := h1.kept (grownBy_below hb0 none) (by cases v.ownBlock <;> simp)
  have hnews : ∀ j u, cs[j]? = some u → w.cell? ((⟨g, 0, none⟩ : Addr).add j) = some u := fun j u hu => by
    have := hg j u hu
    unfold Addr.add
    by_cases hj : j = 0
    · subst hj; simpa using this
    · simpa [hj] using this
  have h63 : ys.length + 1 ≤ maxLen := by simp only [maxLen]; omega
  obtain ⟨v', w', hr, q1, q2, q3⟩ := run_append_own (P := P) w B t o.type e i z sz bytes ht hi hz hsize hby hzs hsz v ys.length cells hown ⟨g, 0, none⟩ 1 c cs (by omega) hnews hy.one h63 hbytes (Nat.le_trans hB hb0.size)
  obtain ⟨v2, w2, hr2, hat⟩ := run_append_at (P := P) (w := w) B t o.type e i z sz bytes ht hi hz hsize hby v ys.length cells hown ⟨g, 0, none⟩ 1 c cs (by omega) hnews hy.one h63 hbytes (by omega)
  rw [hr] at hr2
  injection hr2 with e1 e2
  subst e1 e2
  refine wpList_plain hgd fun K hK => ?_
  unfold Oper.wp execOp
  simp only [ho, resolve, invoke, builtin, Sem.run_bind, Sem.run_pure, Result.andThen_ok, List.map_toArray, List.map_cons, List.map_nil, hs, hx, hr]
  refine hK _ _ (h v' w' ?_ ⟨q2, hat.imp id fun h => ⟨_, h, Nat.le_refl _⟩⟩ ?_)
  · refine hgr.snoc hb0 hy hyn hB q2.size (fun k hk hne => q2.block k hk hne) ?_ fun cells' hc' => ?_
    · rcases hat with hat | hat
      · exact .inl hat
      · exact .inr ⟨_, hat, Nat.le_refl _⟩
    · have : cells' = cells := by
        have h6 : w0.ownsRow B e sz v ys.length cells := h1
        rcases h6.2 with ⟨rfl, hz⟩ | ⟨g1, cap, cur, rfl, _, hg1, _, _, _, ht1⟩
        · have e1 := hc'.1
          have e2 := h6.1
          rw [hz] at e1 e2
          have a1 : cells' = [] := List.eq_nil_of_length_eq_zero (by simpa using e1)
          have a2 : cells = [] := List.eq_nil_of_length_eq_zero (by simpa using e2)
          rw [a1, a2]
        · rcases hc'.2 with ⟨hv, _⟩ | ⟨g2, cap2, cur2, hv, _, hg2, _, _, _, ht2⟩
          · cases hv
          · injection hv with hv
            injection hv with hv
            injection hv with hv _
            subst hv
            rw [hg1] at hg2
            injection hg2 with hg2
            injection hg2 with hg2
            subst hg2
            rw [← ht1, ← ht2]
      subst this
      exact q1
  · rintro rfl
    have := (q3.1 rfl).2
    omega

/-- The same at a step of a region that draws its order. A new slice of one element (its cells cs, in the block made last) is appended: the row holds one element more, which was made since world w0. -/
theorem step_push {P : Program} {ops : Array Oper} {o : Oper} {a : Act} {w0 w : World} {K : Act → World → Prop} {Q : Exit → Act → World → Prop} {E : Prop} (hgd : o.guard = none) (s x : Operand) (t : TypeId)
    (ho : o.op = .call { callee := .builtin .append, args := #[s, x], argTypes := #[t, t] })
    (B : Nat) (e : TypeId) (i : TypeInfo) (z : Value) (sz bytes : Nat) (ht : P.underlying t = some (.slice e)) (hi : P.info? e = some i) (hz : i.zero = some z)
    (hsize : i.size = sz) (hby : i.bytes = bytes) (hzs : z.cells.size = sz) (hsz : 0 < sz)
    (v : Value) (ys : List D) (hs : a.eval s = v) (hgr : Grow B w0 v e sz ys) (hb0 : Below w0.heap.size w0 w) (y : D) (cs : List Value) (hy : Fr w0.heap.size w y cs) (hyn : y.n = sz)
    (g c : Nat) (hx : a.eval x = .slice (some ⟨g, 0, none⟩) 1 c) (hg : CellsAt w g 0 cs)
    (hbytes : (ys.length + 1) * bytes ≤ 140737488355328) (hn : ys.length < 140737488355328) (hB : B ≤ w0.heap.size)
    (h : ∀ v' w', Grow B w' v' e sz (ys ++ [y]) → Grew w w' v v' → v' ≠ .slice none 0 0 → K (a.put o.dst v') w') : if Region.wanted o (yielded ops a.tmps) = true then Oper.wp P o a w K Q else E := by
  have hw : Region.wanted o (yielded ops a.tmps) = true := by simp [Region.wanted, hgd]
  rw [if_pos hw]
  have hgr' := hgr
  obtain ⟨cells, f, h1, h2, h3, h4⟩ := hgr'
  have hl : cs.length = sz := hy.len.trans hyn
  have hown : w.ownsRow B e sz v ys.length cells := h1.kept (grownBy_below hb0 none) (by cases v.ownBlock <;> simp)
  have hnews : ∀ j u, cs[j]? = some u → w.cell? ((⟨g, 0, none⟩ : Addr).add j) = some u := fun j u hu => by
    have := hg j u hu
    unfold Addr.add
    by_cases hj : j = 0
    · subst hj; simpa using this
    · simpa [hj] using this
  have h63 : ys.length + 1 ≤ maxLen := by simp only [maxLen]; omega
  obtain ⟨v', w', hr, q1, q2, q3⟩ := run_append_own (P := P) w B t o.type e i z sz bytes ht hi hz hsize hby hzs hsz v ys.length cells hown ⟨g, 0, none⟩ 1 c cs (by omega) hnews hy.one h63 hbytes (Nat.le_trans hB hb0.size)
  obtain ⟨v2, w2, hr2, hat⟩ := run_append_at (P := P) (w := w) B t o.type e i z sz bytes ht hi hz hsize hby v ys.length cells hown ⟨g, 0, none⟩ 1 c cs (by omega) hnews hy.one h63 hbytes (by omega)
  rw [hr] at hr2
  injection hr2 with e1 e2
  subst e1 e2
  unfold Oper.wp execOp
  simp only [ho, resolve, invoke, builtin, Sem.run_bind, Sem.run_pure, Result.andThen_ok, List.map_toArray, List.map_cons, List.map_nil, hs, hx, hr]
  refine h v' w' ?_ ⟨q2, hat.imp id fun h => ⟨_, h, Nat.le_refl _⟩⟩ ?_
  · refine hgr.snoc hb0 hy hyn hB q2.size (fun k hk hne => q2.block k hk hne) ?_ fun cells' hc' => ?_
    · rcases hat with hat | hat
      · exact .inl hat
      · exact .inr ⟨_, hat, Nat.le_refl _⟩
    · have : cells' = cells := by
        have h6 : w0.ownsRow B e sz v ys.length cells := h1
        rcases h6.2 with ⟨rfl, hz⟩ | ⟨g1, cap, cur, rfl, _, hg1, _, _, _, ht1⟩
        · have e1 := hc'.1
          have e2 := h6.1
          rw [hz] at e1 e2
          have a1 : cells' = [] := List.eq_nil_of_length_eq_zero (by simpa using e1)
          have a2 : cells = [] := List.eq_nil_of_length_eq_zero (by simpa using e2)
          rw [a1, a2]
        · rcases hc'.2 with ⟨hv, _⟩ | ⟨g2, cap2, cur2, hv, _, hg2, _, _, _, ht2⟩
          · cases hv
          · injection hv with hv
            injection hv with hv
            injection hv with hv _
            subst hv
            rw [hg1] at hg2
            injection hg2 with hg2
            injection hg2 with hg2
            subst hg2
            rw [← ht1, ← ht2]
      subst this
      exact q1
  · rintro rfl
    have := (q3.1 rfl).2
    omega

theorem cellsAt_new (w : World) (cs : List Value) (T : TypeId) : CellsAt (w.alloc (.cells cs.toArray T)) w.heap.size 0 cs := fun j u hu => by
  rw [Nat.zero_add]
  exact (blk_cell (blk_new w _) j).trans (by simpa using hu)
theorem cells_same {W0 w : World} {b o : Nat} {cs cs' : List Value} {n : Nat} (h1 : cs.length = n) (h2 : cs'.length = n) (h : CellsAt W0 b o cs) (h' : CellsAt w b o cs') (hb : Below W0.heap.size W0 w) : cs = cs' := by
  refine List.ext_getElem? fun i => ?_
  rcases Nat.lt_or_ge i n with hi | hi
  · have q1 := h i _ (List.getElem?_eq_getElem (by omega))
    have q2 := h' i _ (List.getElem?_eq_getElem (by omega))
    rw [hb.cell (p := ⟨b, o + i, none⟩) (World.block_lt_of_cell? W0 _ q1), q1] at q2
    rw [List.getElem?_eq_getElem (by omega), List.getElem?_eq_getElem (by omega), Option.some.inj q2]
  · rw [List.getElem?_eq_none (by omega), List.getElem?_eq_none (by omega)]

end Go.Proofs.Ythidbmjdphfddaa
