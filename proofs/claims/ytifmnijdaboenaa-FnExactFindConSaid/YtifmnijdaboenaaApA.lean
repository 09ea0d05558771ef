/- A whole slice of data without blocks appended to an empty row; the premises of an instance; no condition. -/
import Derived.Test.YtifmnijdaboenaaTabs
import Derived.Test.YtifmnijdaboenaaMp
namespace Go.Proofs.Ytifmnijdaboenaa
open Go.RowKit
set_option linter.unusedVariables false
set_option linter.unusedSimpArgs false

/-- A slice of m elements (its cells cs, in block g) is appended to an empty row of this call's own: what comes out holds the fresh data ys, which were made before world w1. -/
theorem wpl_app {P : Program} {ops : Array Oper} {rest : List Oper} {o : Oper} {a : Act} {w1 w : World} {Q : Exit → Act → World → Prop} (hgd : o.guard = none) (s x : Operand) (t : TypeId)
    (ho : o.op = .call { callee := .builtin .append, args := #[s, x], argTypes := #[t, t] })
    (B : Nat) (e : TypeId) (i : TypeInfo) (z : Value) (sz bytes : Nat) (ht : P.underlying t = some (.slice e)) (hi : P.info? e = some i) (hz : i.zero = some z)
    (hsize : i.size = sz) (hby : i.bytes = bytes) (hzs : z.cells.size = sz) (hsz : 0 < sz)
    (v : Value) (hs : a.eval s = v) (hv : w.ownsRow w1.heap.size e sz v 0 []) (hb0 : Below w1.heap.size w1 w) (ys : List D) (cs : List Value) (hy : FrF B w1 ys cs) (hyn : ∀ y ∈ ys, y.n = sz) (hlen : cs.length = ys.length * sz) (hpos : 0 < ys.length)
    (g off c : Nat) (hx : a.eval x = .slice (some ⟨g, off, none⟩) ys.length c) (hg : CellsAt w g off cs)
    (hbytes : ys.length * bytes ≤ 140737488355328) (hn : ys.length < 140737488355328) (hB : B ≤ w1.heap.size)
    (h : ∀ v' w', (∀ w'', w'.heap.size ≤ w''.heap.size → (∀ k, k < w'.heap.size → (k < w1.heap.size ∨ some k = v.ownBlock ∨ w.heap.size ≤ k) → w''.heap[k]? = w'.heap[k]?) → Fr B w'' (.slice sz ys) [v']) → Below w1.heap.size w1 w' → w.grownBy w' v.ownBlock → wpList P ops Q rest (a.put o.dst v') w') : wpList P ops Q (o :: rest) a w := by
  have hy1 := hy
  obtain ⟨f, hF, hO⟩ := hy1
  have hone : ∀ u ∈ cs, u.oneCell' = true := D.Fields_one _ hF
  have hnews : ∀ j u, cs[j]? = some u → w.cell? ((⟨g, off, none⟩ : Addr).add j) = some u := fun j u hu => by
    have := hg j u hu
    unfold Addr.add
    by_cases hj : j = 0
    · subst hj; simpa using this
    · simpa [hj] using this
  have h63 : 0 + ys.length ≤ maxLen := by simp only [maxLen]; omega
  obtain ⟨v', w', hr, q1, q2, q3⟩ := run_append_own (P := P) w w1.heap.size t o.type e i z sz bytes ht hi hz hsize hby hzs hsz v 0 [] hv ⟨g, off, none⟩ ys.length c cs hlen hnews hone h63 (by rw [Nat.zero_add]; exact hbytes) hb0.size
  obtain ⟨v2, w2, hr2, hat⟩ := run_append_at (P := P) (w := w) w1.heap.size t o.type e i z sz bytes ht hi hz hsize hby v 0 [] hv ⟨g, off, none⟩ ys.length c cs hlen hnews hone h63 (by rw [Nat.zero_add]; exact hbytes) hpos
  rw [hr] at hr2
  injection hr2 with e1 e2
  subst e1 e2
  refine wpList_plain hgd fun K hK => ?_
  unfold Oper.wp execOp
  simp only [ho, resolve, invoke, builtin, Sem.run_bind, Sem.run_pure, Result.andThen_ok, List.map_toArray, List.map_cons, List.map_nil, hs, hx, hr]
  have hbw : Below w1.heap.size w1 w' := hb0.grown q2 hb0.size fun q hq => (ownsRow_block hv hq).1
  refine hK _ _ (h v' w' ?_ hbw q2)
  rw [Nat.zero_add, List.nil_append] at q1
  intro w'' hsz hsame
  have hmf : ∀ k ∈ f, w''.heap[k]? = w1.heap[k]? := fun k hk => (hsame k (Nat.lt_of_lt_of_le (D.Fields_lt ys hF k hk) hbw.size) (.inl (D.Fields_lt ys hF k hk))).trans (hbw.block k (D.Fields_lt ys hF k hk))
  have hF1 := D.Fields_move ys (w1 := w'') hmf (Nat.le_trans hbw.size hsz) hF
  have hO1 : Own B w'' f := ⟨hO.1, fun k hk => ⟨(hO.2 k hk).1, (hO.2 k hk).2.move (hmf k hk)⟩⟩
  have hown : ∀ k, v'.ownBlock = some k → w''.heap[k]? = w'.heap[k]? := fun k hk => by
    obtain ⟨_, cur, hc⟩ := ownsRow_block q1 hk
    refine hsame k (blk_lt hc) ?_
    rcases hat with hat | hat
    · exact .inr (.inl (by rw [← hat, hk]))
    · rw [hk] at hat
      injection hat with hat
      exact .inr (.inr (by omega))
  refine Grow.fr (e := e) ⟨cs, f, ⟨q1.1, ?_⟩, hF1, hyn, ?_⟩
  · rcases q1.2 with ⟨rfl, hn0⟩ | ⟨b, cap, cur, rfl, hb, hg0, rest⟩
    · omega
    · exact .inr ⟨b, cap, cur, rfl, Nat.le_trans hB hb, (hown b rfl).trans hg0, rest⟩
  · refine Own.append ⟨?_, fun k hk => ?_⟩ hO1 fun k hk hkf => ?_
    · cases v'.ownBlock <;> simp
    · have hk' : v'.ownBlock = some k := by simpa using hk
      obtain ⟨h1, cur, h2⟩ := ownsRow_block q1 hk'
      exact ⟨Nat.le_trans hB h1, cur, _, (hown k hk').trans h2⟩
    · have hk' : v'.ownBlock = some k := by simpa using hk
      obtain ⟨h1, _⟩ := ownsRow_block q1 hk'
      have := D.Fields_lt ys hF _ hkf
      omega
theorem grown_set {w w' : World} {p : Addr} {u : Value} (h : w.grownBy w' (some p.block)) : w.grownBy (w'.setCell p u) (some p.block) := ⟨h.os, h.tape, h.output, by simpa [World.setCell] using h.size, fun k hk hne => (Below.heap_setCell w' p u k (fun e => hne (by rw [e]))).trans (h.block k hk hne)⟩
/-- Four cells of a block are stored. -/
theorem grown_set4 (w : World) (g : Nat) (u0 u1 u2 u3 : Value) : w.grownBy ((((w.setCell ⟨g, 0, none⟩ u0).setCell ⟨g, 1, none⟩ u1).setCell ⟨g, 2, none⟩ u2).setCell ⟨g, 3, none⟩ u3) (some g) :=
  grown_set (p := ⟨g, 3, none⟩) (grown_set (p := ⟨g, 2, none⟩) (grown_set (p := ⟨g, 1, none⟩) (grown_set (p := ⟨g, 0, none⟩) ⟨rfl, rfl, rfl, Nat.le_refl _, fun _ _ _ => rfl⟩)))

def pcells (ps : List (ByteArray × Int)) : List Value := ps.flatMap fun p => [.string p.1, .int .i64 p.2]
theorem pcells_length (ps : List (ByteArray × Int)) : (pcells ps).length = ps.length * 2 := by
  induction ps with
  | nil => rfl
  | cons p ps ih => simp only [pcells, List.flatMap_cons, List.length_append, List.length_cons, List.length_nil] at ih ⊢; omega
theorem pcells_get (ps : List (ByteArray × Int)) : ∀ (j : Nat) (u : Value), (pcells ps)[j]? = some u → ∃ i p k, j = i * 2 + k ∧ ps[i]? = some p ∧ [(.string p.1 : Value), .int .i64 p.2][k]? = some u := by
  induction ps with
  | nil => intro j u h; simp [pcells] at h
  | cons p ps ih =>
    intro j u h
    simp only [pcells, List.flatMap_cons] at h
    match j, h with
    | 0, h => exact ⟨0, p, 0, rfl, rfl, by simpa using h⟩
    | 1, h => exact ⟨0, p, 1, rfl, rfl, by simpa using h⟩
    | j + 2, h =>
      obtain ⟨i, q, k, rfl, h1, h2⟩ := ih j u (by simpa [pcells] using h)
      exact ⟨i + 1, q, k, by omega, by simpa using h1, h2⟩
theorem frF_preds (B : Nat) (w : World) : ∀ (ps : List (ByteArray × Int)), FrF B w (predsD ps) (pcells ps)
  | [] => frF_nil B w
  | p :: ps => by
    obtain ⟨f, h, ho⟩ := frF_preds B w ps
    refine ⟨f, ?_, ho⟩
    simp only [predsD, List.map_cons, pcells, List.flatMap_cons, D.Fields]
    exact ⟨[.string p.1, .int .i64 p.2], _, [], f, rfl, rfl, by simp only [predD, D.K, D.Fields]; exact ⟨[.string p.1], _, [], [], rfl, rfl, ⟨rfl, rfl⟩, [.int .i64 p.2], [], [], [], rfl, rfl, ⟨rfl, rfl⟩, rfl, rfl⟩, h⟩
theorem preds_cells {w : World} {A : Option Addr} {ps : List (ByteArray × Int)} (h : RdRow w 2 A (predsD ps)) (hp : ps ≠ []) : ∃ b off, A = some ⟨b, off, none⟩ ∧ CellsAt w b off (pcells ps) := by
  rcases h with h | ⟨b, off, hA, h⟩
  · simp [predsD] at h
    exact absurd h hp
  · refine ⟨b, off, hA, fun j u hu => ?_⟩
    obtain ⟨i, p, k, rfl, h1, h2⟩ := pcells_get ps j u hu
    obtain ⟨cs, hl, hr, hc⟩ := h i (predD p) (by simp [predsD, h1])
    have he : cs = [.string p.1, .int .i64 p.2] := by
      simp only [predD] at hr
      rw [rd_struct] at hr
      simp only [rdF_cons, rdF_nil, rd_int, rd_str] at hr
      obtain ⟨c1, c2, rfl, rfl, d1, d2, rfl, rfl, rfl⟩ := hr
      rfl
    subst he
    rw [← Nat.add_assoc]
    exact hc k u h2

end Go.Proofs.Ytifmnijdaboenaa
