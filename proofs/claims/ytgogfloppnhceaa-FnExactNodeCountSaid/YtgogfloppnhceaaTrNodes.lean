/- The program's 'NodeCount' on trees as data; no condition. -/
import Derived.Test.YtgogfloppnhceaaTrWalk
import Derived.RangeFuncFrom
namespace Go.Proofs.Ytgogfloppnhceaa
open Go.RowKit Go.Shelf
set_option linter.unusedVariables false
set_option linter.unusedSimpArgs false
attribute [local go_sem] Oper.semAt_some

/-- What a round keeps: what lay below n₀, and block Bt. -/
def KpB (n₀ Bt : Nat) (A B : World) : Prop := Below n₀ A B ∧ B.heap[Bt]? = A.heap[Bt]?
theorem kpB_t {n₀ Bt : Nat} {A B C : World} (h : KpB n₀ Bt A B) (k : KpB n₀ Bt B C) : KpB n₀ Bt A C := ⟨h.1.trans k.1, k.2.trans h.2⟩
theorem kpB_of {n₀ Bt : Nat} {A B : World} (h : Below A.heap.size A B) (h1 : n₀ ≤ A.heap.size) (h2 : Bt < A.heap.size) : KpB n₀ Bt A B := ⟨h.mono h1, h.block _ h2⟩
theorem kpB_b {n₀ Bt : Nat} {w : World} (h1 : n₀ ≤ w.heap.size) (h2 : Bt < w.heap.size) (W : World) (l : Nat) (o o' : Obj) (hl : w.heap.size ≤ l) (h : W.heap[l]? = some o) (hc : o.isCells = false) (hw : o.isWalk = false) : KpB n₀ Bt W (W.putObj l o') :=
  ⟨belowK_b (w := w) h1 W l o o' hl h hc hw, (belowK_b (n₀ := Bt + 1) (w := w) h2 W l o o' hl h hc hw).block Bt (Nat.lt_succ_self _)⟩

set_option maxHeartbeats 1000000 in
theorem nodes1_in (F : Fence) (hd : F.depth = none) (n : Nat) (h76 : F.fn 76) (h77 : F.fn 77) (hro : F.round = none) (l Bt : Nat) (W0 Wa : World) (hKd : ∀ W', KpB W0.heap.size Bt Wa W' → Below W0.heap.size W0 W') (x : Tr) (hx : x.ok) (cs : List Value) (J Jx : List Nv → World → Prop)
    (hY : ∀ pre y W, J pre W → pre.length < x.count → YieldAt F (n - 1) Try.prog l (nvs y) W fun e W' =>
      (e = .returned (.bool true) ∧ J (pre ++ [y]) W' ∧ KpB W0.heap.size Bt W W') ∨ (e = .returned (.bool false) ∧ Jx (pre ++ [y]) W'))
    (W : World) (hrd : Rd W0 x.enc cs) (hcells : ∀ W', KpB W0.heap.size Bt Wa W' → CellsAt W' Bt 0 cs) (hW : KpB W0.heap.size Bt Wa W) (h0 : J [] W) :
    CallsIn F n Try.prog 76 #[.func (.yield l) #[] #[], .pointer (some ⟨Bt, 0, none⟩)] W fun e W' => (∃ v, e = .returned v) ∧
      ((∃ ys : List Nv, ys.length = x.count ∧ J ys W') ∨ (∃ pre : List Nv, pre.length ≤ x.count ∧ Jx pre W')) := by
  have hdd : ∀ k : Nat, (F.depth.isSome = true → 1 ≤ k) := fun k h => by rw [hd] at h; cases h
  have hp := WalkIn_all F hd h77 hro l x.count (KpB W0.heap.size Bt) W0 Wa kpB_t hKd J Jx (fun m pre y W hj hl => yieldAny hd m (hY pre y W hj hl)) x hx (n - 1) 1 Bt 0 cs [] W hrd hcells hW h0 (by simp)
  clear hY hcells hKd
  refine callsIn_of_wp Try.func76 rfl h76 ?_ hro
  simp only [Try.ntmps76, List.size_toArray, List.length_cons, List.length_nil, Nat.reduceAdd, Nat.reduceSub, Array.replicate_succ, Array.replicate_zero, List.push_toArray, List.append_toArray, List.nil_append, List.cons_append]
  gi_wp2_with ((try refine ⟨hdd _, ?_⟩); gi_at_call 77; refine hp.mono ?_; clear hp; rintro e W1 (⟨rfl, ⟨ys, hys, hJ1⟩, _⟩ | ⟨rfl, q, hq, hx⟩))
  · go_end0
    exact ⟨⟨_, rfl⟩, .inl ⟨ys, hys, by simpa using hJ1⟩⟩
  · go_end0
    exact ⟨⟨_, rfl⟩, .inr ⟨q, hq, by simpa using hx⟩⟩

set_option maxHeartbeats 1000000 in
theorem nodes_in (F : Fence) (n : Nat) (h71 : F.fn 71) (hro : F.round = none) (a b c : Value) (w : World) :
    CallsIn F n Try.prog 71 #[.agg #[a, b, c]] w fun e w' => e = .returned (.func (.func 76) #[] #[.pointer (some ⟨w.heap.size, 0, none⟩)]) ∧ w' = w.alloc (.cells #[a, b, c] 68) := by
  refine callsIn_of_wp Try.func71 rfl h71 ?_ hro
  simp only [Try.ntmps71, List.size_toArray, List.length_cons, List.length_nil, Nat.reduceAdd, Nat.reduceSub, Array.replicate_succ, Array.replicate_zero, List.push_toArray, List.append_toArray, List.nil_append, List.cons_append]
  gi_wp2
  go_ret
  exact ⟨rfl, rfl⟩

set_option maxRecDepth 100000 in
set_option maxHeartbeats 2000000 in
theorem implNodeCount (x : Tr) (hx : x.ok) (hcount : x.count ≤ 1048577) (w : World) (cs : List Value) (h : Rd w x.enc cs) :
    Calls Try.prog 48 #[.agg cs.toArray] w fun e w' => e = .returned (.int .i64 x.count) ∧ Below w.heap.size w w' := by
  obtain ⟨u0, u1, u2, rfl⟩ := cells3 (h.len.trans x.n)
  refine (callsIn_wide (n := 9)).1 ?_
  have hro : Fence.wide.round = none := rfl
  refine callsIn_of_wp_marks Try.func48 rfl trivial ?_ hro
  simp only [Try.ntmps48, List.size_toArray, List.length_cons, List.length_nil, Nat.reduceAdd, Nat.reduceSub, Array.replicate_succ, Array.replicate_zero, List.push_toArray, List.append_toArray, List.nil_append, List.cons_append]
  have H := Lib.hid h
  clear h
  gi_wp2_with ((try refine ⟨trivial, ?_⟩); gi_at_call 71; refine (nodes_in Fence.wide _ trivial rfl _ _ _ _).mono ?_; rintro e w' ⟨rfl, rfl⟩)
  obtain ⟨w1, hw1⟩ : ∃ w1, w.alloc (.cells #[u0, u1, u2] 68) = w1 := ⟨_, rfl⟩
  have s1 : w1.heap.size = w.heap.size + 1 := by rw [← hw1]; simp
  obtain ⟨w2, hw2⟩ : ∃ w2, w1.alloc (.cells #[.int .i64 0] 2) = w2 := ⟨_, rfl⟩
  have s2 : w2.heap.size = w.heap.size + 2 := by rw [← hw2]; simp [s1]
  have b2 := blk_new w1 (.cells #[.int .i64 0] 2)
  rw [hw2, s1] at b2
  obtain ⟨w3, hw3⟩ : ∃ w3, w2.alloc (.cells #[u0, u1, u2] 68) = w3 := ⟨_, rfl⟩
  have s3 : w3.heap.size = w.heap.size + 3 := by rw [← hw3]; simp [s2]
  have b3 := blk_new w2 (.cells #[u0, u1, u2] 68)
  rw [hw3, s2] at b3
  have b23 := blk_old b2 (.cells #[u0, u1, u2] 68)
  rw [hw3] at b23
  have hB : Below w.heap.size w w3 := by
    rw [← hw3, ← hw2, ← hw1]
    exact (((Below.refl _ w).alloc (Nat.le_refl _) _).alloc (by simp) _).alloc (by simp; omega) _
  rw [hw1, hw2, hw3]
  have hcells : ∀ W', KpB w.heap.size (w.heap.size + 2) w3 W' → CellsAt W' (w.heap.size + 2) 0 [u0, u1, u2] := fun W' hk j u hj => by
    have hh := blk_cell (hk.2.trans b3) (0 + j)
    rw [hh]
    simpa using hj
  refine wpIn_rangeFunc_ownF hro (by omega) (gf := 76) (lb := #[.pointer (some ⟨w.heap.size + 2, 0, none⟩)]) rfl trivial (enters_of Try.func76 (by kernel_rfl) rfl)
    (encs := nvs) (Kp := KpB w.heap.size (w.heap.size + 2)) (S := fun ys => ys.length = x.count) (Sp := fun pre => pre.length ≤ x.count) (N := x.count) (w0 := w3)
    (fun l J Jx W hW _ _ hY h0 => nodes1_in Fence.wide rfl _ trivial trivial rfl l (w.heap.size + 2) w w3 (fun W' hk => hB.trans hk.1) x hx _ J Jx hY W H.out hcells (kpB_of hW (by omega) (by omega)) h0)
    kpB_t (kpB_b (by omega) (by omega)) (Below.refl _ _) (fun _ => rfl)
    (fun pre W => (W.cell? ⟨w.heap.size + 1, 0, none⟩ = some (.int .i64 pre.length) ∧ W.frozen? ⟨w.heap.size + 1, 0, none⟩ = false) ∧ Below w.heap.size w W)
    (fun _ _ _ => False)
    (OwnFrom.and (Own.from (fun s A B row hs hg hr => ⟨cell_kept hs.1 hg hr, (frozen_kept hs.1 hg hr).trans hs.2⟩) _) (ownFrom_below (Nat.le_refl _) (by omega)))
    (fun _ _ _ _ _ hs _ _ => hs)
    ⟨⟨by simpa using blk_cell b23 0, by simpa using blk_frozen b23 0⟩, hB⟩
    (fun y => { tmps := #[.agg #[u0, u1, u2], .pointer (some ⟨w.heap.size, 0, none⟩), .int .i64 0, .pointer (some ⟨w.heap.size + 1, 0, none⟩), .agg #[u0, u1, u2], .func (.func 76) #[] #[.pointer (some ⟨w.heap.size + 2, 0, none⟩)], .int .i64 y.1, .pointer (some ⟨y.2.1, y.2.2, none⟩), undef, undef, undef], defers := [] }) ?assign ?body ?done ?stop
  case assign =>
    intro l y W K hK
    gi_wp2
    simpa [nvs] using hK
  case body =>
    rintro l pre y W ⟨⟨hc, hf⟩, hBW⟩ hlt
    gi_wp2
    exact ⟨KeepsOthers.setCell _ _ _, ⟨(Below.refl w.heap.size W).setCell (p := ⟨w.heap.size + 1, 0, none⟩) (Nat.le_succ _) _, Below.heap_setCell W ⟨w.heap.size + 1, 0, none⟩ _ _ (by simp)⟩,
      ⟨by rw [List.length_append]; exact World.cell?_setCell_same' _ _ _ (by rw [hc]; rfl), by rw [World.frozen?_setCell]; exact hf⟩, hBW.setCell (p := ⟨w.heap.size + 1, 0, none⟩) (Nat.le_succ _) _⟩
  case done =>
    rintro D ys W hD hS ⟨⟨hc, _⟩, hBW⟩ hK
    gi_wp2
    refine ⟨by simp, .inl ⟨_, _, rfl, run_takeDeferred hK, ?_⟩⟩
    exact ⟨_, results_tmp rfl _ _ _, by rw [← hS]; rfl, hBW.trans (belowK_b (w := w) (Nat.le_refl _) W D _ _ (by omega) hK rfl rfl)⟩
  case stop =>
    rintro D c pre W _ _ h _
    exact h.elim

end Go.Proofs.Ytgogfloppnhceaa
