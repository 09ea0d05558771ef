/- The program's putter: a type copied and counted; no condition. -/
import Derived.Test.YtbbpkjcmbakfeaaAppS
import Derived.Test.YtbbpkjcmbakfeaaOpnI
import Derived.IntWalk
namespace Go.Proofs.Ytbbpkjcmbakfeaa
open Go.RowKit
set_option linter.unusedVariables false
set_option linter.unusedSimpArgs false

mutual
def Ty.big : Ty → Int → Int → Bool × Int
  | .mk _ _ _ ks, deep, left => if left - 1 < 0 ∨ 200 < deep then (true, left - 1) else Ty.bigs ks (deep + 1) (left - 1)
def Ty.bigs : List Ty → Int → Int → Bool × Int
  | [], _, left => (false, left)
  | x :: xs, deep, left => if (x.big deep left).1 = true then (true, (x.big deep left).2) else Ty.bigs xs deep (x.big deep left).2
end
theorem Ty.bigs_next {ks : List Ty} {j : Nat} {deep left : Int} (hj : j < ks.length) : Ty.bigs (ks.drop j) deep left = if (ks[j].big deep left).1 = true then (true, (ks[j].big deep left).2) else Ty.bigs (ks.drop (j + 1)) deep (ks[j].big deep left).2 := by
  rw [List.drop_eq_getElem_cons hj, Ty.bigs]
theorem Ty.bigs_left : ∀ (xs : List Ty), (∀ x ∈ xs, ∀ deep left, (x.big deep left).1 = false → 0 ≤ (x.big deep left).2 ∧ (x.big deep left).2 ≤ left) →
    ∀ deep left, 0 ≤ left → (Ty.bigs xs deep left).1 = false → 0 ≤ (Ty.bigs xs deep left).2 ∧ (Ty.bigs xs deep left).2 ≤ left
  | [], _, deep, left, h0, h => by
    simp only [Ty.bigs]
    exact ⟨h0, Int.le_refl _⟩
  | x :: xs, ih, deep, left, h0, h => by
    rw [Ty.bigs] at h ⊢
    by_cases hx : (x.big deep left).1 = true
    · rw [if_pos hx] at h
      simp at h
    · rw [if_neg hx] at h ⊢
      have h1 := ih x (by simp) deep left (by simpa using hx)
      have h2 := Ty.bigs_left xs (fun y hy => ih y (by simp [hy])) deep _ h1.1 h
      omega
theorem Ty.big_left : ∀ (x : Ty) (deep left : Int), (x.big deep left).1 = false → 0 ≤ (x.big deep left).2 ∧ (x.big deep left).2 ≤ left :=
  Ty.induct fun k d n ks ih deep left h => by
    rw [Ty.big] at h ⊢
    by_cases hb : left - 1 < 0 ∨ 200 < deep
    · rw [if_pos hb] at h
      simp at h
    · rw [if_neg hb] at h ⊢
      have := Ty.bigs_left ks ih (deep + 1) (left - 1) (by omega) h
      omega

/-! ### A row of cells of one block is written, before all else -/
theorem below_row2 {n G : Nat} {a w : World} {X X' : Array Value} (h : Below n (a.setRow G X) w) (hG : G < n) : Below n (a.setRow G X') (w.setRow G X') := by
  refine ⟨h.os, h.tape, h.output, by simpa using h.size, fun k hk => ?_⟩
  by_cases hkG : k = G
  · subst hkG
    have h1 := h.block k hk
    simp only [World.setRow, Array.getElem?_modify] at h1 ⊢
    simp only [if_true] at h1 ⊢
    rw [h1]
    cases a.heap[k]? with
    | none => rfl
    | some o => cases o <;> simp
  · rw [setRow_other w G k X' hkG, setRow_other a G k X' hkG, h.block k hk, setRow_other a G k X hkG]
theorem row_self {w : World} {G : Nat} {X : Array Value} {E : TypeId} (h : w.heap[G]? = some (.cells X E (0, 0))) : Below w.heap.size (w.setRow G X) w := by
  refine ⟨rfl, rfl, rfl, by simp, fun k hk => ?_⟩
  by_cases hkG : k = G
  · subst hkG
    rw [setRow_heap w k X X E (0, 0) h, h]
  · rw [setRow_other w G k X hkG]
theorem grownBy_row {w : World} {G : Nat} {X : Array Value} : w.grownBy (w.setRow G X) (some G) := ⟨rfl, rfl, rfl, by simp, fun k _ hne => setRow_other w G k X (fun e => hne (by rw [e]))⟩
theorem below_row_old {n G : Nat} {a w : World} {X : Array Value} (h : Below w.heap.size (w.setRow G X) a) (hb : Below n w w) (hn : n ≤ G) (hw : n ≤ w.heap.size) : Below n w a :=
  ⟨h.os, h.tape, h.output, by simpa using h.size, fun k hk => (h.block k (by omega)).trans (setRow_other w G k X (by omega))⟩
theorem rowset (w : World) (G : Nat) (m c0 g0 c1 : Value) (E : TypeId) (h : w.heap[G]? = some (.cells #[m, c0, g0] E (0, 0))) : w.setCell ⟨G, 1, none⟩ c1 = w.setRow G #[m, c1, g0] := by
  have := setCell_eq_setRow w G 1 #[m, c0, g0] E (0, 0) c1 h
  simpa using this
theorem rowset2 (w : World) (G : Nat) (m c0 g0 g1 : Value) (E : TypeId) (h : w.heap[G]? = some (.cells #[m, c0, g0] E (0, 0))) : w.setCell ⟨G, 2, none⟩ g1 = w.setRow G #[m, c0, g1] := by
  have := setCell_eq_setRow w G 2 #[m, c0, g0] E (0, 0) g1 h
  simpa using this

/-- What the world holds while the program builds a type: the answer's block H, the type that grows in the next, the putter in block G. -/
structure Bp (w0 : World) (G : Nat) (m : Value) (c : Int) (g : Bool) (k d : Int) (n : ByteArray) (v : Value) (ys : List D) (w : World) : Prop where
  below : Below w0.heap.size (w0.setRow G #[m, .int .i64 c, .bool g]) w
  zero : w.heap[w0.heap.size]? = some (.cells #[.int .i64 0, .int .i64 0, .string ⟨#[]⟩, .slice none 0 0] 30 (0, 0))
  out : w.heap[w0.heap.size + 1]? = some (.cells #[.int .i64 k, .int .i64 d, .string n, v] 30 (0, 0))
  grow : Grow (w0.heap.size + 2) w v 30 4 ys
  size : w0.heap.size + 2 ≤ w.heap.size
section
variable {w0 w w1 : World} {G : Nat} {m : Value} {c : Int} {g : Bool} {k d : Int} {n : ByteArray} {v v' : Value} {ys zs : List D}
theorem Bp.more (h : Bp w0 G m c g k d n v ys w) (hb : Below w.heap.size w w1) : Bp w0 G m c g k d n v ys w1 :=
  ⟨h.below.trans (hb.mono (by have := h.size; omega)), blk_below h.zero hb, blk_below h.out hb, h.grow.below hb, Nat.le_trans h.size hb.size⟩
theorem Bp.put (h : Bp w0 G m c g k d n v ys w) {X : Array Value} {E : TypeId} (hg : w0.heap[G]? = some (.cells X E (0, 0))) : w.heap[G]? = some (.cells #[m, .int .i64 c, .bool g] E (0, 0)) := by
  rw [h.below.block G (blk_lt hg)]
  exact setRow_heap w0 G X _ E (0, 0) hg
theorem Bp.set (h : Bp w0 G m c g k d n v ys w) (hG : G < w0.heap.size) (c' : Int) (g' : Bool) : Bp w0 G m c' g' k d n v ys (w.setRow G #[m, .int .i64 c', .bool g']) :=
  ⟨below_row2 h.below hG, (setRow_other w G _ _ (by omega)).trans h.zero, (setRow_other w G _ _ (by omega)).trans h.out, h.grow.grown grownBy_row (fun q hq => by injection hq with hq; omega), by simpa using h.size⟩
theorem Bp.push (h : Bp w0 G m c g k d n v ys w) (hg : Grow (w0.heap.size + 2) w1 v' 30 4 zs) (hw : Grew w w1 v v') :
    w1.heap[w0.heap.size + 1]? = some (.cells #[.int .i64 k, .int .i64 d, .string n, v] 30 (0, 0)) ∧ Bp w0 G m c g k d n v' zs (w1.setCell ⟨w0.heap.size + 1, 3, none⟩ v') := by
  have hne : ∀ q, q < w0.heap.size + 2 → some q ≠ v.ownBlock := fun q hq e => by
    have := (h.grow.bound q e.symm).1
    omega
  have h1 := hw.blk h.out (hne _ (by omega))
  refine ⟨h1, (hw.below h.below (by have := h.size; omega) (fun q hq => by have := (h.grow.bound q hq).1; omega)).setCell (by simp) _, blk_far (hw.blk h.zero (hne _ (by omega))) (p := ⟨w0.heap.size + 1, 3, none⟩) (by simp) _, (blk_set h1 3 v').trans rfl, hg.grown grownBy_set (fun q hq => by injection hq with hq; subst hq; show w0.heap.size + 1 < w0.heap.size + 2; omega), ?_⟩
  have := h.size
  have := hw.grown.size
  simp [World.setCell]
  omega
theorem Bp.done {ys : List Ty} (h : Bp w0 G m c g k d n v (Ty.encs ys) w) :
    Fr w0.heap.size (setAnsI w0 w (.int .i64 k) (.int .i64 d) (.string n) v) (Ty.mk k d n ys).enc [.int .i64 k, .int .i64 d, .string n, v] ∧ Below w0.heap.size (w0.setRow G #[m, .int .i64 c, .bool g]) (setAnsI w0 w (.int .i64 k) (.int .i64 d) (.string n) v) := by
  refine ⟨?_, (((h.below.setCell (by simp) _).setCell (by simp) _).setCell (by simp) _).setCell (by simp) _⟩
  have h1 := ((((h.grow.fr.set (p := ⟨w0.heap.size, 0, none⟩) (by simp) (.int .i64 k)).set (p := ⟨w0.heap.size, 1, none⟩) (by simp) (.int .i64 d)).set (p := ⟨w0.heap.size, 2, none⟩) (by simp) (.string n)).set (p := ⟨w0.heap.size, 3, none⟩) (by simp) v).lower (B' := w0.heap.size) (by omega)
  simp only [Ty.enc]
  rw [fr_struct]
  exact frF_int (frF_int (frF_str (frF_last h1)))
end
theorem fr_none' (B : Nat) (w : World) : Fr B w (Ty.mk 0 0 ⟨#[]⟩ []).enc [.int .i64 0, .int .i64 0, .string ⟨#[]⟩, .slice none 0 0] := by
  simp only [Ty.enc, Ty.encs]
  rw [fr_struct]
  exact frF_int (frF_int (frF_str (frF_last (fr_nil _ _ 4 _ _ (Nat.zero_le _)))))
/-- Some type comes out; if the count holds it is the one that was asked for. -/
def PutAns (w : World) (G : Nat) (m : Value) (r : Bool × Int) (z : Ty) (e : Ending) (w' : World) : Prop :=
  ∃ (y : Ty) (cs' : List Value) (c' : Int), e = .returned (.agg cs'.toArray) ∧ Fr w.heap.size w' y.enc cs' ∧ Below w.heap.size (w.setRow G #[m, .int .i64 c', .bool r.1]) w' ∧ (r.1 = false → y = z ∧ c' = 20000 - r.2)
def ImplCop (x : Ty) : Prop := ∀ (W0 w : World) (cs : List Value) (b off G : Nat) (m : Value) (deep c : Int), Rd W0 x.enc cs → CellsAt w b off cs → b ≠ G → Below W0.heap.size W0 w → w.heap[G]? = some (.cells #[m, .int .i64 c, .bool false] 166 (0, 0)) → W0.heap.size ≤ G → 0 ≤ c → c ≤ 20000 → 0 ≤ deep → deep ≤ 201 →
  Calls Try.prog 134 #[.pointer (some ⟨G, 0, none⟩), .pointer (some ⟨b, off, none⟩), .int .i64 deep] w (PutAns w G m (x.big deep (20000 - c)) x)

set_option maxRecDepth 100000 in
set_option maxHeartbeats 8000000 in
theorem ImplCop_of (k d : Int) (n : ByteArray) (ks : List Ty) (hn : ks.length ≤ 1048576) (ih : ∀ x ∈ ks, ImplCop x) : ImplCop (.mk k d n ks) := by
  intro W0 w cs b off G m deep c h hc hbG hb hg hG h0 h1 h2 h3
  obtain ⟨A, cp, rfl, _, _, h4⟩ := Ty.open_ h
  have IH := Lib.hid ih
  have H4 := Lib.hid h4
  have HG := Lib.hid hg
  have HGB := Lib.hid hG
  have HB := Lib.hid hb
  have GL := Lib.hid (blk_lt hg)
  have gl : G < w.heap.size := blk_lt hg
  have KC : Hid (∀ w' X (i : Nat) (u : Value), Below w.heap.size (w.setRow G X) w' → [.int .i64 k, .int .i64 d, .string n, .slice A ks.length cp][i]? = some u → w'.cell? ⟨b, off + i, none⟩ = some u) := fun w' X i u hb hi => (World.cell?_of_block (a := ⟨b, off + i, none⟩) ((hb.block b (cell_lt (hc i u hi))).trans (setRow_other w G b X hbG))).trans (hc i u hi)
  have KS : Hid (∀ w' X, Below w.heap.size (w.setRow G X) w' → w'.cell? ⟨b, off, none⟩ = some (.int .i64 k) ∧ w'.cell? ⟨b, off + 1, none⟩ = some (.int .i64 d) ∧ w'.cell? ⟨b, off + 2, none⟩ = some (.string n)) := fun w' X hb => ⟨by simpa using KC.out w' X 0 _ hb rfl, KC.out w' X 1 _ hb rfl, KC.out w' X 2 _ hb rfl⟩
  have K3 : Hid (∀ w' X, Below w.heap.size (w.setRow G X) w' → w'.cell? ⟨b, off + 3, none⟩ = some (.slice A ks.length cp)) := fun w' X hb => KC.out w' X 3 _ hb rfl
  have A1 := Lib.hid (blk_old hg (.cells #[.int .i64 0, .int .i64 0, .string ⟨#[]⟩, .slice none 0 0] 30))
  have A2 := Lib.hid (blk_old ((congrArg (fun q : World => q.heap[G]?) (rowset w G m (.int .i64 c) (.bool false) _ _ hg)).trans (setRow_heap w G _ #[m, .int .i64 (c + 1), .bool false] _ (0, 0) hg)) (.cells #[.int .i64 0, .int .i64 0, .string ⟨#[]⟩, .slice none 0 0] 30))
  have v1 : (w.alloc (.cells #[.int .i64 0, .int .i64 0, .string ⟨#[]⟩, .slice none 0 0] 30)).cell? ⟨G, 1, none⟩ = some (.int .i64 c) := (blk_cell A1.out 1).trans rfl
  have f1 := blk_frozen A1.out 1
  have y1 : ((w.setCell ⟨G, 1, none⟩ (.int .i64 (c + 1))).alloc (.cells #[.int .i64 0, .int .i64 0, .string ⟨#[]⟩, .slice none 0 0] 30)).cell? ⟨G, 1, none⟩ = some (.int .i64 (c + 1)) := (blk_cell A2.out 1).trans rfl
  have v2 : ((w.setCell ⟨G, 1, none⟩ (.int .i64 (c + 1))).alloc (.cells #[.int .i64 0, .int .i64 0, .string ⟨#[]⟩, .slice none 0 0] 30)).cell? ⟨G, 2, none⟩ = some (.bool false) := (blk_cell A2.out 2).trans rfl
  have f2 := blk_frozen A2.out 2
  clear h hc h4 ih hb hg hG hbG
  by_cases hbad : 20000 < c + 1 ∨ 200 < deep
  · have HBAD : Hid (((Ty.mk k d n ks).big deep (20000 - c)).1 = true) := (by show _ = _; rw [Ty.big, if_pos (by omega)])
    rcases (show 20000 < c + 1 ∨ (c + 1 ≤ 20000 ∧ 200 < deep) by omega) with hbad | ⟨hb3, hbad⟩
    · have SW : Hid (((w.setCell ⟨G, 1, none⟩ (.int .i64 (c + 1))).setCell ⟨G, 2, none⟩ (.bool true)) = w.setRow G #[m, .int .i64 (c + 1), .bool true]) := (by rw [rowset w G m (.int .i64 c) (.bool false) _ _ HG.out]; exact rowset2 _ G m (.int .i64 (c + 1)) (.bool false) (.bool true) _ (setRow_heap w G _ _ _ (0, 0) HG.out) |>.trans (setRow_setRow w G _ _))
      have HBL : Hid (Below w.heap.size (w.setRow G #[m, .int .i64 (c + 1), .bool true]) (((w.setCell ⟨G, 1, none⟩ (.int .i64 (c + 1))).setCell ⟨G, 2, none⟩ (.bool true)).alloc (.cells #[.int .i64 0, .int .i64 0, .string ⟨#[]⟩, .slice none 0 0] 30))) := (by show Below _ _ _; rw [SW.out]; exact (Below.refl _ _).alloc (by simp) _)
      have HBO : Hid (∀ o, Below w.heap.size (w.setRow G #[m, .int .i64 (c + 1), .bool true]) (World.alloc (((w.setCell ⟨G, 1, none⟩ (.int .i64 (c + 1))).setCell ⟨G, 2, none⟩ (.bool true)).alloc (.cells #[.int .i64 0, .int .i64 0, .string ⟨#[]⟩, .slice none 0 0] 30)) o)) := fun o => HBL.out.alloc (by simp) o
      have KY := Lib.hid (KS.out _ _ HBL.out)
      have KZ := Lib.hid (fun o => KS.out _ _ (HBO.out o))
      have z3 : ∀ o, (World.alloc (((w.setCell ⟨G, 1, none⟩ (.int .i64 (c + 1))).setCell ⟨G, 2, none⟩ (.bool true)).alloc (.cells #[.int .i64 0, .int .i64 0, .string ⟨#[]⟩, .slice none 0 0] 30)) o).cell? ⟨b, off + 3, none⟩ = some (.slice A ks.length cp) := fun o => K3.out _ _ (HBO.out o)
      have BP0 : Hid (Bp w G m (c + 1) true k d n (.slice none 0 0) [] (World.alloc (((w.setCell ⟨G, 1, none⟩ (.int .i64 (c + 1))).setCell ⟨G, 2, none⟩ (.bool true)).alloc (.cells #[.int .i64 0, .int .i64 0, .string ⟨#[]⟩, .slice none 0 0] 30)) (.cells #[.int .i64 k, .int .i64 d, .string n, .slice none 0 0] 30)).drew) := (by
        refine ⟨?_, ?_, ?_, Grow.nil _ _ _ _, ?_⟩
        · rw [SW.out]
          exact (((Below.refl w.heap.size (w.setRow G #[m, .int .i64 (c + 1), .bool true])).alloc (by simp) _).alloc (by simp) _).drew
        · rw [SW.out]
          exact blk_old (blk_new_g (by simp)) _
        · rw [SW.out]
          exact blk_new_g (by simp)
        · rw [SW.out]
          show _ ≤ _
          simp)
      have ST : Hid (∃ (c' : Int) (g : Bool) (ys : List Ty) (v : Value), Bp w G m c' g k d n v (Ty.encs ys) (World.alloc (((w.setCell ⟨G, 1, none⟩ (.int .i64 (c + 1))).setCell ⟨G, 2, none⟩ (.bool true)).alloc (.cells #[.int .i64 0, .int .i64 0, .string ⟨#[]⟩, .slice none 0 0] 30)) (.cells #[.int .i64 k, .int .i64 d, .string n, .slice none 0 0] 30)).drew ∧ ys.length = 0 ∧ ((g = true ∧ ((Ty.mk k d n ks).big deep (20000 - c)).1 = true) ∨ (g = false ∧ ys = ks.take 0 ∧ deep ≤ 200 ∧ 0 ≤ c' ∧ c' ≤ 20000 ∧ (Ty.mk k d n ks).big deep (20000 - c) = Ty.bigs (ks.drop 0) (deep + 1) (20000 - c')))) := ⟨c + 1, true, [], _, BP0.out, rfl, .inl ⟨rfl, HBAD.out⟩⟩
      clear BP0 SW
      go_enter Try.func134, Try.ntmps134
      go_wp2_with fail
      go_region_held3 (fun w' => w'.cell? ⟨b, off, none⟩ = some (.int .i64 k) ∧ w'.cell? ⟨b, off + 1, none⟩ = some (.int .i64 d) ∧ w'.cell? ⟨b, off + 2, none⟩ = some (.string n)) (first | exact KY.out | exact KZ.out _) (first | fail)
      go_wp2_with fail
      generalize hW : (World.alloc (((w.setCell ⟨G, 1, none⟩ (.int .i64 (c + 1))).setCell ⟨G, 2, none⟩ (.bool true)).alloc (.cells #[.int .i64 0, .int .i64 0, .string ⟨#[]⟩, .slice none 0 0] 30)) (.cells #[.int .i64 k, .int .i64 d, .string n, .slice none 0 0] 30)).drew = W at *
      clear hW z3 KY KZ HBO HBL v1 f1 y1 v2 f2
      go_loopw [46] (fun i wr => ∃ j : Nat, j ≤ ks.length ∧ i = .int .i64 j ∧ Hid (∃ (c' : Int) (g : Bool) (ys : List Ty) (v : Value), Bp w G m c' g k d n v (Ty.encs ys) wr ∧ ys.length = j ∧ ((g = true ∧ ((Ty.mk k d n ks).big deep (20000 - c)).1 = true) ∨ (g = false ∧ ys = ks.take j ∧ deep ≤ 200 ∧ 0 ≤ c' ∧ c' ≤ 20000 ∧ (Ty.mk k d n ks).big deep (20000 - c) = Ty.bigs (ks.drop j) (deep + 1) (20000 - c'))))) (fun i _ => ks.length - (intOf i).toNat)
      case atStart => exact ⟨0, Nat.zero_le _, rfl, ST.out⟩
      case round =>
        obtain ⟨j, hj, rfl, hrel⟩ := hrel
        obtain ⟨c', g, ys, v, hbp, hys, hcase⟩ := hrel.out
        have BP := Lib.hid hbp
        have BPD := Lib.hid (hbp.more (Below.refl _ _).drew)
        have LY := Lib.hid hys
        have PG := Lib.hid (hbp.put HG.out)
        have x0 : wr.cell? ⟨G, 0, none⟩ = some m := (blk_cell PG.out 0).trans rfl
        have x2 : wr.cell? ⟨G, 2, none⟩ = some (.bool g) := (blk_cell PG.out 2).trans rfl
        have WB : Hid (Below W0.heap.size W0 wr) := HB.out.trans (below_row_old hbp.below (Below.refl _ w) HGB.out HB.out.size)
        have y3 : wr.cell? ⟨w.heap.size + 1, 3, none⟩ = some v := (blk_cell hbp.out 3).trans rfl
        have z3 := K3.out _ _ BP.out.below
        have zr0 : wr.cell? ⟨w.heap.size, 0, none⟩ = some (.int .i64 0) := (blk_cell hbp.zero 0).trans rfl
        have zr1 : wr.cell? ⟨w.heap.size, 1, none⟩ = some (.int .i64 0) := (blk_cell hbp.zero 1).trans rfl
        have zr2 : wr.cell? ⟨w.heap.size, 2, none⟩ = some (.string ⟨#[]⟩) := (blk_cell hbp.zero 2).trans rfl
        have zr3 : wr.cell? ⟨w.heap.size, 3, none⟩ = some (.slice none 0 0) := (blk_cell hbp.zero 3).trans rfl
        have zf0 := blk_frozen hbp.zero 0
        have zf1 := blk_frozen hbp.zero 1
        have zf2 := blk_frozen hbp.zero 2
        have zf3 := blk_frozen hbp.zero 3
        clear hbp hys hrel
        by_cases hlt : j < ks.length
        · rcases hcase with ⟨rfl, hF⟩ | ⟨rfl, hy, hdeep, hc0, hc1, hF⟩
          · have HF := Lib.hid hF
            clear hF
            go_wp2
            refine bodyPost_ret (v := .agg #[.int .i64 0, .int .i64 0, .string ⟨#[]⟩, .slice none 0 0]) (by simp [results, Try.results134, go_sem, zr0, zr1, zr2, zr3]) rfl ⟨.mk 0 0 ⟨#[]⟩ [], [.int .i64 0, .int .i64 0, .string ⟨#[]⟩, .slice none 0 0], c', rfl, fr_none' _ _, ?_, fun h => by rw [HF.out] at h; cases h⟩
            rw [HF.out]
            exact (((BP.out.below.setCell (p := ⟨w.heap.size, 0, none⟩) (Nat.le_refl _) _).setCell (p := ⟨w.heap.size, 1, none⟩) (Nat.le_refl _) _).setCell (p := ⟨w.heap.size, 2, none⟩) (Nat.le_refl _) _).setCell (p := ⟨w.heap.size, 3, none⟩) (Nat.le_refl _) _
          · obtain ⟨b', off', es, rfl, hcl, hrd, hc⟩ := H4.out.get (i := j) (x := ks[j].enc) (by simp [Ty.encs_map, List.getElem?_eq_getElem hlt])
            have HLB : Hid (b' < W0.heap.size) := (by obtain ⟨u, hu⟩ : ∃ u, es[0]? = some u := ⟨_, List.getElem?_eq_getElem (show 0 < es.length by omega)⟩; exact cell_lt (hc 0 u hu))
            have HNB : Hid (b' ≠ G) := (by have h1 := HLB.out; have h2 := HGB.out; show _ ≠ _; omega)
            have PD : Hid (wr.drew.heap[G]? = some (.cells #[m, .int .i64 c', .bool false] 166 (0, 0))) := PG.out
            have GLR := Lib.hid (Nat.lt_of_lt_of_le GL.out (by have h1 := BP.out.below.size; rw [setRow_size] at h1; exact h1) : G < wr.heap.size)
            have CAL := Lib.hid (IH.out _ (List.getElem_mem hlt) W0 wr.drew _ b' (off' + j * 4) G m (deep + 1) c' hrd (hc.move (WB.out.drew.block b' HLB.out)) HNB.out WB.out.drew PD.out HGB.out hc0 hc1 (by omega) (by omega))
            have SM := Lib.hid (hF.trans (Ty.bigs_next hlt))
            have LF := Lib.hid (Ty.big_left ks[j] (deep + 1) (20000 - c'))
            have TK := Lib.hid (show ks.take (j + 1) = ks.take j ++ [ks[j]] by exact List.take_succ_eq_append_getElem hlt)
            have HY := Lib.hid hy
            obtain ⟨i0, hi, hz0, hz1, hz2⟩ := info_parts infoTyp
            have i1 : (0 : Int) ≤ (j : Int) := Int.natCast_nonneg _
            have i2 : (j : Int) < (ks.length : Int) := by omega
            clear hrd hcl hc hF hy
            have dw : IntKind.i64.wrap (deep + 1) = deep + 1 := IntWalk.i64_in _ (by omega)
            go_wp2_with fail
            go_region_law (first
                  | (go_simp; go_at_call 134; (with_reducible refine CAL.out.mono ?_); rintro e w1 ⟨y, cs', c1, rfl, hfr, hb, hres⟩; obtain ⟨t0, t1, t2, t3, rfl⟩ := cells4 (hfr.len.trans (Ty.n _)); have SZ : Hid ((wr.drew.setRow G #[m, .int .i64 c1, .bool (ks[j].big (deep + 1) (20000 - c')).1]).heap.size = wr.heap.size) := (by show _ = _; rw [setRow_size]; rfl); have hb2 := below_size SZ.out hb; have BS := Lib.hid ((BPD.out.set GL.out c1 (ks[j].big (deep + 1) (20000 - c')).1).more hb2); have BW1 := Lib.hid hb2; have FR := Lib.hid hfr; have RES := Lib.hid hres; have BW2 := Lib.hid (BW1.out.alloc BW1.out.size (.cells #[t0, t1, t2, t3] 30)); have AL := Lib.hid (below_alloc1 w1 (.cells #[t0, t1, t2, t3] 30)); have CA := Lib.hid (cellsAt_new w1 [t0, t1, t2, t3] 30); have y3 : World.cell? _ ⟨w.heap.size + 1, 3, none⟩ = some v := (blk_cell BS.out.out 3).trans rfl; have y3b : World.cell? _ ⟨w.heap.size + 1, 3, none⟩ = some v := (blk_cell (blk_below BS.out.out AL.out) 3).trans rfl; clear hfr hb hb2 hres)
                  | (refine step_push rfl _ _ 28 rfl (w.heap.size + 2) 30 i0 (.agg #[.int .i64 0, .int .i64 0, .string ⟨#[]⟩, .slice none 0 0]) 4 56 Try.underlying28 hi hz0 hz1 hz2 rfl (by decide) v (Ty.encs ys) rfl (BPD.out.set GL.out c1 (ks[j].big (deep + 1) (20000 - c')).1).grow BW2.out y.enc [t0, t1, t2, t3] (fr_size SZ.out (FR.out.below AL.out)) (Ty.n _) w1.heap.size 1 rfl CA.out (by rw [Ty.encs_length, LY.out]; omega) (by rw [Ty.encs_length, LY.out]; omega) (by rw [SZ.out]; exact BP.out.size) ?_; intro v' w2 hg' hgr' _; have B1 := Lib.hid ((BS.out.more AL.out).push hg' hgr'); obtain ⟨A', c2, hv', _, _, _⟩ := hg'.form; have hln : (Ty.encs ys ++ [y.enc]).length = j + 1 := (by rw [List.length_append, Ty.encs_length, LY.out]; rfl); rw [hln] at hv'; subst hv'; clear hln; have x3 : World.cell? _ ⟨w.heap.size + 1, 3, none⟩ = some v := (blk_cell B1.out.1 3).trans rfl; have xf : World.frozen? _ ⟨w.heap.size + 1, 3, none⟩ = false := blk_frozen B1.out.1 3; clear hg' hgr'))
            all_goals
              clear dw
              go_wp2
              go_roundw
              case rel =>
                refine ⟨j + 1, by omega, by go_num, Lib.hid ⟨c1, _, ys ++ [y], _, by rw [Ty.encs_snoc]; exact B1.out.2, by rw [List.length_append, LY.out]; rfl, ?_⟩⟩
                have sm := SM.out
                have lf := LF.out
                have res := RES.out
                generalize ks[j].big (deep + 1) (20000 - c') = q at *
                obtain ⟨q, l⟩ := q
                cases q with
                | true => exact .inl ⟨rfl, by rw [sm]; rfl⟩
                | false =>
                  have h1 := lf rfl
                  obtain ⟨ry, rc⟩ := res rfl
                  simp only at h1 rc
                  refine .inr ⟨rfl, by rw [TK.out, HY.out, ry], hdeep, by omega, by omega, ?_⟩
                  rw [sm, rc, show (20000 : Int) - (20000 - l) = l by omega]
                  rfl
              case measure => simp [intOf]; omega
        · obtain rfl : j = ks.length := by omega
          obtain ⟨A', c2, hv', _, _, _⟩ := BP.out.grow.form
          rw [Ty.encs_length, LY.out] at hv'
          subst hv'
          have DN := Lib.hid BP.out.done
          have HC := Lib.hid hcase
          have zo0 : wr.cell? ⟨w.heap.size + 1, 0, none⟩ = some (.int .i64 k) := (blk_cell BP.out.out 0).trans rfl
          have zo1 : wr.cell? ⟨w.heap.size + 1, 1, none⟩ = some (.int .i64 d) := (blk_cell BP.out.out 1).trans rfl
          have zo2 : wr.cell? ⟨w.heap.size + 1, 2, none⟩ = some (.string n) := (blk_cell BP.out.out 2).trans rfl
          clear hcase
          go_wp2
          refine bodyPost_ret (v := .agg #[.int .i64 k, .int .i64 d, .string n, .slice A' ks.length c2]) (by simp [results, Try.results134, go_sem, zr0, zr1, zr2, zr3]) rfl ⟨.mk k d n ys, [.int .i64 k, .int .i64 d, .string n, .slice A' ks.length c2], c', rfl, DN.out.1, ?_, ?_⟩
          · have h1 := DN.out.2
            rcases HC.out with ⟨rfl, hF⟩ | ⟨rfl, hy, hdeep, hc0, hc1, hF⟩
            · rw [hF]; exact h1
            · rw [List.drop_length, Ty.bigs] at hF
              rw [hF]; exact h1
          · intro hq
            rcases HC.out with ⟨rfl, hF⟩ | ⟨rfl, hy, hdeep, hc0, hc1, hF⟩
            · rw [hF] at hq; cases hq
            · rw [List.drop_length, Ty.bigs] at hF
              rw [hF]
              refine ⟨?_, ?_⟩
              · rw [hy, List.take_length]
              · show c' = 20000 - (20000 - c')
                omega
    · have SW : Hid (((w.setCell ⟨G, 1, none⟩ (.int .i64 (c + 1))).setCell ⟨G, 2, none⟩ (.bool true)) = w.setRow G #[m, .int .i64 (c + 1), .bool true]) := (by rw [rowset w G m (.int .i64 c) (.bool false) _ _ HG.out]; exact rowset2 _ G m (.int .i64 (c + 1)) (.bool false) (.bool true) _ (setRow_heap w G _ _ _ (0, 0) HG.out) |>.trans (setRow_setRow w G _ _))
      have HBL : Hid (Below w.heap.size (w.setRow G #[m, .int .i64 (c + 1), .bool true]) (((w.setCell ⟨G, 1, none⟩ (.int .i64 (c + 1))).setCell ⟨G, 2, none⟩ (.bool true)).alloc (.cells #[.int .i64 0, .int .i64 0, .string ⟨#[]⟩, .slice none 0 0] 30))) := (by show Below _ _ _; rw [SW.out]; exact (Below.refl _ _).alloc (by simp) _)
      have HBO : Hid (∀ o, Below w.heap.size (w.setRow G #[m, .int .i64 (c + 1), .bool true]) (World.alloc (((w.setCell ⟨G, 1, none⟩ (.int .i64 (c + 1))).setCell ⟨G, 2, none⟩ (.bool true)).alloc (.cells #[.int .i64 0, .int .i64 0, .string ⟨#[]⟩, .slice none 0 0] 30)) o)) := fun o => HBL.out.alloc (by simp) o
      have KY := Lib.hid (KS.out _ _ HBL.out)
      have KZ := Lib.hid (fun o => KS.out _ _ (HBO.out o))
      have z3 : ∀ o, (World.alloc (((w.setCell ⟨G, 1, none⟩ (.int .i64 (c + 1))).setCell ⟨G, 2, none⟩ (.bool true)).alloc (.cells #[.int .i64 0, .int .i64 0, .string ⟨#[]⟩, .slice none 0 0] 30)) o).cell? ⟨b, off + 3, none⟩ = some (.slice A ks.length cp) := fun o => K3.out _ _ (HBO.out o)
      have BP0 : Hid (Bp w G m (c + 1) true k d n (.slice none 0 0) [] (World.alloc (((w.setCell ⟨G, 1, none⟩ (.int .i64 (c + 1))).setCell ⟨G, 2, none⟩ (.bool true)).alloc (.cells #[.int .i64 0, .int .i64 0, .string ⟨#[]⟩, .slice none 0 0] 30)) (.cells #[.int .i64 k, .int .i64 d, .string n, .slice none 0 0] 30)).drew) := (by
        refine ⟨?_, ?_, ?_, Grow.nil _ _ _ _, ?_⟩
        · rw [SW.out]
          exact (((Below.refl w.heap.size (w.setRow G #[m, .int .i64 (c + 1), .bool true])).alloc (by simp) _).alloc (by simp) _).drew
        · rw [SW.out]
          exact blk_old (blk_new_g (by simp)) _
        · rw [SW.out]
          exact blk_new_g (by simp)
        · rw [SW.out]
          show _ ≤ _
          simp)
      have ST : Hid (∃ (c' : Int) (g : Bool) (ys : List Ty) (v : Value), Bp w G m c' g k d n v (Ty.encs ys) (World.alloc (((w.setCell ⟨G, 1, none⟩ (.int .i64 (c + 1))).setCell ⟨G, 2, none⟩ (.bool true)).alloc (.cells #[.int .i64 0, .int .i64 0, .string ⟨#[]⟩, .slice none 0 0] 30)) (.cells #[.int .i64 k, .int .i64 d, .string n, .slice none 0 0] 30)).drew ∧ ys.length = 0 ∧ ((g = true ∧ ((Ty.mk k d n ks).big deep (20000 - c)).1 = true) ∨ (g = false ∧ ys = ks.take 0 ∧ deep ≤ 200 ∧ 0 ≤ c' ∧ c' ≤ 20000 ∧ (Ty.mk k d n ks).big deep (20000 - c) = Ty.bigs (ks.drop 0) (deep + 1) (20000 - c')))) := ⟨c + 1, true, [], _, BP0.out, rfl, .inl ⟨rfl, HBAD.out⟩⟩
      clear BP0 SW
      go_enter Try.func134, Try.ntmps134
      go_wp2_with fail
      go_region_held3 (fun w' => w'.cell? ⟨b, off, none⟩ = some (.int .i64 k) ∧ w'.cell? ⟨b, off + 1, none⟩ = some (.int .i64 d) ∧ w'.cell? ⟨b, off + 2, none⟩ = some (.string n)) (first | exact KY.out | exact KZ.out _) (first | fail)
      go_wp2_with fail
      generalize hW : (World.alloc (((w.setCell ⟨G, 1, none⟩ (.int .i64 (c + 1))).setCell ⟨G, 2, none⟩ (.bool true)).alloc (.cells #[.int .i64 0, .int .i64 0, .string ⟨#[]⟩, .slice none 0 0] 30)) (.cells #[.int .i64 k, .int .i64 d, .string n, .slice none 0 0] 30)).drew = W at *
      clear hW z3 KY KZ HBO HBL v1 f1 y1 v2 f2
      go_loopw [46] (fun i wr => ∃ j : Nat, j ≤ ks.length ∧ i = .int .i64 j ∧ Hid (∃ (c' : Int) (g : Bool) (ys : List Ty) (v : Value), Bp w G m c' g k d n v (Ty.encs ys) wr ∧ ys.length = j ∧ ((g = true ∧ ((Ty.mk k d n ks).big deep (20000 - c)).1 = true) ∨ (g = false ∧ ys = ks.take j ∧ deep ≤ 200 ∧ 0 ≤ c' ∧ c' ≤ 20000 ∧ (Ty.mk k d n ks).big deep (20000 - c) = Ty.bigs (ks.drop j) (deep + 1) (20000 - c'))))) (fun i _ => ks.length - (intOf i).toNat)
      case atStart => exact ⟨0, Nat.zero_le _, rfl, ST.out⟩
      case round =>
        obtain ⟨j, hj, rfl, hrel⟩ := hrel
        obtain ⟨c', g, ys, v, hbp, hys, hcase⟩ := hrel.out
        have BP := Lib.hid hbp
        have BPD := Lib.hid (hbp.more (Below.refl _ _).drew)
        have LY := Lib.hid hys
        have PG := Lib.hid (hbp.put HG.out)
        have x0 : wr.cell? ⟨G, 0, none⟩ = some m := (blk_cell PG.out 0).trans rfl
        have x2 : wr.cell? ⟨G, 2, none⟩ = some (.bool g) := (blk_cell PG.out 2).trans rfl
        have WB : Hid (Below W0.heap.size W0 wr) := HB.out.trans (below_row_old hbp.below (Below.refl _ w) HGB.out HB.out.size)
        have y3 : wr.cell? ⟨w.heap.size + 1, 3, none⟩ = some v := (blk_cell hbp.out 3).trans rfl
        have z3 := K3.out _ _ BP.out.below
        have zr0 : wr.cell? ⟨w.heap.size, 0, none⟩ = some (.int .i64 0) := (blk_cell hbp.zero 0).trans rfl
        have zr1 : wr.cell? ⟨w.heap.size, 1, none⟩ = some (.int .i64 0) := (blk_cell hbp.zero 1).trans rfl
        have zr2 : wr.cell? ⟨w.heap.size, 2, none⟩ = some (.string ⟨#[]⟩) := (blk_cell hbp.zero 2).trans rfl
        have zr3 : wr.cell? ⟨w.heap.size, 3, none⟩ = some (.slice none 0 0) := (blk_cell hbp.zero 3).trans rfl
        have zf0 := blk_frozen hbp.zero 0
        have zf1 := blk_frozen hbp.zero 1
        have zf2 := blk_frozen hbp.zero 2
        have zf3 := blk_frozen hbp.zero 3
        clear hbp hys hrel
        by_cases hlt : j < ks.length
        · rcases hcase with ⟨rfl, hF⟩ | ⟨rfl, hy, hdeep, hc0, hc1, hF⟩
          · have HF := Lib.hid hF
            clear hF
            go_wp2
            refine bodyPost_ret (v := .agg #[.int .i64 0, .int .i64 0, .string ⟨#[]⟩, .slice none 0 0]) (by simp [results, Try.results134, go_sem, zr0, zr1, zr2, zr3]) rfl ⟨.mk 0 0 ⟨#[]⟩ [], [.int .i64 0, .int .i64 0, .string ⟨#[]⟩, .slice none 0 0], c', rfl, fr_none' _ _, ?_, fun h => by rw [HF.out] at h; cases h⟩
            rw [HF.out]
            exact (((BP.out.below.setCell (p := ⟨w.heap.size, 0, none⟩) (Nat.le_refl _) _).setCell (p := ⟨w.heap.size, 1, none⟩) (Nat.le_refl _) _).setCell (p := ⟨w.heap.size, 2, none⟩) (Nat.le_refl _) _).setCell (p := ⟨w.heap.size, 3, none⟩) (Nat.le_refl _) _
          · exfalso; omega
        · obtain rfl : j = ks.length := by omega
          obtain ⟨A', c2, hv', _, _, _⟩ := BP.out.grow.form
          rw [Ty.encs_length, LY.out] at hv'
          subst hv'
          have DN := Lib.hid BP.out.done
          have HC := Lib.hid hcase
          have zo0 : wr.cell? ⟨w.heap.size + 1, 0, none⟩ = some (.int .i64 k) := (blk_cell BP.out.out 0).trans rfl
          have zo1 : wr.cell? ⟨w.heap.size + 1, 1, none⟩ = some (.int .i64 d) := (blk_cell BP.out.out 1).trans rfl
          have zo2 : wr.cell? ⟨w.heap.size + 1, 2, none⟩ = some (.string n) := (blk_cell BP.out.out 2).trans rfl
          clear hcase
          go_wp2
          refine bodyPost_ret (v := .agg #[.int .i64 k, .int .i64 d, .string n, .slice A' ks.length c2]) (by simp [results, Try.results134, go_sem, zr0, zr1, zr2, zr3]) rfl ⟨.mk k d n ys, [.int .i64 k, .int .i64 d, .string n, .slice A' ks.length c2], c', rfl, DN.out.1, ?_, ?_⟩
          · have h1 := DN.out.2
            rcases HC.out with ⟨rfl, hF⟩ | ⟨rfl, hy, hdeep, hc0, hc1, hF⟩
            · rw [hF]; exact h1
            · rw [List.drop_length, Ty.bigs] at hF
              rw [hF]; exact h1
          · intro hq
            rcases HC.out with ⟨rfl, hF⟩ | ⟨rfl, hy, hdeep, hc0, hc1, hF⟩
            · rw [hF] at hq; cases hq
            · rw [List.drop_length, Ty.bigs] at hF
              rw [hF]
              refine ⟨?_, ?_⟩
              · rw [hy, List.take_length]
              · show c' = 20000 - (20000 - c')
                omega
  · have HGOOD : Hid ((Ty.mk k d n ks).big deep (20000 - c) = Ty.bigs (ks.drop 0) (deep + 1) (20000 - (c + 1))) := (by show _ = _; rw [Ty.big, if_neg (by omega), List.drop_zero, show (20000 : Int) - c - 1 = 20000 - (c + 1) by omega])
    have hb1 : c + 1 ≤ 20000 := by omega
    have hb2 : deep ≤ 200 := by omega
    clear hbad
    have SW : Hid ((w.setCell ⟨G, 1, none⟩ (.int .i64 (c + 1))) = w.setRow G #[m, .int .i64 (c + 1), .bool false]) := rowset w G m (.int .i64 c) (.bool false) _ _ HG.out
    have HBL : Hid (Below w.heap.size (w.setRow G #[m, .int .i64 (c + 1), .bool false]) ((w.setCell ⟨G, 1, none⟩ (.int .i64 (c + 1))).alloc (.cells #[.int .i64 0, .int .i64 0, .string ⟨#[]⟩, .slice none 0 0] 30))) := (by show Below _ _ _; rw [SW.out]; exact (Below.refl _ _).alloc (by simp) _)
    have HBO : Hid (∀ o, Below w.heap.size (w.setRow G #[m, .int .i64 (c + 1), .bool false]) (World.alloc ((w.setCell ⟨G, 1, none⟩ (.int .i64 (c + 1))).alloc (.cells #[.int .i64 0, .int .i64 0, .string ⟨#[]⟩, .slice none 0 0] 30)) o)) := fun o => HBL.out.alloc (by simp) o
    have KY := Lib.hid (KS.out _ _ HBL.out)
    have KZ := Lib.hid (fun o => KS.out _ _ (HBO.out o))
    have z3 : ∀ o, (World.alloc ((w.setCell ⟨G, 1, none⟩ (.int .i64 (c + 1))).alloc (.cells #[.int .i64 0, .int .i64 0, .string ⟨#[]⟩, .slice none 0 0] 30)) o).cell? ⟨b, off + 3, none⟩ = some (.slice A ks.length cp) := fun o => K3.out _ _ (HBO.out o)
    have BP0 : Hid (Bp w G m (c + 1) false k d n (.slice none 0 0) [] (World.alloc ((w.setCell ⟨G, 1, none⟩ (.int .i64 (c + 1))).alloc (.cells #[.int .i64 0, .int .i64 0, .string ⟨#[]⟩, .slice none 0 0] 30)) (.cells #[.int .i64 k, .int .i64 d, .string n, .slice none 0 0] 30)).drew) := (by
      refine ⟨?_, ?_, ?_, Grow.nil _ _ _ _, ?_⟩
      · rw [SW.out]
        exact (((Below.refl w.heap.size (w.setRow G #[m, .int .i64 (c + 1), .bool false])).alloc (by simp) _).alloc (by simp) _).drew
      · rw [SW.out]
        exact blk_old (blk_new_g (by simp)) _
      · rw [SW.out]
        exact blk_new_g (by simp)
      · rw [SW.out]
        show _ ≤ _
        simp)
    have ST : Hid (∃ (c' : Int) (g : Bool) (ys : List Ty) (v : Value), Bp w G m c' g k d n v (Ty.encs ys) (World.alloc ((w.setCell ⟨G, 1, none⟩ (.int .i64 (c + 1))).alloc (.cells #[.int .i64 0, .int .i64 0, .string ⟨#[]⟩, .slice none 0 0] 30)) (.cells #[.int .i64 k, .int .i64 d, .string n, .slice none 0 0] 30)).drew ∧ ys.length = 0 ∧ ((g = true ∧ ((Ty.mk k d n ks).big deep (20000 - c)).1 = true) ∨ (g = false ∧ ys = ks.take 0 ∧ deep ≤ 200 ∧ 0 ≤ c' ∧ c' ≤ 20000 ∧ (Ty.mk k d n ks).big deep (20000 - c) = Ty.bigs (ks.drop 0) (deep + 1) (20000 - c')))) := ⟨c + 1, false, [], _, BP0.out, rfl, .inr ⟨rfl, rfl, hb2, by omega, by omega, HGOOD.out⟩⟩
    clear BP0 SW
    go_enter Try.func134, Try.ntmps134
    go_wp2_with fail
    go_region_held3 (fun w' => w'.cell? ⟨b, off, none⟩ = some (.int .i64 k) ∧ w'.cell? ⟨b, off + 1, none⟩ = some (.int .i64 d) ∧ w'.cell? ⟨b, off + 2, none⟩ = some (.string n)) (first | exact KY.out | exact KZ.out _) (first | fail)
    go_wp2_with fail
    generalize hW : (World.alloc ((w.setCell ⟨G, 1, none⟩ (.int .i64 (c + 1))).alloc (.cells #[.int .i64 0, .int .i64 0, .string ⟨#[]⟩, .slice none 0 0] 30)) (.cells #[.int .i64 k, .int .i64 d, .string n, .slice none 0 0] 30)).drew = W at *
    clear hW z3 KY KZ HBO HBL v1 f1 y1 v2 f2
    go_loopw [46] (fun i wr => ∃ j : Nat, j ≤ ks.length ∧ i = .int .i64 j ∧ Hid (∃ (c' : Int) (g : Bool) (ys : List Ty) (v : Value), Bp w G m c' g k d n v (Ty.encs ys) wr ∧ ys.length = j ∧ ((g = true ∧ ((Ty.mk k d n ks).big deep (20000 - c)).1 = true) ∨ (g = false ∧ ys = ks.take j ∧ deep ≤ 200 ∧ 0 ≤ c' ∧ c' ≤ 20000 ∧ (Ty.mk k d n ks).big deep (20000 - c) = Ty.bigs (ks.drop j) (deep + 1) (20000 - c'))))) (fun i _ => ks.length - (intOf i).toNat)
    case atStart => exact ⟨0, Nat.zero_le _, rfl, ST.out⟩
    case round =>
      obtain ⟨j, hj, rfl, hrel⟩ := hrel
      obtain ⟨c', g, ys, v, hbp, hys, hcase⟩ := hrel.out
      have BP := Lib.hid hbp
      have BPD := Lib.hid (hbp.more (Below.refl _ _).drew)
      have LY := Lib.hid hys
      have PG := Lib.hid (hbp.put HG.out)
      have x0 : wr.cell? ⟨G, 0, none⟩ = some m := (blk_cell PG.out 0).trans rfl
      have x2 : wr.cell? ⟨G, 2, none⟩ = some (.bool g) := (blk_cell PG.out 2).trans rfl
      have WB : Hid (Below W0.heap.size W0 wr) := HB.out.trans (below_row_old hbp.below (Below.refl _ w) HGB.out HB.out.size)
      have y3 : wr.cell? ⟨w.heap.size + 1, 3, none⟩ = some v := (blk_cell hbp.out 3).trans rfl
      have z3 := K3.out _ _ BP.out.below
      have zr0 : wr.cell? ⟨w.heap.size, 0, none⟩ = some (.int .i64 0) := (blk_cell hbp.zero 0).trans rfl
      have zr1 : wr.cell? ⟨w.heap.size, 1, none⟩ = some (.int .i64 0) := (blk_cell hbp.zero 1).trans rfl
      have zr2 : wr.cell? ⟨w.heap.size, 2, none⟩ = some (.string ⟨#[]⟩) := (blk_cell hbp.zero 2).trans rfl
      have zr3 : wr.cell? ⟨w.heap.size, 3, none⟩ = some (.slice none 0 0) := (blk_cell hbp.zero 3).trans rfl
      have zf0 := blk_frozen hbp.zero 0
      have zf1 := blk_frozen hbp.zero 1
      have zf2 := blk_frozen hbp.zero 2
      have zf3 := blk_frozen hbp.zero 3
      clear hbp hys hrel
      by_cases hlt : j < ks.length
      · rcases hcase with ⟨rfl, hF⟩ | ⟨rfl, hy, hdeep, hc0, hc1, hF⟩
        · have HF := Lib.hid hF
          clear hF
          go_wp2
          refine bodyPost_ret (v := .agg #[.int .i64 0, .int .i64 0, .string ⟨#[]⟩, .slice none 0 0]) (by simp [results, Try.results134, go_sem, zr0, zr1, zr2, zr3]) rfl ⟨.mk 0 0 ⟨#[]⟩ [], [.int .i64 0, .int .i64 0, .string ⟨#[]⟩, .slice none 0 0], c', rfl, fr_none' _ _, ?_, fun h => by rw [HF.out] at h; cases h⟩
          rw [HF.out]
          exact (((BP.out.below.setCell (p := ⟨w.heap.size, 0, none⟩) (Nat.le_refl _) _).setCell (p := ⟨w.heap.size, 1, none⟩) (Nat.le_refl _) _).setCell (p := ⟨w.heap.size, 2, none⟩) (Nat.le_refl _) _).setCell (p := ⟨w.heap.size, 3, none⟩) (Nat.le_refl _) _
        · obtain ⟨b', off', es, rfl, hcl, hrd, hc⟩ := H4.out.get (i := j) (x := ks[j].enc) (by simp [Ty.encs_map, List.getElem?_eq_getElem hlt])
          have HLB : Hid (b' < W0.heap.size) := (by obtain ⟨u, hu⟩ : ∃ u, es[0]? = some u := ⟨_, List.getElem?_eq_getElem (show 0 < es.length by omega)⟩; exact cell_lt (hc 0 u hu))
          have HNB : Hid (b' ≠ G) := (by have h1 := HLB.out; have h2 := HGB.out; show _ ≠ _; omega)
          have PD : Hid (wr.drew.heap[G]? = some (.cells #[m, .int .i64 c', .bool false] 166 (0, 0))) := PG.out
          have GLR := Lib.hid (Nat.lt_of_lt_of_le GL.out (by have h1 := BP.out.below.size; rw [setRow_size] at h1; exact h1) : G < wr.heap.size)
          have CAL := Lib.hid (IH.out _ (List.getElem_mem hlt) W0 wr.drew _ b' (off' + j * 4) G m (deep + 1) c' hrd (hc.move (WB.out.drew.block b' HLB.out)) HNB.out WB.out.drew PD.out HGB.out hc0 hc1 (by omega) (by omega))
          have SM := Lib.hid (hF.trans (Ty.bigs_next hlt))
          have LF := Lib.hid (Ty.big_left ks[j] (deep + 1) (20000 - c'))
          have TK := Lib.hid (show ks.take (j + 1) = ks.take j ++ [ks[j]] by exact List.take_succ_eq_append_getElem hlt)
          have HY := Lib.hid hy
          obtain ⟨i0, hi, hz0, hz1, hz2⟩ := info_parts infoTyp
          have i1 : (0 : Int) ≤ (j : Int) := Int.natCast_nonneg _
          have i2 : (j : Int) < (ks.length : Int) := by omega
          clear hrd hcl hc hF hy
          have dw : IntKind.i64.wrap (deep + 1) = deep + 1 := IntWalk.i64_in _ (by omega)
          go_wp2_with fail
          go_region_law (first
                | (go_simp; go_at_call 134; (with_reducible refine CAL.out.mono ?_); rintro e w1 ⟨y, cs', c1, rfl, hfr, hb, hres⟩; obtain ⟨t0, t1, t2, t3, rfl⟩ := cells4 (hfr.len.trans (Ty.n _)); have SZ : Hid ((wr.drew.setRow G #[m, .int .i64 c1, .bool (ks[j].big (deep + 1) (20000 - c')).1]).heap.size = wr.heap.size) := (by show _ = _; rw [setRow_size]; rfl); have hb2 := below_size SZ.out hb; have BS := Lib.hid ((BPD.out.set GL.out c1 (ks[j].big (deep + 1) (20000 - c')).1).more hb2); have BW1 := Lib.hid hb2; have FR := Lib.hid hfr; have RES := Lib.hid hres; have BW2 := Lib.hid (BW1.out.alloc BW1.out.size (.cells #[t0, t1, t2, t3] 30)); have AL := Lib.hid (below_alloc1 w1 (.cells #[t0, t1, t2, t3] 30)); have CA := Lib.hid (cellsAt_new w1 [t0, t1, t2, t3] 30); have y3 : World.cell? _ ⟨w.heap.size + 1, 3, none⟩ = some v := (blk_cell BS.out.out 3).trans rfl; have y3b : World.cell? _ ⟨w.heap.size + 1, 3, none⟩ = some v := (blk_cell (blk_below BS.out.out AL.out) 3).trans rfl; clear hfr hb hb2 hres)
                | (refine step_push rfl _ _ 28 rfl (w.heap.size + 2) 30 i0 (.agg #[.int .i64 0, .int .i64 0, .string ⟨#[]⟩, .slice none 0 0]) 4 56 Try.underlying28 hi hz0 hz1 hz2 rfl (by decide) v (Ty.encs ys) rfl (BPD.out.set GL.out c1 (ks[j].big (deep + 1) (20000 - c')).1).grow BW2.out y.enc [t0, t1, t2, t3] (fr_size SZ.out (FR.out.below AL.out)) (Ty.n _) w1.heap.size 1 rfl CA.out (by rw [Ty.encs_length, LY.out]; omega) (by rw [Ty.encs_length, LY.out]; omega) (by rw [SZ.out]; exact BP.out.size) ?_; intro v' w2 hg' hgr' _; have B1 := Lib.hid ((BS.out.more AL.out).push hg' hgr'); obtain ⟨A', c2, hv', _, _, _⟩ := hg'.form; have hln : (Ty.encs ys ++ [y.enc]).length = j + 1 := (by rw [List.length_append, Ty.encs_length, LY.out]; rfl); rw [hln] at hv'; subst hv'; clear hln; have x3 : World.cell? _ ⟨w.heap.size + 1, 3, none⟩ = some v := (blk_cell B1.out.1 3).trans rfl; have xf : World.frozen? _ ⟨w.heap.size + 1, 3, none⟩ = false := blk_frozen B1.out.1 3; clear hg' hgr'))
          all_goals
            clear dw
            go_wp2
            go_roundw
            case rel =>
              refine ⟨j + 1, by omega, by go_num, Lib.hid ⟨c1, _, ys ++ [y], _, by rw [Ty.encs_snoc]; exact B1.out.2, by rw [List.length_append, LY.out]; rfl, ?_⟩⟩
              have sm := SM.out
              have lf := LF.out
              have res := RES.out
              generalize ks[j].big (deep + 1) (20000 - c') = q at *
              obtain ⟨q, l⟩ := q
              cases q with
              | true => exact .inl ⟨rfl, by rw [sm]; rfl⟩
              | false =>
                have h1 := lf rfl
                obtain ⟨ry, rc⟩ := res rfl
                simp only at h1 rc
                refine .inr ⟨rfl, by rw [TK.out, HY.out, ry], hdeep, by omega, by omega, ?_⟩
                rw [sm, rc, show (20000 : Int) - (20000 - l) = l by omega]
                rfl
            case measure => simp [intOf]; omega
      · obtain rfl : j = ks.length := by omega
        obtain ⟨A', c2, hv', _, _, _⟩ := BP.out.grow.form
        rw [Ty.encs_length, LY.out] at hv'
        subst hv'
        have DN := Lib.hid BP.out.done
        have HC := Lib.hid hcase
        have zo0 : wr.cell? ⟨w.heap.size + 1, 0, none⟩ = some (.int .i64 k) := (blk_cell BP.out.out 0).trans rfl
        have zo1 : wr.cell? ⟨w.heap.size + 1, 1, none⟩ = some (.int .i64 d) := (blk_cell BP.out.out 1).trans rfl
        have zo2 : wr.cell? ⟨w.heap.size + 1, 2, none⟩ = some (.string n) := (blk_cell BP.out.out 2).trans rfl
        clear hcase
        go_wp2
        refine bodyPost_ret (v := .agg #[.int .i64 k, .int .i64 d, .string n, .slice A' ks.length c2]) (by simp [results, Try.results134, go_sem, zr0, zr1, zr2, zr3]) rfl ⟨.mk k d n ys, [.int .i64 k, .int .i64 d, .string n, .slice A' ks.length c2], c', rfl, DN.out.1, ?_, ?_⟩
        · have h1 := DN.out.2
          rcases HC.out with ⟨rfl, hF⟩ | ⟨rfl, hy, hdeep, hc0, hc1, hF⟩
          · rw [hF]; exact h1
          · rw [List.drop_length, Ty.bigs] at hF
            rw [hF]; exact h1
        · intro hq
          rcases HC.out with ⟨rfl, hF⟩ | ⟨rfl, hy, hdeep, hc0, hc1, hF⟩
          · rw [hF] at hq; cases hq
          · rw [List.drop_length, Ty.bigs] at hF
            rw [hF]
            refine ⟨?_, ?_⟩
            · rw [hy, List.take_length]
            · show c' = 20000 - (20000 - c')
              omega

end Go.Proofs.Ytbbpkjcmbakfeaa
