/- Types opened: the program's 'openInto'; no condition. -/
import Derived.Test.YtbbpkjcmbakfeaaOpn
namespace Go.Proofs.Ytbbpkjcmbakfeaa
open Go.RowKit
set_option linter.unusedVariables false
set_option linter.unusedSimpArgs false

mutual
/-- Are all places below the count? -/
def Ty.gens (c : Int) : Ty → Bool
  | .mk k d _ ks => (if k = 2 then decide (d < c) else true) && Ty.genss c ks
def Ty.genss (c : Int) : List Ty → Bool
  | [] => true
  | x :: xs => x.gens c && Ty.genss c xs
end
theorem Ty.genss_take (c : Int) {xs : List Ty} {j : Nat} (h : j < xs.length) : Ty.genss c (xs.take (j + 1)) = (Ty.genss c (xs.take j) && xs[j].gens c) := by
  rw [List.take_succ_eq_append_getElem h]
  generalize xs.take j = l
  induction l with
  | nil => simp [Ty.genss]
  | cons a l ih => simp only [List.cons_append, Ty.genss, ih, Bool.and_assoc]
theorem toList_nil {n : ByteArray} (h : n.toList = []) : n = ⟨#[]⟩ := by
  rw [ByteArray.toList_eq] at h
  cases n with
  | mk d => cases d; simp at h; rw [h]
/-- One cell of one block has been written, before all else. -/
theorem below_set2 {n G : Nat} {a w : World} {u u' : Value} (h : Below n (a.setCell ⟨G, 0, none⟩ u) w) (hG : G < n) : Below n (a.setCell ⟨G, 0, none⟩ u') (w.setCell ⟨G, 0, none⟩ u') := by
  refine ⟨h.os, h.tape, h.output, by simpa [World.setCell] using h.size, fun k hk => ?_⟩
  by_cases hkG : k = G
  · subst hkG
    have h1 := h.block k hk
    simp only [World.setCell, Array.getElem?_modify] at h1 ⊢
    simp only [if_true] at h1 ⊢
    rw [h1]
    cases a.heap[k]? with
    | none => rfl
    | some o => cases o <;> simp
  · rw [Below.heap_setCell w ⟨G, 0, none⟩ u' k hkG, Below.heap_setCell a ⟨G, 0, none⟩ u' k hkG, h.block k hk, Below.heap_setCell a ⟨G, 0, none⟩ u k hkG]
theorem set_self {w : World} {G : Nat} {u : Value} {T : TypeId} (h : w.heap[G]? = some (.cells #[u] T (0, 0))) : Below w.heap.size (w.setCell ⟨G, 0, none⟩ u) w := by
  refine ⟨rfl, rfl, rfl, by simp [World.setCell], fun k hk => ?_⟩
  by_cases hkG : k = G
  · subst hkG
    rw [blk_set h 0 u, h]
    rfl
  · rw [Below.heap_setCell w ⟨G, 0, none⟩ u k hkG]

/-- What the world holds while the program builds a type: the answer's block H, the type that grows in the next, the verdict in block G. -/
structure Bi (w0 : World) (G : Nat) (g : Bool) (k d : Int) (n : ByteArray) (v : Value) (ys : List D) (w : World) : Prop where
  below : Below w0.heap.size (w0.setCell ⟨G, 0, none⟩ (.bool g)) w
  zero : w.heap[w0.heap.size]? = some (.cells #[.int .i64 0, .int .i64 0, .string ⟨#[]⟩, .slice none 0 0] 30 (0, 0))
  out : w.heap[w0.heap.size + 1]? = some (.cells #[.int .i64 k, .int .i64 d, .string n, v] 30 (0, 0))
  grow : Grow (w0.heap.size + 2) w v 30 4 ys
  size : w0.heap.size + 2 ≤ w.heap.size
theorem Bi.more {w0 w w1 : World} {G : Nat} {g : Bool} {k d : Int} {n : ByteArray} {v : Value} {ys : List D} (h : Bi w0 G g k d n v ys w) (hb : Below w.heap.size w w1) : Bi w0 G g k d n v ys w1 :=
  ⟨h.below.trans (hb.mono (by have := h.size; omega)), blk_below h.zero hb, blk_below h.out hb, h.grow.below hb, Nat.le_trans h.size hb.size⟩
theorem Bi.good {w0 w : World} {G : Nat} {g : Bool} {k d : Int} {n : ByteArray} {v : Value} {ys : List D} (h : Bi w0 G g k d n v ys w) {g0 : Bool} (hg : w0.heap[G]? = some (.cells #[.bool g0] 4 (0, 0))) : w.heap[G]? = some (.cells #[.bool g] 4 (0, 0)) := by
  rw [h.below.block G (blk_lt hg)]
  exact (blk_set hg 0 _).trans rfl
theorem Bi.set {w0 w : World} {G : Nat} {g : Bool} {k d : Int} {n : ByteArray} {v : Value} {ys : List D} (h : Bi w0 G g k d n v ys w) (hG : G < w0.heap.size) (g' : Bool) : Bi w0 G g' k d n v ys (w.setCell ⟨G, 0, none⟩ (.bool g')) :=
  ⟨below_set2 h.below hG, blk_far h.zero (p := ⟨G, 0, none⟩) (by simp; omega) _, blk_far h.out (p := ⟨G, 0, none⟩) (by simp; omega) _, h.grow.grown grownBy_set (fun q hq => by injection hq with hq; subst hq; show G < w0.heap.size + 2; omega), by simpa [World.setCell] using h.size⟩
theorem Bi.push {w0 w w1 : World} {G : Nat} {g : Bool} {k d : Int} {n : ByteArray} {v v' : Value} {ys zs : List D} (h : Bi w0 G g k d n v ys w) (hg : Grow (w0.heap.size + 2) w1 v' 30 4 zs) (hw : Grew w w1 v v') :
    w1.heap[w0.heap.size + 1]? = some (.cells #[.int .i64 k, .int .i64 d, .string n, v] 30 (0, 0)) ∧ Bi w0 G g k d n v' zs (w1.setCell ⟨w0.heap.size + 1, 3, none⟩ v') := by
  have hne : ∀ q, q < w0.heap.size + 2 → some q ≠ v.ownBlock := fun q hq e => by
    have := (h.grow.bound q e.symm).1
    omega
  have h1 := hw.blk h.out (hne _ (by omega))
  refine ⟨h1, (hw.below h.below (by have := h.size; omega) (fun q hq => by have := (h.grow.bound q hq).1; omega)).setCell (by simp) _, blk_far (hw.blk h.zero (hne _ (by omega))) (p := ⟨w0.heap.size + 1, 3, none⟩) (by simp) _, (blk_set h1 3 v').trans rfl, hg.grown grownBy_set (fun q hq => by injection hq with hq; subst hq; show w0.heap.size + 1 < w0.heap.size + 2; omega), ?_⟩
  have := h.size
  have := hw.grown.size
  simp [World.setCell]
  omega
/-- What was built lies in the answer's block. -/
def setAnsI (w0 w : World) (u0 u1 u2 u3 : Value) : World := (((w.setCell ⟨w0.heap.size, 0, none⟩ u0).setCell ⟨w0.heap.size, 1, none⟩ u1).setCell ⟨w0.heap.size, 2, none⟩ u2).setCell ⟨w0.heap.size, 3, none⟩ u3
theorem Bi.done {w0 w : World} {G : Nat} {g : Bool} {k d : Int} {n : ByteArray} {v : Value} {ys : List Ty} (h : Bi w0 G g k d n v (Ty.encs ys) w) :
    Fr w0.heap.size (setAnsI w0 w (.int .i64 k) (.int .i64 d) (.string n) v) (Ty.mk k d n ys).enc [.int .i64 k, .int .i64 d, .string n, v] ∧ Below w0.heap.size (w0.setCell ⟨G, 0, none⟩ (.bool g)) (setAnsI w0 w (.int .i64 k) (.int .i64 d) (.string n) v) := by
  refine ⟨?_, (((h.below.setCell (by simp) _).setCell (by simp) _).setCell (by simp) _).setCell (by simp) _⟩
  have h1 := ((((h.grow.fr.set (p := ⟨w0.heap.size, 0, none⟩) (by simp) (.int .i64 k)).set (p := ⟨w0.heap.size, 1, none⟩) (by simp) (.int .i64 d)).set (p := ⟨w0.heap.size, 2, none⟩) (by simp) (.string n)).set (p := ⟨w0.heap.size, 3, none⟩) (by simp) v).lower (B' := w0.heap.size) (by omega)
  simp only [Ty.enc]
  rw [fr_struct]
  exact frF_int (frF_int (frF_str (frF_last h1)))

theorem below_size {a b : Nat} {w w' : World} (h : a = b) (hf : Below b w w') : Below a w w' := by subst h; exact hf
theorem fr_size {a b : Nat} {w : World} {x : D} {cs : List Value} (h : a = b) (hf : Fr b w x cs) : Fr a w x cs := by subst h; exact hf
def ImplOpn (f c : Int) (x : Ty) : Prop := ∀ (W0 w : World) (cs : List Value) (b off G : Nat) (g : Bool), Rd W0 x.enc cs → CellsAt W0 b off cs → Below W0.heap.size W0 w → w.heap[G]? = some (.cells #[.bool g] 4 (0, 0)) → W0.heap.size ≤ G →
  Calls Try.prog 78 #[.pointer (some ⟨b, off, none⟩), .int .i64 c, .int .i64 f, .pointer (some ⟨G, 0, none⟩)] w fun e w' => ∃ cs', e = .returned (.agg cs'.toArray) ∧ Fr w.heap.size w' (x.opn f).enc cs' ∧ Below w.heap.size (w.setCell ⟨G, 0, none⟩ (.bool (g && x.gens c))) w'

set_option maxRecDepth 100000 in
set_option maxHeartbeats 8000000 in
theorem ImplOpn_gen (f c d : Int) (W0 w : World) (cs : List Value) (b off G : Nat) (g : Bool) (h : Rd W0 (Ty.mk 2 d ⟨#[]⟩ []).enc cs) (hc : CellsAt W0 b off cs) (hb : Below W0.heap.size W0 w) (hg : w.heap[G]? = some (.cells #[.bool g] 4 (0, 0))) (hG : W0.heap.size ≤ G) :
    Calls Try.prog 78 #[.pointer (some ⟨b, off, none⟩), .int .i64 c, .int .i64 f, .pointer (some ⟨G, 0, none⟩)] w fun e w' => ∃ cs', e = .returned (.agg cs'.toArray) ∧ Fr w.heap.size w' (Ty.mk 1 (wrap64 (f + d)) ⟨#[]⟩ []).enc cs' ∧ Below w.heap.size (w.setCell ⟨G, 0, none⟩ (.bool (g && decide (d < c)))) w' := by
  obtain ⟨A, cp, rfl, _, _, h4⟩ := Ty.open_ h
  have z0 : ∀ o1 o2, ((w.alloc o1).alloc o2).cell? ⟨b, off, none⟩ = some (.int .i64 2) := fun o1 o2 => cell_below ((hb.alloc hb.size o1).alloc (by have := hb.size; simp; omega) o2) (by simpa using hc 0 _ rfl)
  have y0 : ∀ o1, (w.alloc o1).cell? ⟨b, off, none⟩ = some (.int .i64 2) := fun o1 => cell_below (hb.alloc hb.size o1) (by simpa using hc 0 _ rfl)
  have z1 : ∀ o1 o2, ((w.alloc o1).alloc o2).cell? ⟨b, off + 1, none⟩ = some (.int .i64 d) := fun o1 o2 => cell_below ((hb.alloc hb.size o1).alloc (by have := hb.size; simp; omega) o2) (hc 1 _ rfl)
  have y1 : ∀ o1, (w.alloc o1).cell? ⟨b, off + 1, none⟩ = some (.int .i64 d) := fun o1 => cell_below (hb.alloc hb.size o1) (hc 1 _ rfl)
  have z2 : ∀ o1 o2, ((w.alloc o1).alloc o2).cell? ⟨b, off + 2, none⟩ = some (.string ⟨#[]⟩) := fun o1 o2 => cell_below ((hb.alloc hb.size o1).alloc (by have := hb.size; simp; omega) o2) (hc 2 _ rfl)
  have y2 : ∀ o1, (w.alloc o1).cell? ⟨b, off + 2, none⟩ = some (.string ⟨#[]⟩) := fun o1 => cell_below (hb.alloc hb.size o1) (hc 2 _ rfl)
  have z3 : ∀ o1 o2, ((w.alloc o1).alloc o2).cell? ⟨b, off + 3, none⟩ = some (.slice A 0 cp) := fun o1 o2 => cell_below ((hb.alloc hb.size o1).alloc (by have := hb.size; simp; omega) o2) (hc 3 _ rfl)
  have hs := hb.setCell (p := ⟨G, 0, none⟩) hG (.bool false)
  have s1 : ∀ o1 o2, (((w.setCell ⟨G, 0, none⟩ (.bool false)).alloc o1).alloc o2).cell? ⟨b, off + 1, none⟩ = some (.int .i64 d) := fun o1 o2 => cell_below ((hs.alloc hs.size o1).alloc (Nat.le_trans hs.size (by rw [World.size_alloc]; omega)) o2) (hc 1 _ rfl)
  have s3 : ∀ o1 o2, (((w.setCell ⟨G, 0, none⟩ (.bool false)).alloc o1).alloc o2).cell? ⟨b, off + 3, none⟩ = some (.slice A 0 cp) := fun o1 o2 => cell_below ((hs.alloc hs.size o1).alloc (Nat.le_trans hs.size (by rw [World.size_alloc]; omega)) o2) (hc 3 _ rfl)
  clear hs
  have g0 : ∀ o1 o2, ((w.alloc o1).alloc o2).cell? ⟨G, 0, none⟩ = some (.bool g) := fun o1 o2 => (blk_cell (blk_old (blk_old hg o1) o2) 0).trans rfl
  have gf : ∀ o1 o2, ((w.alloc o1).alloc o2).frozen? ⟨G, 0, none⟩ = false := fun o1 o2 => blk_frozen (blk_old (blk_old hg o1) o2) 0
  have GL := Lib.hid (blk_lt hg)
  have gl : G < w.heap.size := GL.out
  have HB := Lib.hid hb
  have HG := Lib.hid hg
  clear h hc hb hg h4 hG
  by_cases hd : d < c
  · rw [decide_eq_true hd, Bool.and_true]
    go_enter Try.func78, Try.ntmps78
    go_wp2_with fail
    go_region_held3 (fun w' => w'.cell? ⟨b, off, none⟩ = some (.int .i64 2) ∧ w'.cell? ⟨b, off + 1, none⟩ = some (.int .i64 d) ∧ w'.cell? ⟨b, off + 2, none⟩ = some (.string ⟨#[]⟩))
      (first | exact ⟨y0 _, y1 _, y2 _⟩ | exact ⟨z0 _ _, z1 _ _, z2 _ _⟩)
      (first | fail)
    go_wp2_with fail
    go_loop [50] (fun i => i = .int .i64 0) (fun _ => 0)
    case atStart => rfl
    case round =>
      obtain rfl := hrel
      go_wp2_with fail
      refine bodyPost_ret (v := .agg #[.int .i64 1, .int .i64 (wrap64 (f + d)), .string ⟨#[]⟩, .slice none 0 0]) (by simp [results, Try.results78, go_sem]) rfl ⟨[.int .i64 1, .int .i64 (wrap64 (f + d)), .string ⟨#[]⟩, .slice none 0 0], rfl, ?_, ?_⟩
      · simp only [Ty.enc, Ty.encs]
        rw [fr_struct]
        exact frF_int (frF_int (frF_str (frF_last (fr_nil _ _ 4 none 0 (Nat.zero_le _)))))
      · exact (((set_self HG.out).alloc (Nat.le_refl _) _).alloc (by simp) _).drew
  · have hf : decide (d < c) = false := decide_eq_false hd
    rw [hf, Bool.and_false]
    go_enter Try.func78, Try.ntmps78
    go_wp2_with fail
    go_region_held3 (fun w' => w'.cell? ⟨b, off, none⟩ = some (.int .i64 2) ∧ w'.cell? ⟨b, off + 1, none⟩ = some (.int .i64 d) ∧ w'.cell? ⟨b, off + 2, none⟩ = some (.string ⟨#[]⟩))
      (first | exact ⟨y0 _, y1 _, y2 _⟩ | exact ⟨z0 _ _, z1 _ _, z2 _ _⟩)
      (first | fail)
    go_wp2_with fail
    go_loop [50] (fun i => i = .int .i64 0) (fun _ => 0)
    case atStart => rfl
    case round =>
      obtain rfl := hrel
      go_wp2_with fail
      refine bodyPost_ret (v := .agg #[.int .i64 1, .int .i64 (wrap64 (f + d)), .string ⟨#[]⟩, .slice none 0 0]) (by simp [results, Try.results78, go_sem]) rfl ⟨[.int .i64 1, .int .i64 (wrap64 (f + d)), .string ⟨#[]⟩, .slice none 0 0], rfl, ?_, ?_⟩
      · simp only [Ty.enc, Ty.encs]
        rw [fr_struct]
        exact frF_int (frF_int (frF_str (frF_last (fr_nil _ _ 4 none 0 (Nat.zero_le _)))))
      · exact (((Below.refl w.heap.size (w.setCell ⟨G, 0, none⟩ (.bool false))).alloc (by simp [World.setCell]) _).alloc (by simp [World.setCell]) _).drew

set_option maxRecDepth 100000 in
set_option maxHeartbeats 8000000 in
theorem ImplOpn_con (f c k d : Int) (n : ByteArray) (ks : List Ty) (hn : ks.length ≤ 1048576) (hk2 : k ≠ 2) (ih : ∀ x ∈ ks, ImplOpn f c x) : ImplOpn f c (.mk k d n ks) := by
  intro W0 w cs b off G g h hc hb hg hG
  obtain ⟨A, cp, rfl, _, _, h4⟩ := Ty.open_ h
  have hR : (Ty.mk k d n ks).opn f = .mk k d n (Ty.opns f ks) := by rw [Ty.opn, if_neg hk2]
  have hQ : (Ty.mk k d n ks).gens c = Ty.genss c ks := by rw [Ty.gens, if_neg hk2, Bool.true_and]
  rw [hR, hQ]
  have hk' : (k == 2) = false := beq_eq_false_iff_ne.2 hk2
  have C3 : Hid (∀ w', Below W0.heap.size W0 w' → w'.cell? ⟨b, off + 3, none⟩ = some (.slice A ks.length cp)) := fun w' hb => cell_below hb (hc 3 _ rfl)
  have z0 : ∀ o1 o2, ((w.alloc o1).alloc o2).cell? ⟨b, off, none⟩ = some (.int .i64 k) := fun o1 o2 => cell_below ((hb.alloc hb.size o1).alloc (by have := hb.size; simp; omega) o2) (by simpa using hc 0 _ rfl)
  have y0 : ∀ o1, (w.alloc o1).cell? ⟨b, off, none⟩ = some (.int .i64 k) := fun o1 => cell_below (hb.alloc hb.size o1) (by simpa using hc 0 _ rfl)
  have z1 : ∀ o1 o2, ((w.alloc o1).alloc o2).cell? ⟨b, off + 1, none⟩ = some (.int .i64 d) := fun o1 o2 => cell_below ((hb.alloc hb.size o1).alloc (by have := hb.size; simp; omega) o2) (hc 1 _ rfl)
  have y1 : ∀ o1, (w.alloc o1).cell? ⟨b, off + 1, none⟩ = some (.int .i64 d) := fun o1 => cell_below (hb.alloc hb.size o1) (hc 1 _ rfl)
  have z2 : ∀ o1 o2, ((w.alloc o1).alloc o2).cell? ⟨b, off + 2, none⟩ = some (.string n) := fun o1 o2 => cell_below ((hb.alloc hb.size o1).alloc (by have := hb.size; simp; omega) o2) (hc 2 _ rfl)
  have y2 : ∀ o1, (w.alloc o1).cell? ⟨b, off + 2, none⟩ = some (.string n) := fun o1 => cell_below (hb.alloc hb.size o1) (hc 2 _ rfl)
  have z3 : ∀ o1 o2, ((w.alloc o1).alloc o2).cell? ⟨b, off + 3, none⟩ = some (.slice A ks.length cp) := fun o1 o2 => cell_below ((hb.alloc hb.size o1).alloc (by have := hb.size; simp; omega) o2) (hc 3 _ rfl)
  have GL := Lib.hid (blk_lt hg)
  have HB := Lib.hid hb
  have HG := Lib.hid hg
  have HGB := Lib.hid hG
  have IH := Lib.hid ih
  have H4 := Lib.hid h4
  have BI0 : Hid (Bi w G g k d n (.slice none 0 0) [] ((w.alloc (.cells #[.int .i64 0, .int .i64 0, .string ⟨#[]⟩, .slice none 0 0] 30)).alloc (.cells #[.int .i64 k, .int .i64 d, .string n, .slice none 0 0] 30)).drew) :=
    ⟨(((set_self hg).alloc (Nat.le_refl _) _).alloc (by simp) _).drew, blk_old (blk_new _ _) _, blk_new_g (by simp), Grow.nil _ _ _ _, by simp⟩
  have CW : Hid (∀ w', Below w.heap.size (w.setCell ⟨G, 0, none⟩ (.bool g)) w' → Below W0.heap.size W0 w') := fun w' h => (hb.setCell (p := ⟨G, 0, none⟩) hG (.bool g)).trans (h.mono hb.size)
  clear h hc hb hg hG h4 ih hR hQ hk2 CW
  go_enter Try.func78, Try.ntmps78
  go_wp2_with fail
  go_region_held3 (fun w' => w'.cell? ⟨b, off, none⟩ = some (.int .i64 k) ∧ w'.cell? ⟨b, off + 1, none⟩ = some (.int .i64 d) ∧ w'.cell? ⟨b, off + 2, none⟩ = some (.string n))
    (first | exact ⟨y0 _, y1 _, y2 _⟩ | exact ⟨z0 _ _, z1 _ _, z2 _ _⟩)
    (first | fail)
  go_wp2_with fail
  generalize hW : ((w.alloc (.cells #[.int .i64 0, .int .i64 0, .string ⟨#[]⟩, .slice none 0 0] 30)).alloc (.cells #[.int .i64 k, .int .i64 d, .string n, .slice none 0 0] 30)).drew = W at *
  clear hW z0 z1 z2 z3 y0 y1 y2
  go_loopw [50] (fun i wr => ∃ j : Nat, j ≤ ks.length ∧ i = .int .i64 j ∧ Hid (∃ v, Bi w G (g && Ty.genss c (ks.take j)) k d n v (Ty.encs (Ty.opns f (ks.take j))) wr)) (fun i _ => ks.length - (intOf i).toNat)
  case atStart => exact ⟨0, Nat.zero_le _, rfl, Lib.hid ⟨_, by simpa [Ty.opns, Ty.encs, Ty.genss] using BI0.out⟩⟩
  case round =>
    obtain ⟨j, hj, rfl, hrel⟩ := hrel
    obtain ⟨v, hbi⟩ := hrel.out
    obtain ⟨g1, hg1⟩ : ∃ g1, g1 = (g && Ty.genss c (ks.take j)) := ⟨_, rfl⟩
    rw [← hg1] at hbi
    have HG1 := Lib.hid hg1
    have BI := Lib.hid hbi
    have WB : Hid (Below W0.heap.size W0 wr) := (HB.out.setCell (p := ⟨G, 0, none⟩) HGB.out (.bool g1)).trans (hbi.below.mono HB.out.size)
    have GG := Lib.hid (hbi.good HG.out)
    have BID := Lib.hid (hbi.more (Below.refl _ _).drew)
    have y3 : wr.cell? ⟨w.heap.size + 1, 3, none⟩ = some v := (blk_cell hbi.out 3).trans rfl
    have z3 := C3.out _ WB.out
    clear hrel hbi hg1
    by_cases hlt : j < ks.length
    · obtain ⟨b', off', es, rfl, hcl, hrd, hc⟩ := H4.out.get (i := j) (x := ks[j].enc) (by simp [Ty.encs_map, List.getElem?_eq_getElem hlt])
      have CAL := Lib.hid (IH.out _ (List.getElem_mem hlt) W0 wr.drew _ b' (off' + j * 4) G g1 hrd hc (WB.out.drew) GG.out HGB.out)
      have TK := Lib.hid (show Ty.encs (Ty.opns f (ks.take (j + 1))) = Ty.encs (Ty.opns f (ks.take j)) ++ [(ks[j].opn f).enc] by rw [Ty.opns_map, Ty.opns_map, map_take_snoc _ hlt, Ty.encs_snoc])
      have TG := Lib.hid (Ty.genss_take c hlt)
      have LN := Lib.hid (show (Ty.encs (Ty.opns f (ks.take j))).length = j by rw [Ty.encs_length, Ty.opns_map, List.length_map, List.length_take]; omega)
      have LN1 := Lib.hid (show (Ty.encs (Ty.opns f (ks.take j)) ++ [(ks[j].opn f).enc]).length = j + 1 by rw [List.length_append, LN.out]; rfl)
      obtain ⟨i0, hi, hz0, hz1, hz2⟩ := info_parts infoTyp
      have i1 : (0 : Int) ≤ (j : Int) := Int.natCast_nonneg _
      have i2 : (j : Int) < (ks.length : Int) := by omega
      clear hrd hcl hc
      go_wp2_with fail
      go_region_law (first
            | (go_simp; go_at_call 78; (with_reducible refine CAL.out.mono ?_); rintro e w1 ⟨cs', rfl, hfr, hb⟩; obtain ⟨t0, t1, t2, t3, rfl⟩ := cells4 (hfr.len.trans (Ty.n _)); have SZ : Hid ((wr.drew.setCell ⟨G, 0, none⟩ (.bool (g1 && ks[j].gens c))).heap.size = wr.heap.size) := (by show _ = _; simp [World.setCell]); have hb2 := below_size SZ.out hb; have BS := Lib.hid ((BID.out.set GL.out (g1 && ks[j].gens c)).more hb2); have BW1 := Lib.hid hb2; have FR := Lib.hid hfr; have BW2 := Lib.hid (BW1.out.alloc BW1.out.size (.cells #[t0, t1, t2, t3] 30)); have AL := Lib.hid (below_alloc1 w1 (.cells #[t0, t1, t2, t3] 30)); have CA := Lib.hid (cellsAt_new w1 [t0, t1, t2, t3] 30); have y3 : World.cell? _ ⟨w.heap.size + 1, 3, none⟩ = some v := (blk_cell BS.out.out 3).trans rfl; have y3b : World.cell? _ ⟨w.heap.size + 1, 3, none⟩ = some v := (blk_cell (blk_below BS.out.out AL.out) 3).trans rfl; clear hfr hb hb2)
            | (refine step_push rfl _ _ 28 rfl (w.heap.size + 2) 30 i0 (.agg #[.int .i64 0, .int .i64 0, .string ⟨#[]⟩, .slice none 0 0]) 4 56 Try.underlying28 hi hz0 hz1 hz2 rfl (by decide) v (Ty.encs (Ty.opns f (ks.take j))) rfl (BID.out.set GL.out (g1 && ks[j].gens c)).grow BW2.out (ks[j].opn f).enc [t0, t1, t2, t3] (fr_size SZ.out (FR.out.below AL.out)) (Ty.n _) w1.heap.size 1 rfl CA.out (by rw [LN.out]; omega) (by rw [LN.out]; omega) (by rw [SZ.out]; exact BI.out.size) ?_; intro v' w2 hg' hgr' _; have B1 := Lib.hid ((BS.out.more AL.out).push hg' hgr'); obtain ⟨A', c', hv', _, _, _⟩ := hg'.form; rw [LN1.out] at hv'; subst hv'; have x3 : World.cell? _ ⟨w.heap.size + 1, 3, none⟩ = some v := (blk_cell B1.out.1 3).trans rfl; have xf : World.frozen? _ ⟨w.heap.size + 1, 3, none⟩ = false := blk_frozen B1.out.1 3; clear hg' hgr'))
      all_goals
        go_wp2
        go_roundw
        case rel => exact ⟨j + 1, by omega, by go_num, Lib.hid ⟨_, by rw [TK.out, TG.out, ← Bool.and_assoc, ← HG1.out]; exact B1.out.2⟩⟩
        case measure => simp [intOf]; omega
    · obtain rfl : j = ks.length := by omega
      have hd := BI.out
      rw [List.take_length] at hd
      have hd := Bi.done hd
      obtain ⟨A', c', hv', _, _, _⟩ := BI.out.grow.form
      rw [List.take_length, Ty.encs_length, Ty.opns_map, List.length_map] at hv'
      subst hv'
      have hg2 := HG1.out
      rw [List.take_length] at hg2
      rw [hg2] at hd
      have DN := Lib.hid hd
      have zo0 : wr.cell? ⟨w.heap.size + 1, 0, none⟩ = some (.int .i64 k) := (blk_cell BI.out.out 0).trans rfl
      have zo1 : wr.cell? ⟨w.heap.size + 1, 1, none⟩ = some (.int .i64 d) := (blk_cell BI.out.out 1).trans rfl
      have zo2 : wr.cell? ⟨w.heap.size + 1, 2, none⟩ = some (.string n) := (blk_cell BI.out.out 2).trans rfl
      have zr0 : wr.cell? ⟨w.heap.size, 0, none⟩ = some (.int .i64 0) := (blk_cell BI.out.zero 0).trans rfl
      have zr1 : wr.cell? ⟨w.heap.size, 1, none⟩ = some (.int .i64 0) := (blk_cell BI.out.zero 1).trans rfl
      have zr2 : wr.cell? ⟨w.heap.size, 2, none⟩ = some (.string ⟨#[]⟩) := (blk_cell BI.out.zero 2).trans rfl
      have zr3 : wr.cell? ⟨w.heap.size, 3, none⟩ = some (.slice none 0 0) := (blk_cell BI.out.zero 3).trans rfl
      have zf0 := blk_frozen BI.out.zero 0
      have zf1 := blk_frozen BI.out.zero 1
      have zf2 := blk_frozen BI.out.zero 2
      have zf3 := blk_frozen BI.out.zero 3
      clear hd hg2
      go_wp2
      refine bodyPost_ret (v := .agg #[.int .i64 k, .int .i64 d, .string n, .slice A' ks.length c']) (by simp [results, Try.results78, go_sem, zr0, zr1, zr2, zr3]) rfl ⟨[.int .i64 k, .int .i64 d, .string n, .slice A' ks.length c'], rfl, DN.out.1, DN.out.2⟩

theorem ImplOpn_all (f c : Int) : ∀ (x : Ty), x.wf → x.enc.bulk ≤ 1048576 → ImplOpn f c x :=
  Ty.induct fun k d n ks ih hw hl => by
    have hw' := hw
    simp only [Ty.wf] at hw'
    have hb := D.bulk_slice (Ty.bulk_kids hl)
    rw [Ty.encs_length] at hb
    have hm : ∀ x ∈ ks, x.enc ∈ Ty.encs ks := fun x hx => by rw [Ty.encs_map]; exact List.mem_map.2 ⟨x, hx, rfl⟩
    by_cases hk : k = 2
    · rcases hw' with ⟨_, _, hn, rfl⟩ | hw'
      · subst hk
        have := toList_nil hn
        subst this
        intro W0 w cs b off G g h hc hb hg hG
        have hR : (Ty.mk 2 d ⟨#[]⟩ []).opn f = .mk 1 (wrap64 (f + d)) ⟨#[]⟩ [] := by rw [Ty.opn, if_pos rfl]
        have hQ : (Ty.mk 2 d ⟨#[]⟩ []).gens c = decide (d < c) := by rw [Ty.gens, if_pos rfl, Ty.genss, Bool.and_true]
        rw [hR, hQ]
        exact ImplOpn_gen f c d W0 w cs b off G g h hc hb hg hG
      · omega
    · refine ImplOpn_con f c k d n ks (by have := hb.1; omega) hk fun x hx => ih x hx ?_ (hb.2 _ (hm x hx))
      rcases hw' with ⟨_, _, _, rfl⟩ | hw'
      · cases hx
      · exact Ty.wfs_mem hw'.2.2.2 x hx
theorem SpecOpn_all (f : Int) : ∀ (x : Ty), x.enc.bulk ≤ 1048576 → SpecOpn f x :=
  Ty.induct fun k d n ks ih hl => by
    have hb := D.bulk_slice (Ty.bulk_kids hl)
    rw [Ty.encs_length] at hb
    have hm : ∀ x ∈ ks, x.enc ∈ Ty.encs ks := fun x hx => by rw [Ty.encs_map]; exact List.mem_map.2 ⟨x, hx, rfl⟩
    exact SpecOpn_of f k d n ks (by have := hb.1; omega) fun x hx => ih x hx (hb.2 _ (hm x hx))

end Go.Proofs.Ytbbpkjcmbakfeaa
