/- What the laws' own helpers do with data: counting down, comparing, copying. No program is named here. -/
import Derived.Test.YthidbmjdphfddaaDoorHq
import Derived.StillTailTactics
import Derived.Deep.QuietTactic
import Derived.BigQuiet
import Derived.WalkLawsBesides
import Derived.KernelRfl
namespace Go.Proofs.YthidbmjdphfddaaDoor
open Go.RowKit
set_option linter.unusedVariables false

mutual
/-- Letters and elements. -/
def D.bulk : D → Nat
  | .int _ _ => 0
  | .bool _ => 0
  | .str s => s.size
  | .slice _ xs => xs.length + D.bulks xs
  | .struct fs => D.bulks fs
def D.bulks : List D → Nat
  | [] => 0
  | x :: xs => x.bulk + D.bulks xs
end
theorem D.bulks_append (xs ys : List D) : D.bulks (xs ++ ys) = D.bulks xs + D.bulks ys := by
  induction xs with
  | nil => simp [D.bulks]
  | cons x xs ih => simp [D.bulks, ih, Nat.add_assoc]
theorem D.bulks_take (xs : List D) (i : Nat) (h : i < xs.length) : D.bulks (xs.take (i + 1)) = D.bulks (xs.take i) + xs[i].bulk := by
  rw [List.take_succ_eq_append_getElem h, D.bulks_append]
  simp [D.bulks]
theorem D.bulks_take_le (xs : List D) (i : Nat) : D.bulks (xs.take i) ≤ D.bulks xs := by
  conv => rhs; rw [← List.take_append_drop i xs, D.bulks_append]
  omega
theorem D.bulk_mem {xs : List D} {x : D} (h : x ∈ xs) : x.bulk ≤ D.bulks xs := by
  induction xs with
  | nil => cases h
  | cons y ys ih =>
    simp only [D.bulks]
    rcases List.mem_cons.1 h with rfl | h
    · omega
    · have := ih h
      omega

/-- What a helper that counts down leaves. -/
def szR (b : Nat) (left : Int) : Int := if left < b then -1 else left - b
theorem szR_step {a b : Nat} {left : Int} (h : 0 ≤ left - a) : szR (a + b) left = szR b (left - a) := by
  unfold szR
  split <;> split <;> omega
theorem szR_neg {a b : Nat} {left : Int} (h : left - a < 0) : szR (a + b) left = -1 := by
  unfold szR
  split <;> omega
theorem szR_of_neg {b : Nat} {left : Int} (h : szR b left < 0) (h0 : 0 ≤ left) : szR b left = -1 := by
  unfold szR at h ⊢
  split at h <;> simp_all <;> omega
theorem szR_le (b : Nat) {left : Int} (h0 : 0 ≤ left) : -1 ≤ szR b left ∧ szR b left ≤ left := by
  unfold szR
  split <;> omega
theorem szR_ge {b : Nat} {left : Int} (h : 0 ≤ szR b left) (h0 : 0 ≤ left) : szR b left = left - b := by
  unfold szR at h ⊢
  split at h
  · omega
  · rw [if_neg (by assumption)]
theorem szR_lt {b : Nat} {left : Int} (h : szR b left < 0) (h0 : 0 ≤ left) : left < b := by
  unfold szR at h
  split at h <;> omega
theorem szR_neg' {b : Nat} {left : Int} (h : left < b) : szR b left = -1 := by
  unfold szR
  rw [if_pos h]
theorem szR_pos {a b : Nat} {left : Int} (h : 0 ≤ left - a - b) : szR (a + b) left = left - a - b := by
  unfold szR
  rw [if_neg (by omega)]
  omega
theorem szR_big {b : Nat} {left : Int} (h : left < b) : szR b left < 0 := by
  unfold szR
  rw [if_pos h]
  omega
theorem szR_fit {b : Nat} {left : Int} (h : (b : Int) ≤ left) : szR b left = left - b := by
  unfold szR
  rw [if_neg (by omega)]
theorem szR_plain {b : Nat} {left : Int} (h : 0 ≤ left - b) : szR b left = left - b := szR_fit (by omega)
theorem ret_int {k : IntKind} {a b : Int} (h : a = b) : Ending.returned (.int k a) = .returned (.int k b) := by rw [h]

theorem ret_bool {a b : Bool} (h : a = b) : Ending.returned (.bool a) = .returned (.bool b) := by rw [h]
/-! A struct comes as its cells; all else as one value. -/
def SzA (P : Program) (f : FuncId) (x : D) : Prop := ∀ (w : World) (cs : List Value) (left : Int), Rd w x cs → 0 ≤ left → left ≤ 1048576 →
  Calls P f #[.agg cs.toArray, .int .i64 left] w fun e w' => e = .returned (.int .i64 (szR x.bulk left)) ∧ Below w.heap.size w w'
def SzO (P : Program) (f : FuncId) (x : D) : Prop := ∀ (w : World) (v : Value) (left : Int), Rd w x [v] → 0 ≤ left → left ≤ 1048576 →
  Calls P f #[v, .int .i64 left] w fun e w' => e = .returned (.int .i64 (szR x.bulk left)) ∧ Below w.heap.size w w'
def EqA (P : Program) (f : FuncId) (x : D) : Prop := ∀ (w : World) (cs cs' : List Value), Rd w x cs → Rd w x cs' →
  Calls P f #[.agg cs.toArray, .agg cs'.toArray] w fun e w' => e = .returned (.bool true) ∧ Below w.heap.size w w'
def EqO (P : Program) (f : FuncId) (x : D) : Prop := ∀ (w : World) (v v' : Value), Rd w x [v] → Rd w x [v'] →
  Calls P f #[v, v'] w fun e w' => e = .returned (.bool true) ∧ Below w.heap.size w w'
def ToA (P : Program) (f : FuncId) (x : D) : Prop := ∀ (w : World) (cs : List Value), Rd w x cs →
  Calls P f #[.agg cs.toArray] w fun e w' => ∃ cs', e = .returned (.agg cs'.toArray) ∧ Fr w.heap.size w' x cs' ∧ Below w.heap.size w w'
def ToO (P : Program) (f : FuncId) (x : D) : Prop := ∀ (w : World) (v : Value), Rd w x [v] →
  Calls P f #[v] w fun e w' => ∃ v', e = .returned v' ∧ Fr w.heap.size w' x [v'] ∧ Below w.heap.size w w'

/-- A slice's value. -/
theorem rd_slice1 {w : World} {sz : Nat} {xs : List D} {v : Value} (h : Rd w (.slice sz xs) [v]) : ∃ A c, v = .slice A xs.length c ∧ xs.length ≤ c ∧ c ≤ maxLen ∧ RdRow w sz A xs := by
  obtain ⟨A, c, h1, h2⟩ := rd_slice h
  exact ⟨A, c, by simpa using h1, h2⟩
theorem rd_slice1_mk {w : World} {sz : Nat} {xs : List D} {A : Option Addr} {n c : Nat} (hn : n = xs.length) (h1 : xs.length ≤ c) (h2 : c ≤ maxLen) (hp : 0 < sz) (h : RdRow w sz A xs) : Rd w (.slice sz xs) [.slice A n c] := by
  subst hn
  exact rd_slice_mk h1 h2 hp h
theorem cells1 {cs : List Value} (h : cs.length = 1) : ∃ a, cs = [a] := by
  match cs, h with
  | [a], _ => exact ⟨a, rfl⟩
theorem cells2 {cs : List Value} (h : cs.length = 2) : ∃ a b, cs = [a, b] := by
  match cs, h with
  | [a, b], _ => exact ⟨a, b, rfl⟩
theorem cells3 {cs : List Value} (h : cs.length = 3) : ∃ a b c, cs = [a, b, c] := by
  match cs, h with
  | [a, b, c], _ => exact ⟨a, b, c, rfl⟩
theorem cells4 {cs : List Value} (h : cs.length = 4) : ∃ a b c d, cs = [a, b, c, d] := by
  match cs, h with
  | [a, b, c, d], _ => exact ⟨a, b, c, d, rfl⟩
theorem cells5 {cs : List Value} (h : cs.length = 5) : ∃ a b c d e, cs = [a, b, c, d, e] := by
  match cs, h with
  | [a, b, c, d, e], _ => exact ⟨a, b, c, d, e, rfl⟩
theorem cells6 {cs : List Value} (h : cs.length = 6) : ∃ a b c d e f, cs = [a, b, c, d, e, f] := by
  match cs, h with
  | [a, b, c, d, e, f], _ => exact ⟨a, b, c, d, e, f, rfl⟩
theorem cells7 {cs : List Value} (h : cs.length = 7) : ∃ a b c d e f g, cs = [a, b, c, d, e, f, g] := by
  match cs, h with
  | [a, b, c, d, e, f, g], _ => exact ⟨a, b, c, d, e, f, g, rfl⟩
theorem cells8 {cs : List Value} (h : cs.length = 8) : ∃ a b c d e f g i, cs = [a, b, c, d, e, f, g, i] := by
  match cs, h with
  | [a, b, c, d, e, f, g, i], _ => exact ⟨a, b, c, d, e, f, g, i, rfl⟩
theorem cells9 {cs : List Value} (h : cs.length = 9) : ∃ a b c d e f g i j, cs = [a, b, c, d, e, f, g, i, j] := by
  match cs, h with
  | [a, b, c, d, e, f, g, i, j], _ => exact ⟨a, b, c, d, e, f, g, i, j, rfl⟩
/-! ### Data made between two marks: from block B on, below block C -/
def FrR (B C : Nat) (w : World) (x : D) (cs : List Value) : Prop := ∃ fp, D.K w x cs fp ∧ Own B w fp ∧ ∀ k ∈ fp, k < C
def FrFR (B C : Nat) (w : World) (xs : List D) (cs : List Value) : Prop := ∃ fp, D.Fields w xs cs fp ∧ Own B w fp ∧ ∀ k ∈ fp, k < C
theorem Fr.range {B : Nat} {w : World} {x : D} {cs : List Value} (h : Fr B w x cs) : FrR B w.heap.size w x cs := by
  obtain ⟨fp, h, ho⟩ := h
  exact ⟨fp, h, ho, D.K_lt x h⟩
theorem FrR.below {B C : Nat} {w w1 : World} {x : D} {cs : List Value} (h : FrR B C w x cs) (hb : Below w.heap.size w w1) : FrR B C w1 x cs := by
  obtain ⟨fp, h, ho, hc⟩ := h
  exact ⟨fp, D.K_move x (fun k hk => hb.block k (D.K_lt x h k hk)) hb.size h, ho.below hb, hc⟩
theorem FrR.set {B C : Nat} {w : World} {x : D} {cs : List Value} (h : FrR B C w x cs) {p : Addr} (hp : p.block < B) (v : Value) : FrR B C (w.setCell p v) x cs := by
  obtain ⟨fp, h, ho, hc⟩ := h
  have hm : ∀ k ∈ fp, (w.setCell p v).heap[k]? = w.heap[k]? := fun k hk => Below.heap_setCell w p v k (by have := (ho.2 k hk).1; omega)
  exact ⟨fp, D.K_move x hm (by simp [World.setCell]) h, ⟨ho.1, fun k hk => ⟨(ho.2 k hk).1, (ho.2 k hk).2.move (hm k hk)⟩⟩, hc⟩
theorem FrR.fr {B C : Nat} {w : World} {x : D} {cs : List Value} (h : FrR B C w x cs) : Fr B w x cs := by
  obtain ⟨fp, h, ho, _⟩ := h
  exact ⟨fp, h, ho⟩
theorem FrFR.fr {B B' C : Nat} {w : World} {xs : List D} {cs : List Value} (h : FrFR B C w xs cs) (hB : B' ≤ B) : FrF B' w xs cs := by
  obtain ⟨fp, h, ho, _⟩ := h
  exact ⟨fp, h, ho.lower hB⟩
theorem frFR_nil (B C : Nat) (w : World) : FrFR B C w [] [] := ⟨[], by simp [D.Fields], Own.nil _ _, by simp⟩
theorem frFR_plain {B C : Nat} {w : World} {x : D} {xs : List D} {c : Value} {cs : List Value} (hx : D.K w x [c] []) (h : FrFR B C w xs cs) : FrFR B C w (x :: xs) (c :: cs) := by
  obtain ⟨fp, h, ho, hc⟩ := h
  exact ⟨fp, by simp only [D.Fields]; exact ⟨[c], cs, [], fp, rfl, rfl, hx, h⟩, ho, hc⟩
theorem frFR_int {B C : Nat} {w : World} {k : IntKind} {n : Int} {xs : List D} {cs : List Value} (h : FrFR B C w xs cs) : FrFR B C w (.int k n :: xs) (.int k n :: cs) := frFR_plain (by simp [D.K]) h
theorem frFR_bool {B C : Nat} {w : World} {b : Bool} {xs : List D} {cs : List Value} (h : FrFR B C w xs cs) : FrFR B C w (.bool b :: xs) (.bool b :: cs) := frFR_plain (by simp [D.K]) h
theorem frFR_str {B C : Nat} {w : World} {s : ByteArray} {xs : List D} {cs : List Value} (h : FrFR B C w xs cs) : FrFR B C w (.str s :: xs) (.string s :: cs) := frFR_plain (by simp [D.K]) h
/-- A field made before the ones behind it. -/
theorem frFR_cons {B B1 B2 C : Nat} {w : World} {x : D} {xs : List D} {c cs : List Value} (hx : FrR B B1 w x c) (h : FrFR B2 C w xs cs) (h1 : B1 ≤ B2) (h2 : B ≤ B1) (h3 : B2 ≤ C) : FrFR B C w (x :: xs) (c ++ cs) := by
  obtain ⟨f, hx, ho, hc⟩ := hx
  obtain ⟨g, h, ho', hc'⟩ := h
  refine ⟨f ++ g, by simp only [D.Fields]; exact ⟨c, cs, f, g, rfl, rfl, hx, h⟩, ho.append (ho'.lower (by omega)) (fun k hk hk' => ?_), fun k hk => ?_⟩
  · have := hc k hk
    have := (ho'.2 k hk').1
    omega
  · rcases List.mem_append.1 hk with hk | hk
    · have := hc k hk; omega
    · exact hc' k hk
theorem blk_new_g {w : World} {o : Obj} {g : Nat} (h : g = w.heap.size) : (w.alloc o).heap[g]? = some o := by subst h; exact blk_new w o
theorem drewN_below {B : Nat} {w W : World} (h : Below B w W) (n : Nat) : Below B w (W.drewN n) := ⟨h.os, h.tape, h.output, h.size, h.block⟩
theorem D.ok_mem {sz : Nat} {xs : List D} (h : (D.slice sz xs).ok) : ∀ x ∈ xs, x.ok := by
  simp only [D.ok] at h
  exact D.okAll_mem h.2
theorem D.ok_len {sz : Nat} {xs : List D} (h : (D.slice sz xs).ok) : xs.length ≤ 140737488351232 := by
  simp only [D.ok] at h
  have hr : reachBytes = 140737488351232 := by decide
  omega
theorem D.ok_str {s : ByteArray} (h : (D.str s).ok) : s.size ≤ 140737488351232 := by
  simp only [D.ok] at h
  have hr : reachBytes = 140737488351232 := by decide
  omega
theorem D.bulk_slice {sz : Nat} {xs : List D} (h : (D.slice sz xs).bulk ≤ 1048576) : xs.length ≤ 1048576 ∧ ∀ x ∈ xs, x.bulk ≤ 1048576 := by
  simp only [D.bulk] at h
  refine ⟨by omega, fun x hx => ?_⟩
  have := D.bulk_mem hx
  omega

end Go.Proofs.YthidbmjdphfddaaDoor
