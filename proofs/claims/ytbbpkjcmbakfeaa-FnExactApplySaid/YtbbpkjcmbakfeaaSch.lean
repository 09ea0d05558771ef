/- Schemes and their premises as data: what the laws' helpers do with them; no condition. -/
import Derived.Test.YtbbpkjcmbakfeaaTyMk
import Derived.Test.YtbbpkjcmbakfeaaTyWf
import Derived.Test.YtbbpkjcmbakfeaaFmPred
import Derived.Test.YtbbpkjcmbakfeaaFmScheme
import Derived.Test.YtbbpkjcmbakfeaaFamScheme
namespace Go.Proofs.Ytbbpkjcmbakfeaa
open Go.RowKit
set_option linter.unusedVariables false
set_option linter.unusedSimpArgs false

theorem reach47 : reachBytes = 140737488351232 := by decide
def predD (p : ByteArray × Int) : D := .struct [.str p.1, .int .i64 p.2]
def predsD (ps : List (ByteArray × Int)) : List D := ps.map predD
theorem predsD_length (ps : List (ByteArray × Int)) : (predsD ps).length = ps.length := by simp [predsD]
def predOk (p : ByteArray × Int) : Prop := p.1.size ≤ 140737488351232 ∧ (Lit.int .i64 p.2).wf = true
theorem predsD_mem {ps : List (ByteArray × Int)} {P : D → Prop} (h : ∀ p ∈ ps, P (predD p)) : ∀ y ∈ predsD ps, P y := by
  intro y hy
  obtain ⟨p, hp, rfl⟩ := List.mem_map.1 hy
  exact h p hp
theorem preds_sz (ps : List (ByteArray × Int)) (hn : ps.length ≤ 140737488351232) (h : ∀ p ∈ ps, predOk p) : SzO Try.prog 37 (.slice 2 (predsD ps)) :=
  szPredS_of _ (by rw [predsD_length]; exact hn) (predsD_mem fun p hp => szPred_of p.1 p.2 (h p hp).1)
theorem preds_eq (ps : List (ByteArray × Int)) (hn : ps.length ≤ 140737488351232) : EqO Try.prog 42 (.slice 2 (predsD ps)) :=
  eqPredS_of _ (by rw [predsD_length]; exact hn) (predsD_mem fun p hp => eqPred_of p.1 p.2)
theorem preds_to (ps : List (ByteArray × Int)) (hb : (D.slice 2 (predsD ps)).bulk ≤ 1048576) : ToO Try.prog 39 (.slice 2 (predsD ps)) :=
  toPredS_of _ (D.bulk_slice hb).1 (predsD_mem fun p _ => rfl) (predsD_mem fun p hp => toPred_of p.1 p.2)
theorem preds_mk (ps : List (ByteArray × Int)) (hn : ps.length ≤ 140737488351232) : MkO Try.prog 43 (.slice 2 (predsD ps)) :=
  markPredS_of _ (by rw [predsD_length]; exact hn) (predsD_mem fun p _ => ⟨p.1, p.2, rfl⟩)
theorem preds_hd (ps : List (ByteArray × Int)) (hn : ps.length ≤ 140737488351232) : HdO Try.prog 75 (.slice 2 (predsD ps)) :=
  heldPredS_of _ (by rw [predsD_length]; exact hn) (predsD_mem fun p _ => ⟨p.1, p.2, rfl⟩)
theorem preds_cnt (ps : List (ByteArray × Int)) : D.cnts (predsD ps) = 2 * ps.length := by
  induction ps with
  | nil => rfl
  | cons p ps ih =>
    simp only [predsD, List.map_cons, D.cnts, predD, D.cnt, List.length_cons] at ih ⊢
    omega
theorem preds_bulk (ps : List (ByteArray × Int)) : ps.length ≤ (D.slice 2 (predsD ps)).bulk := by simp only [D.bulk, predsD_length]; omega

/-- A scheme as data. -/
def schD (c : Int) (ps : List (ByteArray × Int)) (x : Ty) : D := .struct [.int .i64 c, .slice 2 (predsD ps), x.enc]
theorem sch_sz (c : Int) (ps : List (ByteArray × Int)) (x : Ty) (hn : ps.length ≤ 140737488351232) (h : ∀ p ∈ ps, predOk p) (ho : x.ok) : SzA Try.prog 26 (schD c ps x) := by
  have h1 := Ty.sz x ho
  cases x with
  | mk k d n ks => exact szScheme_of c (predsD ps) k d n (Ty.encs ks) (preds_sz ps hn h) h1
theorem sch_eq (c : Int) (ps : List (ByteArray × Int)) (x : Ty) (hn : ps.length ≤ 140737488351232) (ho : x.ok) : EqA Try.prog 23 (schD c ps x) := by
  have h1 := Ty.eq x ho
  cases x with
  | mk k d n ks => exact eqScheme_of c (predsD ps) k d n (Ty.encs ks) (preds_eq ps hn) h1
theorem sch_bulk (c : Int) (ps : List (ByteArray × Int)) (x : Ty) : (schD c ps x).bulk = (D.slice 2 (predsD ps)).bulk + x.enc.bulk := by simp only [schD, D.bulk, D.bulks]; omega
theorem sch_to (c : Int) (ps : List (ByteArray × Int)) (x : Ty) (hb : (schD c ps x).bulk ≤ 1048576) : ToA Try.prog 28 (schD c ps x) := by
  rw [sch_bulk] at hb
  have h1 := Ty.to x (by omega)
  have h2 := preds_to ps (by omega)
  cases x with
  | mk k d n ks => exact toScheme_of c (predsD ps) k d n (Ty.encs ks) h2 h1
theorem sch_mk (c : Int) (ps : List (ByteArray × Int)) (x : Ty) (hn : ps.length ≤ 140737488351232) (ho : x.ok) : MkA Try.prog 24 (schD c ps x) := by
  have h1 := Ty.mkA x ho
  cases x with
  | mk k d n ks => exact markScheme_of c (predsD ps) k d n (Ty.encs ks) (preds_mk ps hn) h1
theorem sch_hd (c : Int) (ps : List (ByteArray × Int)) (x : Ty) (hn : ps.length ≤ 140737488351232) (ho : x.ok) : HdA Try.prog 25 (schD c ps x) := by
  have h1 := Ty.hdA x ho
  cases x with
  | mk k d n ks => exact heldScheme_of c (predsD ps) k d n (Ty.encs ks) (preds_hd ps hn) h1
theorem sch_tcnt (c : Int) (ps : List (ByteArray × Int)) (x : Ty) : (schD c ps x).tcnt = 2 * ps.length + x.enc.tcnt := by
  simp only [schD, D.tcnt, D.tcnts, preds_cnt]
  omega
theorem sch_tcnt_le (c : Int) (ps : List (ByteArray × Int)) (x : Ty) : (schD c ps x).tcnt ≤ 3 * (schD c ps x).bulk := by
  rw [sch_tcnt, sch_bulk]
  have h1 := preds_bulk ps
  have h2 := Ty.tcnt_le x
  omega
theorem Ty.cnts_size : ∀ (xs : List Ty), (∀ x ∈ xs, x.enc.cnt = 3 * x.size) → D.cnts (Ty.encs xs) = 3 * Ty.sizes xs
  | [], _ => rfl
  | x :: xs, ih => by
    simp only [Ty.encs, D.cnts, Ty.sizes]
    have h1 := ih x (by simp)
    have h2 := Ty.cnts_size xs (fun y hy => ih y (by simp [hy]))
    omega
theorem Ty.cnt_size : ∀ x : Ty, x.enc.cnt = 3 * x.size :=
  Ty.induct fun k d n ks ih => by
    have := Ty.cnts_size ks ih
    simp only [Ty.enc, D.cnt, D.cnts, Ty.size]
    omega
theorem Ty.tcnt_size (x : Ty) : x.enc.tcnt ≤ 3 * x.size := by
  cases x with
  | mk k d n ks =>
    have := Ty.cnts_size ks (fun y _ => Ty.cnt_size y)
    simp only [Ty.enc, D.tcnt, D.tcnts, Ty.size]
    omega
theorem wf_wrap64 (z : Int) : (Lit.int .i64 (wrap64 z)).wf = true := by
  have e1 : IntKind.i64.min = -9223372036854775808 := by decide
  have e2 : IntKind.i64.max = 9223372036854775807 := by decide
  have : IntKind.i64.min ≤ wrap64 z ∧ wrap64 z ≤ IntKind.i64.max := by rw [e1, e2]; unfold wrap64; omega
  simpa [Lit.wf] using this

theorem list_of {α : Type} {f : α → D} {Q : α → Prop} {xs : List D} (h : ∀ x ∈ xs, ∃ a, x = f a ∧ Q a) : ∃ l : List α, xs = l.map f ∧ ∀ a ∈ l, Q a := by
  induction xs with
  | nil => exact ⟨[], rfl, by simp⟩
  | cons x xs ih =>
    obtain ⟨a, rfl, ha⟩ := h x (by simp)
    obtain ⟨l, rfl, hl⟩ := ih (fun y hy => h y (by simp [hy]))
    exact ⟨a :: l, rfl, fun b hb => by
      rcases List.mem_cons.1 hb with rfl | hb
      · exact ha
      · exact hl b hb⟩
theorem opensLPred (N : Nat) : Opens Try.prog 127 (fun y => ∃ p, y = predD p ∧ predOk p) N := by
  refine ((opens_struct (N := N) Try.underlying127 (by kernel_rfl) (opensF_cons (c := 1) rfl (by kernel_rfl) (opens_str Try.underlying9 (by kernel_rfl) N) (opensF_cons (c := 1) rfl (by kernel_rfl) (opens_int Try.underlying2 (by kernel_rfl) N) opensF_nil))).le (Nat.le_succ N)).imp ?_
  rintro y ⟨ys, rfl, _, _, rfl, ⟨s, rfl, hs⟩, _, _, rfl, ⟨n, rfl, hn⟩, rfl⟩
  exact ⟨(s, n), rfl, by rw [reach47] at hs; exact hs, hn⟩
theorem opensLPreds (N : Nat) : Opens Try.prog 44 (fun y => ∃ ps, y = D.slice 2 (predsD ps) ∧ ps.length ≤ 140737488351232 ∧ ∀ p ∈ ps, predOk p) N := by
  refine ((opens_slice (sz := 2) (B := 24) Try.underlying44 (by kernel_rfl) (by kernel_rfl) (by omega) (by kernel_rfl) (opensLPred N)).le (Nat.le_succ N)).imp ?_
  rintro y ⟨xs, rfl, hl, hx⟩
  obtain ⟨l, rfl, hw⟩ := list_of hx
  have hr := reach47
  rw [List.length_map] at hl
  exact ⟨l, rfl, by omega, hw⟩
theorem opensLScheme (N : Nat) : Opens Try.prog 46 (fun y => ∃ c ps x, y = schD c ps x ∧ (Lit.int .i64 c).wf = true ∧ ps.length ≤ 140737488351232 ∧ (∀ p ∈ ps, predOk p) ∧ x.ok) N := by
  refine ((opens_struct (N := N) Try.underlying46 (by kernel_rfl) (opensF_cons (c := 1) rfl (by kernel_rfl) (opens_int Try.underlying2 (by kernel_rfl) N) (opensF_cons (c := 1) rfl (by kernel_rfl) (opensLPreds N) (opensF_cons (c := 4) rfl (by kernel_rfl) (opensLType N) opensF_nil)))).le (Nat.le_succ N)).imp ?_
  rintro y ⟨ys, rfl, _, _, rfl, ⟨c, rfl, hc⟩, _, _, rfl, ⟨ps, rfl, hl, hp⟩, _, _, rfl, ⟨x, rfl, hx⟩, rfl⟩
  exact ⟨c, ps, x, rfl, hc, hl, hp, hx⟩

end Go.Proofs.Ytbbpkjcmbakfeaa
