/- Trees: as data, read, and what the laws' own helpers do with them; no condition. -/
import Derived.Test.YtgogfloppnhceaaFamNode
namespace Go.Proofs.Ytgogfloppnhceaa
open Go.RowKit
set_option linter.unusedVariables false
set_option linter.unusedSimpArgs false

inductive Tr where
  | mk (kind : Int) (name : ByteArray) (args : List Tr)
mutual
def Tr.enc : Tr → D
  | .mk k n ks => .struct [.int .i64 k, .str n, .slice 3 (Tr.encs ks)]
def Tr.encs : List Tr → List D
  | [] => []
  | x :: xs => x.enc :: Tr.encs xs
end
mutual
def Tr.ok : Tr → Prop
  | .mk k n ks => (Lit.int .i64 k).wf = true ∧ n.size ≤ 140737488351232 ∧ ks.length ≤ 140737488351232 ∧ Tr.oks ks
def Tr.oks : List Tr → Prop
  | [] => True
  | x :: xs => x.ok ∧ Tr.oks xs
end
mutual
theorem Tr.induct {P : Tr → Prop} (h : ∀ k n ks, (∀ x ∈ ks, P x) → P (.mk k n ks)) : ∀ x, P x
  | .mk k n ks => h k n ks (Tr.inducts h ks)
theorem Tr.inducts {P : Tr → Prop} (h : ∀ k n ks, (∀ x ∈ ks, P x) → P (.mk k n ks)) : ∀ (xs : List Tr), ∀ x ∈ xs, P x
  | [], x, hx => by cases hx
  | y :: ys, x, hx => by
    rcases List.mem_cons.1 hx with e | hx
    · rw [e]
      exact Tr.induct h y
    · exact Tr.inducts h ys x hx
end
theorem Tr.oks_mem : ∀ {xs : List Tr}, Tr.oks xs → ∀ x ∈ xs, x.ok
  | [], _, x, hx => by cases hx
  | y :: xs, h, x, hx => by
    simp only [Tr.oks] at h
    rcases List.mem_cons.1 hx with rfl | hx
    · exact h.1
    · exact Tr.oks_mem h.2 x hx
theorem Tr.encs_map (xs : List Tr) : Tr.encs xs = xs.map Tr.enc := by
  induction xs with
  | nil => rfl
  | cons x xs ih => simp [Tr.encs, ih]
theorem Tr.encs_length (xs : List Tr) : (Tr.encs xs).length = xs.length := by simp [Tr.encs_map]
theorem Tr.encs_mem {xs : List Tr} {P : D → Prop} (h : ∀ x ∈ xs, P x.enc) : ∀ y ∈ Tr.encs xs, P y := by
  rw [Tr.encs_map]
  intro y hy
  obtain ⟨x, hx, rfl⟩ := List.mem_map.1 hy
  exact h x hx
theorem Tr.n (x : Tr) : x.enc.n = 3 := by cases x; rfl
theorem Tr.open_ {w : World} {k : Int} {n : ByteArray} {ks : List Tr} {cs : List Value} (h : Rd w (Tr.mk k n ks).enc cs) : ∃ A c, cs = [.int .i64 k, .string n, .slice A ks.length c] ∧ ks.length ≤ c ∧ c ≤ maxLen ∧ RdRow w 3 A (Tr.encs ks) := by
  simp only [Tr.enc] at h
  obtain ⟨A, c, rfl, hs⟩ := openNode h
  obtain ⟨A', c', he, h2, h3, h4⟩ := rd_slice hs
  simp only [List.cons.injEq, Value.slice.injEq, and_true] at he
  obtain ⟨rfl, _, rfl⟩ := he
  rw [Tr.encs_length] at h2
  exact ⟨A, c, by rw [Tr.encs_length], h2, h3, h4⟩
theorem Tr.sz : ∀ x : Tr, x.ok → SzA Try.prog 37 x.enc :=
  Tr.induct fun k n ks ih h => by
    simp only [Tr.ok] at h
    exact szNode_of k n (Tr.encs ks) h.2.1 (szNodeS_of _ (by rw [Tr.encs_length]; exact h.2.2.1) (Tr.encs_mem fun x hx => ih x hx (Tr.oks_mem h.2.2.2 x hx)))
theorem Tr.eq : ∀ x : Tr, x.ok → EqA Try.prog 41 x.enc :=
  Tr.induct fun k n ks ih h => by
    simp only [Tr.ok] at h
    exact eqNode_of k n (Tr.encs ks) (eqNodeS_of _ (by rw [Tr.encs_length]; exact h.2.2.1) (Tr.encs_mem fun x hx => ih x hx (Tr.oks_mem h.2.2.2 x hx)))
theorem Tr.bulk_kids {k : Int} {n : ByteArray} {ks : List Tr} (h : (Tr.mk k n ks).enc.bulk ≤ 1048576) : (D.slice 3 (Tr.encs ks)).bulk ≤ 1048576 := by
  simp only [Tr.enc, D.bulk, D.bulks] at h ⊢
  omega
theorem Tr.to : ∀ x : Tr, x.enc.bulk ≤ 1048576 → ToA Try.prog 39 x.enc :=
  Tr.induct fun k n ks ih h => by
    have hb := D.bulk_slice (Tr.bulk_kids h)
    have hm : ∀ x ∈ ks, x.enc ∈ Tr.encs ks := fun x hx => by rw [Tr.encs_map]; exact List.mem_map.2 ⟨x, hx, rfl⟩
    exact toNode_of k n (Tr.encs ks) (toNodeS_of _ hb.1 (Tr.encs_mem fun x _ => x.n) (Tr.encs_mem fun x hx => ih x hx (hb.2 _ (hm x hx))))
theorem Tr.list_of {xs : List D} (h : ∀ x ∈ xs, ∃ t : Tr, x = t.enc ∧ t.ok) : ∃ ts : List Tr, xs = Tr.encs ts ∧ Tr.oks ts := by
  induction xs with
  | nil => exact ⟨[], rfl, trivial⟩
  | cons x xs ih =>
    obtain ⟨nd, rfl, ho⟩ := h x (by simp)
    obtain ⟨nds, rfl, hos⟩ := ih (fun y hy => h y (by simp [hy]))
    exact ⟨nd :: nds, rfl, ho, hos⟩
theorem opensTr : ∀ N, Opens Try.prog 63 (fun y => ∃ t : Tr, y = t.enc ∧ t.ok) N
  | 0 => opens_zero
  | N + 1 => by
    have hs : Opens Try.prog 61 _ N := (opens_slice (sz := 3) (B := 48) Try.underlying61 (by kernel_rfl) (by kernel_rfl) (by omega) (by kernel_rfl) (opensTr N)).le (Nat.le_succ N)
    refine (opens_struct Try.underlying63 (by kernel_rfl) (opensF_cons (c := 1) rfl (by kernel_rfl) (opens_int Try.underlying2 (by kernel_rfl) N) (opensF_cons (c := 1) rfl (by kernel_rfl) (opens_str Try.underlying9 (by kernel_rfl) N) (opensF_cons (c := 1) rfl (by kernel_rfl) hs opensF_nil)))).imp ?_
    rintro y ⟨ys, rfl, _, _, rfl, ⟨n, rfl, hn⟩, _, _, rfl, ⟨s, rfl, hs⟩, _, _, rfl, ⟨xs, rfl, hl, hx⟩, rfl⟩
    obtain ⟨nds, rfl, hos⟩ := Tr.list_of hx
    rw [Tr.encs_length] at hl
    refine ⟨.mk n s nds, rfl, ?_⟩
    simp only [Tr.ok]
    have hr : reachBytes = 140737488351232 := by decide
    exact ⟨hn, by omega, by omega, hos⟩

mutual
def Tr.count : Tr → Nat
  | .mk _ _ ks => 1 + Tr.counts ks
def Tr.counts : List Tr → Nat
  | [] => 0
  | x :: xs => x.count + Tr.counts xs
end
theorem Tr.counts_take {xs : List Tr} {j : Nat} (h : j < xs.length) : Tr.counts (xs.take (j + 1)) = Tr.counts (xs.take j) + xs[j].count := by
  rw [List.take_succ_eq_append_getElem h]
  have : ∀ (l : List Tr) (y : Tr), Tr.counts (l ++ [y]) = Tr.counts l + y.count := by
    intro l y
    induction l with
    | nil => simp [Tr.counts]
    | cons z l ih => simp [Tr.counts, ih]; omega
  exact this _ _
theorem Tr.counts_take_le {xs : List Tr} (j : Nat) : Tr.counts (xs.take j) ≤ Tr.counts xs := by
  induction xs generalizing j with
  | nil => simp
  | cons x xs ih =>
    cases j with
    | zero => simp [Tr.counts]
    | succ j => simp only [List.take_succ_cons, Tr.counts]; have := ih j; omega
theorem Tr.count_mem {xs : List Tr} {x : Tr} (h : x ∈ xs) : x.count ≤ Tr.counts xs := by
  induction xs with
  | nil => cases h
  | cons y ys ih =>
    simp only [Tr.counts]
    rcases List.mem_cons.1 h with rfl | h
    · omega
    · have := ih h
      omega
theorem Tr.count_bulk : ∀ x : Tr, x.count ≤ x.enc.bulk + 1 :=
  Tr.induct fun k n ks ih => by
    simp only [Tr.count, Tr.enc, D.bulk, D.bulks, Tr.encs_length]
    have : Tr.counts ks ≤ D.bulks (Tr.encs ks) + ks.length := by
      clear k n
      induction ks with
      | nil => simp [Tr.counts]
      | cons y ys ih2 =>
        have h1 := ih y (by simp)
        have h2 := ih2 (fun z hz => ih z (by simp [hz]))
        simp only [Tr.counts, Tr.encs, D.bulks, List.length_cons]
        omega
    omega

end Go.Proofs.Ytgogfloppnhceaa
