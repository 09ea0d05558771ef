/- Types: as data, read, and what the laws' own helpers do with them; no condition. -/
import Derived.Test.YtifmnijdaboenaaFamType
namespace Go.Proofs.Ytifmnijdaboenaa
open Go.RowKit
set_option linter.unusedVariables false
set_option linter.unusedSimpArgs false

inductive Ty where
  | mk (kind id : Int) (name : ByteArray) (args : List Ty)
mutual
def Ty.enc : Ty → D
  | .mk k d n ks => .struct [.int .i64 k, .int .i64 d, .str n, .slice 4 (Ty.encs ks)]
def Ty.encs : List Ty → List D
  | [] => []
  | x :: xs => x.enc :: Ty.encs xs
end
mutual
def Ty.ok : Ty → Prop
  | .mk k d n ks => (Lit.int .i64 k).wf = true ∧ (Lit.int .i64 d).wf = true ∧ n.size ≤ 140737488351232 ∧ ks.length ≤ 140737488351232 ∧ Ty.oks ks
def Ty.oks : List Ty → Prop
  | [] => True
  | x :: xs => x.ok ∧ Ty.oks xs
end
mutual
theorem Ty.induct {P : Ty → Prop} (h : ∀ k d n ks, (∀ x ∈ ks, P x) → P (.mk k d n ks)) : ∀ x, P x
  | .mk k d n ks => h k d n ks (Ty.inducts h ks)
theorem Ty.inducts {P : Ty → Prop} (h : ∀ k d n ks, (∀ x ∈ ks, P x) → P (.mk k d n ks)) : ∀ (xs : List Ty), ∀ x ∈ xs, P x
  | [], x, hx => by cases hx
  | y :: ys, x, hx => by
    rcases List.mem_cons.1 hx with e | hx
    · rw [e]
      exact Ty.induct h y
    · exact Ty.inducts h ys x hx
end
theorem Ty.oks_mem : ∀ {xs : List Ty}, Ty.oks xs → ∀ x ∈ xs, x.ok
  | [], _, x, hx => by cases hx
  | y :: xs, h, x, hx => by
    simp only [Ty.oks] at h
    rcases List.mem_cons.1 hx with rfl | hx
    · exact h.1
    · exact Ty.oks_mem h.2 x hx
theorem Ty.encs_map (xs : List Ty) : Ty.encs xs = xs.map Ty.enc := by
  induction xs with
  | nil => rfl
  | cons x xs ih => simp [Ty.encs, ih]
theorem Ty.encs_length (xs : List Ty) : (Ty.encs xs).length = xs.length := by simp [Ty.encs_map]
theorem Ty.encs_mem {xs : List Ty} {P : D → Prop} (h : ∀ x ∈ xs, P x.enc) : ∀ y ∈ Ty.encs xs, P y := by
  rw [Ty.encs_map]
  intro y hy
  obtain ⟨x, hx, rfl⟩ := List.mem_map.1 hy
  exact h x hx
theorem Ty.n (x : Ty) : x.enc.n = 4 := by cases x; rfl
theorem Ty.open_ {w : World} {k d : Int} {n : ByteArray} {ks : List Ty} {cs : List Value} (h : Rd w (Ty.mk k d n ks).enc cs) : ∃ A c, cs = [.int .i64 k, .int .i64 d, .string n, .slice A ks.length c] ∧ ks.length ≤ c ∧ c ≤ maxLen ∧ RdRow w 4 A (Ty.encs ks) := by
  simp only [Ty.enc] at h
  obtain ⟨A, c, rfl, hs⟩ := openType h
  obtain ⟨A', c', he, h2, h3, h4⟩ := rd_slice hs
  simp only [List.cons.injEq, Value.slice.injEq, and_true] at he
  obtain ⟨rfl, _, rfl⟩ := he
  rw [Ty.encs_length] at h2
  exact ⟨A, c, by rw [Ty.encs_length], h2, h3, h4⟩
theorem Ty.sz : ∀ x : Ty, x.ok → SzA Try.prog 173 x.enc :=
  Ty.induct fun k d n ks ih h => by
    simp only [Ty.ok] at h
    exact szType_of k d n (Ty.encs ks) h.2.2.1 (szTypeS_of _ (by rw [Ty.encs_length]; exact h.2.2.2.1) (Ty.encs_mem fun x hx => ih x hx (Ty.oks_mem h.2.2.2.2 x hx)))
theorem Ty.eq : ∀ x : Ty, x.ok → EqA Try.prog 126 x.enc :=
  Ty.induct fun k d n ks ih h => by
    simp only [Ty.ok] at h
    exact eqType_of k d n (Ty.encs ks) (eqTypeS_of _ (by rw [Ty.encs_length]; exact h.2.2.2.1) (Ty.encs_mem fun x hx => ih x hx (Ty.oks_mem h.2.2.2.2 x hx)))
theorem Ty.bulk_kids {k d : Int} {n : ByteArray} {ks : List Ty} (h : (Ty.mk k d n ks).enc.bulk ≤ 1048576) : (D.slice 4 (Ty.encs ks)).bulk ≤ 1048576 := by
  simp only [Ty.enc, D.bulk, D.bulks] at h ⊢
  omega
theorem Ty.to : ∀ x : Ty, x.enc.bulk ≤ 1048576 → ToA Try.prog 175 x.enc :=
  Ty.induct fun k d n ks ih h => by
    have hb := D.bulk_slice (Ty.bulk_kids h)
    have hm : ∀ x ∈ ks, x.enc ∈ Ty.encs ks := fun x hx => by rw [Ty.encs_map]; exact List.mem_map.2 ⟨x, hx, rfl⟩
    exact toType_of k d n (Ty.encs ks) (toTypeS_of _ hb.1 (Ty.encs_mem fun x _ => x.n) (Ty.encs_mem fun x hx => ih x hx (hb.2 _ (hm x hx))))
theorem Ty.list_of {xs : List D} (h : ∀ x ∈ xs, ∃ t : Ty, x = t.enc ∧ t.ok) : ∃ ts : List Ty, xs = Ty.encs ts ∧ Ty.oks ts := by
  induction xs with
  | nil => exact ⟨[], rfl, trivial⟩
  | cons x xs ih =>
    obtain ⟨nd, rfl, ho⟩ := h x (by simp)
    obtain ⟨nds, rfl, hos⟩ := ih (fun y hy => h y (by simp [hy]))
    exact ⟨nd :: nds, rfl, ho, hos⟩
theorem opensLType : ∀ N, Opens Try.prog 176 (fun y => ∃ t : Ty, y = t.enc ∧ t.ok) N
  | 0 => opens_zero
  | N + 1 => by
    have hs : Opens Try.prog 168 _ N := (opens_slice (sz := 4) (B := 56) Try.underlying168 (by kernel_rfl) (by kernel_rfl) (by omega) (by kernel_rfl) (opensLType N)).le (Nat.le_succ N)
    refine (opens_struct Try.underlying176 (by kernel_rfl) (opensF_cons (c := 1) rfl (by kernel_rfl) (opens_int Try.underlying2 (by kernel_rfl) N) (opensF_cons (c := 1) rfl (by kernel_rfl) (opens_int Try.underlying2 (by kernel_rfl) N) (opensF_cons (c := 1) rfl (by kernel_rfl) (opens_str Try.underlying9 (by kernel_rfl) N) (opensF_cons (c := 1) rfl (by kernel_rfl) hs opensF_nil))))).imp ?_
    rintro y ⟨ys, rfl, _, _, rfl, ⟨n, rfl, hn⟩, _, _, rfl, ⟨m, rfl, hm⟩, _, _, rfl, ⟨s, rfl, hs⟩, _, _, rfl, ⟨xs, rfl, hl, hx⟩, rfl⟩
    obtain ⟨nds, rfl, hos⟩ := Ty.list_of hx
    rw [Ty.encs_length] at hl
    refine ⟨.mk n m s nds, rfl, ?_⟩
    simp only [Ty.ok]
    have hr : reachBytes = 140737488351232 := by decide
    exact ⟨hn, hm, by omega, by omega, hos⟩

end Go.Proofs.Ytifmnijdaboenaa
