/- Types without fault: their shape, how large they are; their variables in order. No program is named here but through what is imported. -/
import Derived.Test.YtbbpkjcmbakfeaaTyFault
namespace Go.Proofs.Ytbbpkjcmbakfeaa
open Go.RowKit
set_option linter.unusedVariables false
set_option linter.unusedSimpArgs false

mutual
def Ty.size : Ty → Nat
  | .mk _ _ _ ks => 1 + Ty.sizes ks
def Ty.sizes : List Ty → Nat
  | [] => 0
  | x :: xs => x.size + Ty.sizes xs
end
mutual
def Ty.wf : Ty → Prop
  | .mk k d n ks => ((k = 1 ∨ k = 2) ∧ 0 ≤ d ∧ n.toList = [] ∧ ks = []) ∨ (k = 3 ∧ d = 0 ∧ n.toList ≠ [] ∧ Ty.wfs ks)
def Ty.wfs : List Ty → Prop
  | [] => True
  | x :: xs => x.wf ∧ Ty.wfs xs
end
theorem Ty.wfs_mem : ∀ {xs : List Ty}, Ty.wfs xs → ∀ x ∈ xs, x.wf
  | [], _, x, hx => by cases hx
  | y :: xs, h, x, hx => by
    simp only [Ty.wfs] at h
    rcases List.mem_cons.1 hx with rfl | hx
    · exact h.1
    · exact Ty.wfs_mem h.2 x hx
theorem Ty.wfs_mk : ∀ {xs : List Ty}, (∀ x ∈ xs, x.wf) → Ty.wfs xs
  | [], _ => by simp [Ty.wfs]
  | y :: xs, h => by
    simp only [Ty.wfs]
    exact ⟨h y (by simp), Ty.wfs_mk fun x hx => h x (by simp [hx])⟩
theorem Ty.size_mem {xs : List Ty} {x : Ty} (h : x ∈ xs) : x.size ≤ Ty.sizes xs := by
  induction xs with
  | nil => cases h
  | cons y ys ih =>
    simp only [Ty.sizes]
    rcases List.mem_cons.1 h with rfl | h
    · omega
    · have := ih h; omega
theorem Ty.size_pos (x : Ty) : 1 ≤ x.size := by cases x; simp only [Ty.size]; omega
theorem Ty.sizes_len (xs : List Ty) : xs.length ≤ Ty.sizes xs := by
  induction xs with
  | nil => simp
  | cons x xs ih => simp only [Ty.sizes, List.length_cons]; have := x.size_pos; omega
theorem Ty.sizes_drop {xs : List Ty} {j : Nat} (h : j < xs.length) : Ty.sizes (xs.drop j) = xs[j].size + Ty.sizes (xs.drop (j + 1)) := by
  rw [List.drop_eq_getElem_cons h, Ty.sizes]
theorem Ty.sizes_take {xs : List Ty} {j : Nat} (h : j < xs.length) : Ty.sizes (xs.take (j + 1)) = Ty.sizes (xs.take j) + xs[j].size := by
  rw [List.take_succ_eq_append_getElem h]
  generalize xs.take j = l
  induction l with
  | nil => simp [Ty.sizes]
  | cons a l ih => simp only [List.cons_append, Ty.sizes, ih]; omega
theorem Ty.sizes_take_le (xs : List Ty) (j : Nat) : Ty.sizes (xs.take j) ≤ Ty.sizes xs := by
  induction xs generalizing j with
  | nil => simp [Ty.sizes]
  | cons x xs ih =>
    cases j with
    | zero => simp [Ty.sizes]
    | succ j => simp only [List.take_succ_cons, Ty.sizes]; have := ih j; omega
theorem Ty.faults_wf : ∀ (xs : List Ty), (∀ x ∈ xs, ∀ deep left, (x.fault deep left).1 = false → x.wf ∧ (x.fault deep left).2 = left - x.size) →
    ∀ deep left, (Ty.faults xs deep left).1 = false → Ty.wfs xs ∧ (Ty.faults xs deep left).2 = left - Ty.sizes xs
  | [], _, deep, left, _ => by simp [Ty.faults, Ty.wfs, Ty.sizes]
  | x :: xs, ih, deep, left, h => by
    simp only [Ty.faults] at h ⊢
    by_cases hf : (x.fault deep left).1 = true
    · rw [if_pos hf] at h; simp at h
    · have hf' : (x.fault deep left).1 = false := by simpa using hf
      rw [if_neg hf] at h
      rw [if_neg hf]
      have h1 := ih x (by simp) deep left hf'
      have h2 := Ty.faults_wf xs (fun y hy => ih y (by simp [hy])) deep _ h
      simp only [Ty.wfs, Ty.sizes]
      refine ⟨⟨h1.1, h2.1⟩, ?_⟩
      rw [h2.2, h1.2]
      omega
theorem Ty.fault_wf : ∀ (x : Ty) (deep left : Int), (x.fault deep left).1 = false → x.wf ∧ (x.fault deep left).2 = left - x.size :=
  Ty.induct fun k d n ks ih deep left h => by
    simp only [Ty.fault] at h ⊢
    split at h
    · simp at h
    · rename_i h1
      rw [if_neg h1]
      split at h
      · rename_i h2
        rw [if_pos h2]
        simp at h
        obtain ⟨h3, h4, h5⟩ := h
        subst h5
        simp only [Ty.wf, Ty.size, Ty.sizes]
        exact ⟨.inl ⟨h2, h3, h4, True.intro⟩, by omega⟩
      · rename_i h2
        rw [if_neg h2]
        split at h
        · rename_i h3
          rw [if_pos h3]
          split at h
          · simp at h
          · rename_i h4
            rw [if_neg h4]
            have h5 := Ty.faults_wf ks ih (deep + 1) (left - 1) h
            simp only [Ty.wf, Ty.size]
            exact ⟨.inr ⟨h3, by omega, fun e => h4 (.inr e), h5.1⟩, by rw [h5.2]; omega⟩
        · simp at h
/-- A type without fault. -/
theorem Ty.good {x : Ty} (h : (x.fault 1 20000).1 = false) : x.wf ∧ x.size ≤ 20000 := by
  have h1 := Ty.fault_wf x 1 20000 h
  have h2 := Ty.fault_left x 1 20000 h
  refine ⟨h1.1, ?_⟩
  have := h1.2
  omega

mutual
/-- The variables, each once, as they come. -/
def Ty.free : Ty → List Int → List Int
  | .mk k d n ks, out => if k = 1 then (if d ∈ out then out else out ++ [d]) else Ty.frees ks out
def Ty.frees : List Ty → List Int → List Int
  | [], out => out
  | x :: xs, out => Ty.frees xs (x.free out)
end
theorem Ty.frees_take {xs : List Ty} {j : Nat} (h : j < xs.length) (out : List Int) : Ty.frees (xs.take (j + 1)) out = xs[j].free (Ty.frees (xs.take j) out) := by
  rw [List.take_succ_eq_append_getElem h]
  generalize xs.take j = l
  induction l generalizing out with
  | nil => simp [Ty.frees]
  | cons a l ih => simp only [List.cons_append, Ty.frees, ih]
theorem Ty.frees_len : ∀ (xs : List Ty), (∀ x ∈ xs, ∀ out, (x.free out).length ≤ out.length + x.size) → ∀ out, (Ty.frees xs out).length ≤ out.length + Ty.sizes xs
  | [], _, out => by simp [Ty.frees, Ty.sizes]
  | x :: xs, ih, out => by
    simp only [Ty.frees, Ty.sizes]
    have h1 := ih x (by simp) out
    have h2 := Ty.frees_len xs (fun y hy => ih y (by simp [hy])) (x.free out)
    omega
theorem Ty.free_len : ∀ (x : Ty) (out : List Int), (x.free out).length ≤ out.length + x.size :=
  Ty.induct fun k d n ks ih out => by
    simp only [Ty.free, Ty.size]
    split
    · split
      · omega
      · simp only [List.length_append, List.length_singleton]; omega
    · have := Ty.frees_len ks ih out
      omega
theorem Ty.frees_all : ∀ (xs : List Ty), (∀ x ∈ xs, x.wf → ∀ (Q : Int → Prop) out, (∀ d, 0 ≤ d → Q d) → (∀ d ∈ out, Q d) → ∀ d ∈ x.free out, Q d) → Ty.wfs xs → ∀ (Q : Int → Prop) out, (∀ d, 0 ≤ d → Q d) → (∀ d ∈ out, Q d) → ∀ d ∈ Ty.frees xs out, Q d
  | [], _, _, Q, out, _, h => by simpa [Ty.frees] using h
  | x :: xs, ih, hw, Q, out, hq, h => by
    simp only [Ty.wfs] at hw
    simp only [Ty.frees]
    exact Ty.frees_all xs (fun y hy => ih y (by simp [hy])) hw.2 Q _ hq (ih x (by simp) hw.1 Q out hq h)
theorem Ty.free_all : ∀ (x : Ty), x.wf → ∀ (Q : Int → Prop) out, (∀ d, 0 ≤ d → Q d) → (∀ d ∈ out, Q d) → ∀ d ∈ x.free out, Q d :=
  Ty.induct fun k d n ks ih hw Q out hq h => by
    simp only [Ty.wf] at hw
    simp only [Ty.free]
    split
    · rename_i hk
      split
      · exact h
      · intro z hz
        rcases List.mem_append.1 hz with hz | hz
        · exact h z hz
        · rw [List.mem_singleton.1 hz]
          rcases hw with hw | hw
          · exact hq d hw.2.1
          · omega
    · rename_i hk
      rcases hw with ⟨_, _, _, rfl⟩ | hw
      · simpa [Ty.frees] using h
      · exact Ty.frees_all ks ih hw.2.2.2 Q out hq h
theorem Ty.wf_ids : ∀ (x : Ty), x.wf → x.ok → ∀ (Q : Int → Prop), (∀ d, (Lit.int .i64 d).wf = true → Q d) → ∀ out, (∀ d ∈ out, Q d) → ∀ d ∈ x.free out, Q d :=
  Ty.induct fun k d n ks ih hw ho Q hq out h => by
    simp only [Ty.wf] at hw
    simp only [Ty.ok] at ho
    simp only [Ty.free]
    split
    · split
      · exact h
      · intro z hz
        rcases List.mem_append.1 hz with hz | hz
        · exact h z hz
        · rw [List.mem_singleton.1 hz]; exact hq d ho.2.1
    · rcases hw with ⟨_, _, _, rfl⟩ | hw
      · simpa [Ty.frees] using h
      · have hws := Ty.wfs_mem hw.2.2.2
        have hos := Ty.oks_mem ho.2.2.2.2
        have key : ∀ (l : List Ty), (∀ x ∈ l, x ∈ ks) → ∀ out, (∀ d ∈ out, Q d) → ∀ d ∈ Ty.frees l out, Q d := by
          intro l
          induction l with
          | nil => intro _ out h; simpa [Ty.frees] using h
          | cons y l ihl =>
            intro hl out h
            simp only [Ty.frees]
            exact ihl (fun z hz => hl z (by simp [hz])) _ (ih y (hl y (by simp)) (hws y (hl y (by simp))) (hos y (hl y (by simp))) Q hq out h)
        exact key ks (fun _ h => h) out h

end Go.Proofs.Ytbbpkjcmbakfeaa
