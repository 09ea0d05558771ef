/- Binds as data: what the laws' helpers do with them; what applying leaves; no condition. -/
import Derived.Test.YtbbpkjcmbakfeaaAppT
import Derived.Test.YtbbpkjcmbakfeaaSch
import Derived.Test.YtbbpkjcmbakfeaaFamBind
import Derived.Test.YtbbpkjcmbakfeaaFmBind
namespace Go.Proofs.Ytbbpkjcmbakfeaa
open Go.RowKit
set_option linter.unusedVariables false
set_option linter.unusedSimpArgs false

theorem bindsD_mem {bs : List (Int × Ty)} {P : D → Prop} (h : ∀ p ∈ bs, P (bindD p)) : ∀ y ∈ bindsD bs, P y := by
  intro y hy
  obtain ⟨p, hp, rfl⟩ := List.mem_map.1 hy
  exact h p hp
def bindOk (p : Int × Ty) : Prop := (Lit.int .i64 p.1).wf = true ∧ p.2.ok
theorem bind_sz (p : Int × Ty) (h : p.2.ok) : SzA Try.prog 80 (bindD p) := by
  have h1 := Ty.sz p.2 h
  obtain ⟨i, x⟩ := p
  cases x with
  | mk k d n ks => exact szBind_of i k d n (Ty.encs ks) h1
theorem bind_eq (p : Int × Ty) (h : p.2.ok) : EqA Try.prog 86 (bindD p) := by
  have h1 := Ty.eq p.2 h
  obtain ⟨i, x⟩ := p
  cases x with
  | mk k d n ks => exact eqBind_of i k d n (Ty.encs ks) h1
theorem bind_bulk (p : Int × Ty) : (bindD p).bulk = p.2.enc.bulk := by simp only [bindD, D.bulk, D.bulks]; omega
theorem bind_to (p : Int × Ty) (h : p.2.enc.bulk ≤ 1048576) : ToA Try.prog 84 (bindD p) := by
  have h1 := Ty.to p.2 h
  obtain ⟨i, x⟩ := p
  cases x with
  | mk k d n ks => exact toBind_of i k d n (Ty.encs ks) h1
theorem binds_sz (bs : List (Int × Ty)) (hn : bs.length ≤ 140737488351232) (h : ∀ p ∈ bs, bindOk p) : SzO Try.prog 31 (.slice 5 (bindsD bs)) :=
  szBindS_of _ (by rw [bindsD_length]; exact hn) (bindsD_mem fun p hp => bind_sz p (h p hp).2)
theorem binds_eq (bs : List (Int × Ty)) (hn : bs.length ≤ 140737488351232) (h : ∀ p ∈ bs, bindOk p) : EqO Try.prog 35 (.slice 5 (bindsD bs)) :=
  eqBindS_of _ (by rw [bindsD_length]; exact hn) (bindsD_mem fun p hp => bind_eq p (h p hp).2)
theorem binds_to (bs : List (Int × Ty)) (hb : (D.slice 5 (bindsD bs)).bulk ≤ 1048576) : ToO Try.prog 33 (.slice 5 (bindsD bs)) := by
  have h := D.bulk_slice hb
  refine toBindS_of _ h.1 (bindsD_mem fun p _ => by simp only [bindD, D.n, D.nAll]; have := p.2.n; omega) (bindsD_mem fun p hp => bind_to p ?_)
  rw [← bind_bulk]
  exact h.2 _ (List.mem_map.2 ⟨p, hp, rfl⟩)
theorem binds_mk (bs : List (Int × Ty)) (hn : bs.length ≤ 140737488351232) (h : ∀ p ∈ bs, bindOk p) : MkO Try.prog 36 (.slice 5 (bindsD bs)) := by
  refine markBindS_of _ (by rw [bindsD_length]; exact hn) (bindsD_mem fun p hp => ?_)
  have h1 := Ty.mkS p.2 (h p hp).2
  obtain ⟨i, x⟩ := p
  cases x with
  | mk k d n ks => exact ⟨i, k, d, n, Ty.encs ks, rfl, h1⟩
theorem binds_hd (bs : List (Int × Ty)) (hn : bs.length ≤ 140737488351232) (h : ∀ p ∈ bs, bindOk p) : HdO Try.prog 100 (.slice 5 (bindsD bs)) := by
  refine heldBindS_of _ (by rw [bindsD_length]; exact hn) (bindsD_mem fun p hp => ?_)
  have h1 := Ty.hdS p.2 (h p hp).2
  obtain ⟨i, x⟩ := p
  cases x with
  | mk k d n ks => exact ⟨i, k, d, n, Ty.encs ks, rfl, h1⟩
theorem binds_cnt : ∀ (bs : List (Int × Ty)), D.cnts (bindsD bs) ≤ 4 * bs.length + 3 * D.bulks (bindsD bs)
  | [] => by simp [bindsD, D.cnts]
  | p :: bs => by
    have h1 := Ty.cnt_le p.2
    have h2 := binds_cnt bs
    simp only [bindsD, List.map_cons, D.cnts, D.bulks, bindD, D.cnt, D.bulk, List.length_cons] at h2 ⊢
    omega
theorem binds_tcnt (bs : List (Int × Ty)) (hb : (D.slice 5 (bindsD bs)).bulk ≤ 1048576) : (D.slice 5 (bindsD bs)).tcnt ≤ 1099511627776 := by
  have h1 := binds_cnt bs
  simp only [D.bulk, bindsD_length] at hb
  simp only [D.tcnt]
  omega
theorem opensLBind (N : Nat) : Opens Try.prog 115 (fun y => ∃ p, y = bindD p ∧ bindOk p) N := by
  refine ((opens_struct (N := N) Try.underlying115 (by kernel_rfl) (opensF_cons (c := 1) rfl (by kernel_rfl) (opens_int Try.underlying2 (by kernel_rfl) N) (opensF_cons (c := 4) rfl (by kernel_rfl) (opensLType N) opensF_nil))).le (Nat.le_succ N)).imp ?_
  rintro y ⟨ys, rfl, _, _, rfl, ⟨c, rfl, hc⟩, _, _, rfl, ⟨x, rfl, hx⟩, rfl⟩
  exact ⟨(c, x), rfl, hc, hx⟩
theorem bnd_list {xs : List D} (h : ∀ x ∈ xs, ∃ p, x = bindD p ∧ bindOk p) : ∃ bs, xs = bindsD bs ∧ ∀ p ∈ bs, bindOk p := by
  induction xs with
  | nil => exact ⟨[], rfl, by simp⟩
  | cons x xs ih =>
    obtain ⟨p, rfl, hp⟩ := h x (by simp)
    obtain ⟨bs, rfl, hb⟩ := ih (fun y hy => h y (by simp [hy]))
    refine ⟨p :: bs, rfl, fun q hq => ?_⟩
    rcases List.mem_cons.1 hq with rfl | hq
    · exact hp
    · exact hb q hq
theorem opensLBinds (N : Nat) : Opens Try.prog 51 (fun y => ∃ bs, y = D.slice 5 (bindsD bs) ∧ bs.length ≤ 140737488351232 ∧ ∀ p ∈ bs, bindOk p) N := by
  refine ((opens_slice (sz := 5) (B := 64) Try.underlying51 (by kernel_rfl) (by kernel_rfl) (by omega) (by kernel_rfl) (opensLBind N)).le (Nat.le_succ N)).imp ?_
  rintro y ⟨xs, rfl, hl, hx⟩
  obtain ⟨l, rfl, hw⟩ := bnd_list hx
  have hr := reach47
  rw [bindsD_length] at hl
  exact ⟨l, rfl, by omega, hw⟩

/-! ### What applying leaves -/
theorem Ty.apps_ok (bs : List (Int × Ty)) : ∀ (xs : List Ty), (∀ x ∈ xs, x.ok → (x.app bs).ok) → Ty.oks xs → Ty.oks (Ty.apps bs xs)
  | [], _, _ => trivial
  | x :: xs, ih, h => by
    simp only [Ty.oks, Ty.apps] at h ⊢
    exact ⟨ih x (by simp) h.1, Ty.apps_ok bs xs (fun y hy => ih y (by simp [hy])) h.2⟩
theorem Ty.app_ok (bs : List (Int × Ty)) (hb : ∀ p ∈ bs, p.2.ok) : ∀ (x : Ty), x.ok → (x.app bs).ok :=
  Ty.induct fun k d n ks ih h => by
    rw [Ty.app]
    by_cases hk : k = 1
    · rw [if_pos hk]
      cases hg : bget bs d with
      | none => exact h
      | some y =>
        obtain ⟨i, hi⟩ := bget_mem hg
        exact hb _ hi
    · rw [if_neg hk]
      simp only [Ty.ok] at h ⊢
      refine ⟨h.1, h.2.1, h.2.2.1, ?_, Ty.apps_ok bs ks ih h.2.2.2.2⟩
      rw [Ty.apps_map, List.length_map]
      exact h.2.2.2.1
theorem Ty.lrgs_size (bs : List (Int × Ty)) : ∀ (xs : List Ty), (∀ x ∈ xs, x.wf → ∀ deep left, (x.lrg bs deep left).1 = false → (x.lrg bs deep left).2 = left - (x.app bs).size) → Ty.wfs xs → ∀ deep left, (Ty.lrgs bs xs deep left).1 = false → (Ty.lrgs bs xs deep left).2 = left - Ty.sizes (Ty.apps bs xs)
  | [], _, _, deep, left, _ => by simp [Ty.lrgs, Ty.apps, Ty.sizes]
  | x :: xs, ih, hw, deep, left, h => by
    have hwx : x.wf := Ty.wfs_mem hw x (by simp)
    have hws : Ty.wfs xs := Ty.wfs_mk fun y hy => Ty.wfs_mem hw y (by simp [hy])
    rw [Ty.lrgs] at h ⊢
    by_cases hx : (x.lrg bs deep left).1 = true
    · rw [if_pos hx] at h
      simp at h
    · rw [if_neg hx] at h ⊢
      have h1 := ih x (by simp) hwx deep left (by simpa using hx)
      have h2 := Ty.lrgs_size bs xs (fun y hy => ih y (by simp [hy])) hws deep _ h
      simp only [Ty.apps, Ty.sizes]
      omega
theorem Ty.lrg_size (bs : List (Int × Ty)) : ∀ (x : Ty), x.wf → ∀ deep left, (x.lrg bs deep left).1 = false → (x.lrg bs deep left).2 = left - (x.app bs).size :=
  Ty.induct fun k d n ks ih hw deep left h => by
    simp only [Ty.wf] at hw
    rw [Ty.app]
    by_cases hk : k = 1
    · subst hk
      rw [if_pos rfl]
      cases hg : bget bs d with
      | some y =>
        rw [Ty.lrg_some hg] at h ⊢
        exact (Ty.fault_wf y deep left h).2
      | none =>
        have hks : ks = [] := by
          rcases hw with ⟨_, _, _, h⟩ | ⟨h, _⟩
          · exact h
          · omega
        subst hks
        rw [Ty.lrg_none (.inr hg)] at h ⊢
        by_cases hb : left - 1 < 0 ∨ 200 < deep
        · rw [if_pos hb] at h
          simp at h
        · rw [if_neg hb]
          simp [Ty.lrgs, Ty.size, Ty.sizes]
    · rw [if_neg hk]
      have hws : Ty.wfs ks := by
        rcases hw with ⟨_, _, _, rfl⟩ | hw
        · trivial
        · exact hw.2.2.2
      rw [Ty.lrg_none (.inl hk)] at h ⊢
      by_cases hb : left - 1 < 0 ∨ 200 < deep
      · rw [if_pos hb] at h
        simp at h
      · rw [if_neg hb] at h ⊢
        have := Ty.lrgs_size bs ks ih hws (deep + 1) (left - 1) h
        simp only [Ty.size]
        omega
theorem applyRes_ok (bs : List (Int × Ty)) (hb : ∀ p ∈ bs, p.2.ok) (x : Ty) (hx : x.ok) : (applyRes bs x).ok ∧ (applyRes bs x).size ≤ 20000 := by
  unfold applyRes
  split
  · exact ⟨by simp only [Ty.none_, Ty.ok, Ty.oks]; decide, by simp [Ty.none_, Ty.size, Ty.sizes]⟩
  · rename_i h
    have hf : (x.fault 1 20000).1 = false := by
      cases hq : (x.fault 1 20000).1 with
      | false => rfl
      | true => exact absurd (.inl hq) h
    have hl : (x.lrg bs 1 20000).1 = false := by
      cases hq : (x.lrg bs 1 20000).1 with
      | false => rfl
      | true => exact absurd (.inr (.inr hq)) h
    have h1 := Ty.lrg_size bs x (Ty.good hf).1 1 20000 hl
    have h2 := Ty.lrg_left bs x 1 20000 hl
    exact ⟨Ty.app_ok bs hb x hx, by omega⟩

end Go.Proofs.Ytbbpkjcmbakfeaa
