/- The law 'FnExactFindCon' with what both functions answer; no condition. -/
import Derived.Test.YtifmnijdaboenaaFConI
import Derived.Test.YtifmnijdaboenaaLawFindCon
namespace Go.Proofs.Ytifmnijdaboenaa
open Go.RowKit
set_option linter.unusedVariables false
set_option linter.unusedSimpArgs false

theorem zeroC_ok : ConI.ok ⟨⟨#[]⟩, ⟨#[]⟩, 0, 0, []⟩ := by
  unfold ConI.ok
  exact ⟨by decide, by decide, by decide, by decide, by simp, by simp [Ty.oks]⟩
theorem fCon_mem (P : ConI → Prop) (h0 : P ⟨⟨#[]⟩, ⟨#[]⟩, 0, 0, []⟩) (a : ByteArray) : ∀ (l : List ConI), (∀ x ∈ l, P x) → P (fCon l a)
  | [], _ => h0
  | x :: xs, h => by
    rw [fCon]
    split
    · exact h x (by simp)
    · exact fCon_mem P h0 a xs fun y hy => h y (by simp [hy])
theorem walkFindCon (t : Tabs) (ok : t.ok) (a : ByteArray) (ha : a.size ≤ 140737488351232) (w : World) (cs : List Value) (h : Rd w t.d cs) :
    Calls Try.prog 7 #[.agg cs.toArray, .string a] w fun e w' => e = .returned (.bool true) ∧ Below w.heap.size w w' := by
  have hk : (fCon t.cons a).ok := fCon_mem _ zeroC_ok a _ ok.ocons
  have hs : t.d.bulk ≤ 1048576 → t.cons.length ≤ 1048576 ∧ ∀ x ∈ t.cons, (D.slice 4 (Ty.encs x.fields)).bulk ≤ 1048576 := fun hq => by
    have h1 : (D.slice 5 (t.cons.map ConI.d)).bulk ≤ 1048576 := by simp only [Tabs.d, D.bulk, D.bulks] at hq ⊢; omega
    have h2 := D.bulk_slice h1
    refine ⟨by have := h2.1; rw [List.length_map] at this; omega, fun x hx => ?_⟩
    have h3 := h2.2 _ (List.mem_map.2 ⟨x, hx, rfl⟩)
    simp only [ConI.d, D.bulk, D.bulks] at h3 ⊢
    omega
  have hf : t.d.bulk ≤ 1048576 → ∀ x ∈ t.cons, x.fields.length ≤ 1048576 ∧ ∀ y ∈ x.fields, y.enc.bulk ≤ 1048576 := fun hq x hx => by
    have h2 := D.bulk_slice ((hs hq).2 x hx)
    refine ⟨by have := h2.1; rw [Ty.encs_length] at this; omega, fun y hy => h2.2 _ (by rw [Ty.encs_map]; exact List.mem_map.2 ⟨y, hy, rfl⟩)⟩
  have hr : t.d.bulk ≤ 1048576 → (D.slice 4 (Ty.encs (fCon t.cons a).fields)).bulk ≤ 1048576 := fun hq => fCon_mem (fun x => (D.slice 4 (Ty.encs x.fields)).bulk ≤ 1048576) (by simp [Ty.encs, D.bulk, D.bulks]) a _ (hs hq).2
  refine lawFnExactFindCon t.d a (fCon t.cons a).d t.n (t.sz ok) t.to (t.eq ok) (fun hq => ⟨t.tcnt hq, t.mk_ ok⟩) (ConI.n _) (ConI.eq _ hk) (fun hq _ => ⟨?_, ?_, ?_⟩)
    (fun hq _ w cs h => specFCon t a (hs hq).1 (hf hq) w cs h) (fun hq _ w cs h => implFCon t a (hs hq).1 (hf hq) w cs h) w cs h ha
  · have h1 := tys_cnt (fCon t.cons a).fields
    have h2 := hr hq
    simp only [D.bulk, Ty.encs_length] at h2
    simp only [ConI.d, D.tcnt, D.tcnts]
    omega
  · generalize fCon t.cons a = x at hk
    unfold ConI.ok at hk
    exact markConInfo_of _ _ _ _ _ (tys_mk x.fields hk.2.2.2.2.1 hk.2.2.2.2.2)
  · generalize fCon t.cons a = x at hk
    unfold ConI.ok at hk
    exact heldConInfo_of _ _ _ _ _ (tys_hd x.fields hk.2.2.2.2.1 hk.2.2.2.2.2)

end Go.Proofs.Ytifmnijdaboenaa
