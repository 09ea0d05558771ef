/- The law 'FnExactFindInst' with what both functions answer; no condition. -/
import Derived.Test.YtifmnijdaboenaaFInstI
import Derived.Test.YtifmnijdaboenaaLawFindInst
namespace Go.Proofs.Ytifmnijdaboenaa
open Go.RowKit
set_option linter.unusedVariables false
set_option linter.unusedSimpArgs false

theorem zero_ok : InstI.ok ⟨⟨#[]⟩, ⟨#[]⟩, 0, []⟩ := by
  unfold InstI.ok
  exact ⟨by decide, by decide, by decide, by simp, by simp⟩
theorem fInst_mem (P : InstI → Prop) (h0 : P ⟨⟨#[]⟩, ⟨#[]⟩, 0, []⟩) (a b : ByteArray) : ∀ (l : List InstI), (∀ x ∈ l, P x) → P (fInst l a b)
  | [], _ => h0
  | x :: xs, h => by
    rw [fInst]
    split
    · exact h x (by simp)
    · exact fInst_mem P h0 a b xs fun y hy => h y (by simp [hy])
theorem walkFindInst (t : Tabs) (ok : t.ok) (a b : ByteArray) (ha : a.size ≤ 140737488351232) (hb : b.size ≤ 140737488351232) (w : World) (cs : List Value) (h : Rd w t.d cs) :
    Calls Try.prog 6 #[.agg cs.toArray, .string a, .string b] w fun e w' => e = .returned (.bool true) ∧ Below w.heap.size w w' := by
  have hk : (fInst t.insts a b).ok := fInst_mem _ zero_ok a b _ ok.oinsts
  have hs : t.d.bulk ≤ 1048576 → t.insts.length ≤ 1048576 ∧ ∀ x ∈ t.insts, x.preds.length ≤ 1048576 := fun hq => by
    have h1 : (D.slice 4 (t.insts.map InstI.d)).bulk ≤ 1048576 := by simp only [Tabs.d, D.bulk, D.bulks] at hq ⊢; omega
    have h2 := D.bulk_slice h1
    refine ⟨by have := h2.1; rw [List.length_map] at this; omega, fun x hx => ?_⟩
    have h3 := h2.2 _ (List.mem_map.2 ⟨x, hx, rfl⟩)
    have h4 := preds_bulk x.preds
    simp only [InstI.d, D.bulk, D.bulks] at h3 h4
    omega
  have hr : t.d.bulk ≤ 1048576 → (fInst t.insts a b).preds.length ≤ 1048576 := fun hq => fInst_mem (fun x => x.preds.length ≤ 1048576) (by simp) a b _ (hs hq).2
  refine lawFnExactFindInst t.d a b (fInst t.insts a b).d t.n (t.sz ok) t.to (t.eq ok) (fun hq => ⟨t.tcnt hq, t.mk_ ok⟩) (InstI.n _) (InstI.eq _ hk) (fun hq _ _ => ⟨?_, ?_, ?_⟩)
    (fun hq _ _ w cs h => specFInst t a b (hs hq).1 (hs hq).2 w cs h) (fun hq _ _ w cs h => implFInst t a b (hs hq).1 (hs hq).2 w cs h) w cs h ha hb
  · have h1 := preds_cnt (fInst t.insts a b).preds
    have h2 := hr hq
    simp only [InstI.d, D.tcnt, D.tcnts]
    omega
  · generalize fInst t.insts a b = x at hk
    unfold InstI.ok at hk
    exact markInstInfo_of _ _ _ _ (preds_mk x.preds hk.2.2.2.1)
  · generalize fInst t.insts a b = x at hk
    unfold InstI.ok at hk
    exact heldInstInfo_of _ _ _ _ (preds_hd x.preds hk.2.2.2.1)

end Go.Proofs.Ytifmnijdaboenaa
