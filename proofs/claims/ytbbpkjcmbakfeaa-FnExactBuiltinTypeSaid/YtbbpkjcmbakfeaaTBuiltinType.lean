/- The law 'FnExactBuiltinType' with what both functions answer; no condition. -/
import Derived.Test.YtbbpkjcmbakfeaaBtI
import Derived.Test.YtbbpkjcmbakfeaaBtT
import Derived.Test.YtbbpkjcmbakfeaaSch
import Derived.Test.YtbbpkjcmbakfeaaLawBuiltinType
namespace Go.Proofs.Ytbbpkjcmbakfeaa
open Go.RowKit
set_option linter.unusedVariables false
set_option linter.unusedSimpArgs false

theorem fr_sch0 {B : Nat} {w : World} {c : Int} {x : Ty} {cs : List Value} (h : Fr B w x.enc cs) : Fr B w (schD c [] x) ([.int .i64 c, .slice none 0 0] ++ cs) := by
  unfold schD
  rw [fr_struct]
  exact frF_int (frF_plain (by simp only [D.K, predsD, List.map_nil]; exact ⟨none, 0, rfl, Nat.le_refl _, Nat.zero_le _, .inl (by simp)⟩) (frF_last h))
def BtAns (f : FuncId) (n : ByteArray) (c : Int) (x : Ty) : Prop := ∀ w : World, Calls Try.prog f #[.string n] w fun e w' => ∃ cs', e = .returned (.agg cs'.toArray) ∧ Fr w.heap.size w' (schD c [] x) cs' ∧ Below w.heap.size w w'
theorem ans_con {f : FuncId} {n : ByteArray} {c : Int} {a b : Ty} (h : ∀ w : World, Calls Try.prog f #[.string n] w fun e w' => ∃ A p, e = .returned (.agg #[.int .i64 c, .slice none 0 0, .int .i64 3, .int .i64 0, .string ⟨#[45, 62]⟩, .slice A 2 p]) ∧ IsCon w.heap.size w' ⟨#[45, 62]⟩ [a, b] A p ∧ Below w.heap.size w w') : BtAns f n c (.mk 3 0 ⟨#[45, 62]⟩ [a, b]) := fun w => (h w).mono fun e w' ⟨A, p, he, hc, hb⟩ => ⟨[.int .i64 c, .slice none 0 0] ++ [.int .i64 3, .int .i64 0, .string ⟨#[45, 62]⟩, .slice A 2 p], he, fr_sch0 hc.1, hb⟩
theorem ans_none {f : FuncId} {n : ByteArray} (h : ∀ w : World, Calls Try.prog f #[.string n] w fun e w' => e = .returned (.agg #[.int .i64 0, .slice none 0 0, .int .i64 0, .int .i64 0, .string ⟨#[]⟩, .slice none 0 0]) ∧ Below w.heap.size w w') : BtAns f n 0 (.mk 0 0 ⟨#[]⟩ []) := fun w => (h w).mono fun e w' ⟨he, hb⟩ => ⟨[.int .i64 0, .slice none 0 0] ++ [.int .i64 0, .int .i64 0, .string ⟨#[]⟩, .slice none 0 0], he, fr_sch0 (fr_leaf _ _ _ _ _ _ _ (by decide)), hb⟩
theorem name_eq {n : ByteArray} {l : List UInt8} (h : (n.toList == l) = true) : n = ⟨l.toArray⟩ := by
  have h1 := eq_of_beq h
  rw [ByteArray.toList_eq] at h1
  cases n
  simp only at h1
  rw [← h1]
/-- Both functions answer one and the same scheme, a small one. -/
theorem bt_both (n : ByteArray) : ∃ (c : Int) (x : Ty), x.ok ∧ x.enc.tcnt ≤ 100000 ∧ BtAns 21 n c x ∧ BtAns 22 n c x := by
  by_cases hprimAdd : (n.toList == [112, 114, 105, 109, 65, 100, 100]) = true
  · rw [name_eq hprimAdd]
    exact ⟨0, Ty.mk 3 0 ⟨#[45, 62]⟩ [Ty.mk 3 0 ⟨#[73, 110, 116]⟩ [], Ty.mk 3 0 ⟨#[45, 62]⟩ [Ty.mk 3 0 ⟨#[73, 110, 116]⟩ [], Ty.mk 3 0 ⟨#[73, 110, 116]⟩ []]], by simp only [Ty.ok, Ty.oks]; decide, by simp [Ty.enc, Ty.encs, D.tcnt, D.tcnts, D.cnts, D.cnt], ans_con btS_primAdd, ans_con btI_primAdd⟩
  replace hprimAdd := Bool.eq_false_iff.2 hprimAdd
  by_cases hprimSub : (n.toList == [112, 114, 105, 109, 83, 117, 98]) = true
  · rw [name_eq hprimSub]
    exact ⟨0, Ty.mk 3 0 ⟨#[45, 62]⟩ [Ty.mk 3 0 ⟨#[73, 110, 116]⟩ [], Ty.mk 3 0 ⟨#[45, 62]⟩ [Ty.mk 3 0 ⟨#[73, 110, 116]⟩ [], Ty.mk 3 0 ⟨#[73, 110, 116]⟩ []]], by simp only [Ty.ok, Ty.oks]; decide, by simp [Ty.enc, Ty.encs, D.tcnt, D.tcnts, D.cnts, D.cnt], ans_con btS_primSub, ans_con btI_primSub⟩
  replace hprimSub := Bool.eq_false_iff.2 hprimSub
  by_cases hprimMul : (n.toList == [112, 114, 105, 109, 77, 117, 108]) = true
  · rw [name_eq hprimMul]
    exact ⟨0, Ty.mk 3 0 ⟨#[45, 62]⟩ [Ty.mk 3 0 ⟨#[73, 110, 116]⟩ [], Ty.mk 3 0 ⟨#[45, 62]⟩ [Ty.mk 3 0 ⟨#[73, 110, 116]⟩ [], Ty.mk 3 0 ⟨#[73, 110, 116]⟩ []]], by simp only [Ty.ok, Ty.oks]; decide, by simp [Ty.enc, Ty.encs, D.tcnt, D.tcnts, D.cnts, D.cnt], ans_con btS_primMul, ans_con btI_primMul⟩
  replace hprimMul := Bool.eq_false_iff.2 hprimMul
  by_cases hprimDiv : (n.toList == [112, 114, 105, 109, 68, 105, 118]) = true
  · rw [name_eq hprimDiv]
    exact ⟨0, Ty.mk 3 0 ⟨#[45, 62]⟩ [Ty.mk 3 0 ⟨#[73, 110, 116]⟩ [], Ty.mk 3 0 ⟨#[45, 62]⟩ [Ty.mk 3 0 ⟨#[73, 110, 116]⟩ [], Ty.mk 3 0 ⟨#[73, 110, 116]⟩ []]], by simp only [Ty.ok, Ty.oks]; decide, by simp [Ty.enc, Ty.encs, D.tcnt, D.tcnts, D.cnts, D.cnt], ans_con btS_primDiv, ans_con btI_primDiv⟩
  replace hprimDiv := Bool.eq_false_iff.2 hprimDiv
  by_cases hprimMod : (n.toList == [112, 114, 105, 109, 77, 111, 100]) = true
  · rw [name_eq hprimMod]
    exact ⟨0, Ty.mk 3 0 ⟨#[45, 62]⟩ [Ty.mk 3 0 ⟨#[73, 110, 116]⟩ [], Ty.mk 3 0 ⟨#[45, 62]⟩ [Ty.mk 3 0 ⟨#[73, 110, 116]⟩ [], Ty.mk 3 0 ⟨#[73, 110, 116]⟩ []]], by simp only [Ty.ok, Ty.oks]; decide, by simp [Ty.enc, Ty.encs, D.tcnt, D.tcnts, D.cnts, D.cnt], ans_con btS_primMod, ans_con btI_primMod⟩
  replace hprimMod := Bool.eq_false_iff.2 hprimMod
  by_cases hprimEq : (n.toList == [112, 114, 105, 109, 69, 113]) = true
  · rw [name_eq hprimEq]
    exact ⟨0, Ty.mk 3 0 ⟨#[45, 62]⟩ [Ty.mk 3 0 ⟨#[73, 110, 116]⟩ [], Ty.mk 3 0 ⟨#[45, 62]⟩ [Ty.mk 3 0 ⟨#[73, 110, 116]⟩ [], Ty.mk 3 0 ⟨#[66, 111, 111, 108]⟩ []]], by simp only [Ty.ok, Ty.oks]; decide, by simp [Ty.enc, Ty.encs, D.tcnt, D.tcnts, D.cnts, D.cnt], ans_con btS_primEq, ans_con btI_primEq⟩
  replace hprimEq := Bool.eq_false_iff.2 hprimEq
  by_cases hprimLess : (n.toList == [112, 114, 105, 109, 76, 101, 115, 115]) = true
  · rw [name_eq hprimLess]
    exact ⟨0, Ty.mk 3 0 ⟨#[45, 62]⟩ [Ty.mk 3 0 ⟨#[73, 110, 116]⟩ [], Ty.mk 3 0 ⟨#[45, 62]⟩ [Ty.mk 3 0 ⟨#[73, 110, 116]⟩ [], Ty.mk 3 0 ⟨#[66, 111, 111, 108]⟩ []]], by simp only [Ty.ok, Ty.oks]; decide, by simp [Ty.enc, Ty.encs, D.tcnt, D.tcnts, D.cnts, D.cnt], ans_con btS_primLess, ans_con btI_primLess⟩
  replace hprimLess := Bool.eq_false_iff.2 hprimLess
  by_cases hprimOrd : (n.toList == [112, 114, 105, 109, 79, 114, 100]) = true
  · rw [name_eq hprimOrd]
    exact ⟨0, Ty.mk 3 0 ⟨#[45, 62]⟩ [Ty.mk 3 0 ⟨#[67, 104, 97, 114]⟩ [], Ty.mk 3 0 ⟨#[73, 110, 116]⟩ []], by simp only [Ty.ok, Ty.oks]; decide, by simp [Ty.enc, Ty.encs, D.tcnt, D.tcnts, D.cnts, D.cnt], ans_con btS_primOrd, ans_con btI_primOrd⟩
  replace hprimOrd := Bool.eq_false_iff.2 hprimOrd
  by_cases hprimChr : (n.toList == [112, 114, 105, 109, 67, 104, 114]) = true
  · rw [name_eq hprimChr]
    exact ⟨0, Ty.mk 3 0 ⟨#[45, 62]⟩ [Ty.mk 3 0 ⟨#[73, 110, 116]⟩ [], Ty.mk 3 0 ⟨#[67, 104, 97, 114]⟩ []], by simp only [Ty.ok, Ty.oks]; decide, by simp [Ty.enc, Ty.encs, D.tcnt, D.tcnts, D.cnts, D.cnt], ans_con btS_primChr, ans_con btI_primChr⟩
  replace hprimChr := Bool.eq_false_iff.2 hprimChr
  by_cases hprimShow : (n.toList == [112, 114, 105, 109, 83, 104, 111, 119]) = true
  · rw [name_eq hprimShow]
    exact ⟨0, Ty.mk 3 0 ⟨#[45, 62]⟩ [Ty.mk 3 0 ⟨#[73, 110, 116]⟩ [], Ty.mk 3 0 ⟨#[91, 93]⟩ [Ty.mk 3 0 ⟨#[67, 104, 97, 114]⟩ []]], by simp only [Ty.ok, Ty.oks]; decide, by simp [Ty.enc, Ty.encs, D.tcnt, D.tcnts, D.cnts, D.cnt], ans_con btS_primShow, ans_con btI_primShow⟩
  replace hprimShow := Bool.eq_false_iff.2 hprimShow
  by_cases hprimAppend : (n.toList == [112, 114, 105, 109, 65, 112, 112, 101, 110, 100]) = true
  · rw [name_eq hprimAppend]
    exact ⟨1, Ty.mk 3 0 ⟨#[45, 62]⟩ [Ty.mk 3 0 ⟨#[91, 93]⟩ [Ty.mk 2 0 ⟨#[]⟩ []], Ty.mk 3 0 ⟨#[45, 62]⟩ [Ty.mk 3 0 ⟨#[91, 93]⟩ [Ty.mk 2 0 ⟨#[]⟩ []], Ty.mk 3 0 ⟨#[91, 93]⟩ [Ty.mk 2 0 ⟨#[]⟩ []]]], by simp only [Ty.ok, Ty.oks]; decide, by simp [Ty.enc, Ty.encs, D.tcnt, D.tcnts, D.cnts, D.cnt], ans_con btS_primAppend, ans_con btI_primAppend⟩
  replace hprimAppend := Bool.eq_false_iff.2 hprimAppend
  by_cases hprimSeq : (n.toList == [112, 114, 105, 109, 83, 101, 113]) = true
  · rw [name_eq hprimSeq]
    exact ⟨2, Ty.mk 3 0 ⟨#[45, 62]⟩ [Ty.mk 2 0 ⟨#[]⟩ [], Ty.mk 3 0 ⟨#[45, 62]⟩ [Ty.mk 2 1 ⟨#[]⟩ [], Ty.mk 2 1 ⟨#[]⟩ []]], by simp only [Ty.ok, Ty.oks]; decide, by simp [Ty.enc, Ty.encs, D.tcnt, D.tcnts, D.cnts, D.cnt], ans_con btS_primSeq, ans_con btI_primSeq⟩
  replace hprimSeq := Bool.eq_false_iff.2 hprimSeq
  by_cases hprimError : (n.toList == [112, 114, 105, 109, 69, 114, 114, 111, 114]) = true
  · rw [name_eq hprimError]
    exact ⟨1, Ty.mk 3 0 ⟨#[45, 62]⟩ [Ty.mk 3 0 ⟨#[91, 93]⟩ [Ty.mk 3 0 ⟨#[67, 104, 97, 114]⟩ []], Ty.mk 2 0 ⟨#[]⟩ []], by simp only [Ty.ok, Ty.oks]; decide, by simp [Ty.enc, Ty.encs, D.tcnt, D.tcnts, D.cnts, D.cnt], ans_con btS_primError, ans_con btI_primError⟩
  replace hprimError := Bool.eq_false_iff.2 hprimError
  by_cases hnegate : (n.toList == [110, 101, 103, 97, 116, 101]) = true
  · rw [name_eq hnegate]
    exact ⟨0, Ty.mk 3 0 ⟨#[45, 62]⟩ [Ty.mk 3 0 ⟨#[73, 110, 116]⟩ [], Ty.mk 3 0 ⟨#[73, 110, 116]⟩ []], by simp only [Ty.ok, Ty.oks]; decide, by simp [Ty.enc, Ty.encs, D.tcnt, D.tcnts, D.cnts, D.cnt], ans_con btS_negate, ans_con btI_negate⟩
  replace hnegate := Bool.eq_false_iff.2 hnegate
  exact ⟨0, .mk 0 0 ⟨#[]⟩ [], by simp only [Ty.ok, Ty.oks]; decide, by simp [Ty.enc, Ty.encs, D.tcnt, D.tcnts, D.cnts], ans_none fun w => btS_none w n hprimAdd hprimSub hprimMul hprimDiv hprimMod hprimEq hprimLess hprimOrd hprimChr hprimShow hprimAppend hprimSeq hprimError hnegate, ans_none fun w => btI_none w n hprimAdd hprimSub hprimMul hprimDiv hprimMod hprimEq hprimLess hprimOrd hprimChr hprimShow hprimAppend hprimSeq hprimError hnegate⟩
theorem walkBuiltinType (n : ByteArray) (hn : n.size ≤ 140737488351232) (w : World) :
    Calls Try.prog 4 #[.string n] w fun e w' => e = .returned (.bool true) ∧ Below w.heap.size w w' := by
  obtain ⟨c, x, hx, ht, hs, hi⟩ := bt_both n
  exact lawFnExactBuiltinType n (schD c [] x) (by simp only [schD, D.n, D.nAll]; have := x.n; omega) (sch_eq c [] x (by simp) hx) (fun _ => ⟨by simp only [schD, D.tcnt, D.tcnts, predsD, List.map_nil, D.cnts]; omega, sch_mk c [] x (by simp) hx, sch_hd c [] x (by simp) hx⟩) (fun _ => hs) (fun _ => hi) w hn

end Go.Proofs.Ytbbpkjcmbakfeaa
