/- A set of names (a map of names to Bool values) that the call makes: what is stored, what a look-up answers; no condition. -/
import Derived.Test.YthidbmjdphfddaaHs
import Derived.Maps.Own
import Derived.Maps.OwnOps
import Derived.Maps.Views
import Derived.Laws.Strings
namespace Go.Proofs.Ythidbmjdphfddaa
open Go.RowKit
set_option linter.unusedVariables false
set_option linter.unusedSimpArgs false

theorem plainBool_inv {H : Type} {P : Program} {e : TypeId} (he : P.underlying e = some .bool) {v : Value} {z : DataW H × List MemPlace} (h : plainElem P e v = some z) : ∃ x, v = .bool x ∧ z = (.lit (.bool x), []) := by
  unfold plainElem at h
  rw [he] at h
  cases v <;> simp at h
  exact ⟨_, rfl, h.symm⟩
/-- Block b holds the set M, written at most n times. -/
def HasSet (P : Program) (k e : TypeId) (b n : Nat) (M : ByteArray → Bool) (w : World) : Prop :=
  ∃ D : DataW Unit, w.ownsMap P k (plainElem P e) b n D ∧ Maps.IsMap D ∧ ∀ s : ByteArray, s.size ≤ maxLen → D.atKey (.string s.data.toList) (.lit (.bool false)) = .lit (.bool (M s))
variable {P : Program} {k e t : TypeId} {b n : Nat} {M : ByteArray → Bool} {w : World}
theorem hasSet_new (w : World) (P : Program) (k e : TypeId) : HasSet P k e w.heap.size 0 (fun _ => false) (w.alloc (.map #[] 0)) :=
  ⟨_, World.ownsMap_made w P k _, Maps.isMap_empty, fun _ _ => rfl⟩
theorem keyStr (hk : P.underlying k = some .string) {s : ByteArray} (hs : s.size ≤ maxLen) : keyOf P k (.string s) = some (.string s.data.toList) := by
  simp [keyOf, hk, mapKey, hs]
theorem str_eq {a b : ByteArray} : (a.toList == b.toList) = true ↔ a = b := by
  rw [ByteArray.toList_eq, ByteArray.toList_eq, beq_iff_eq]
  exact ⟨fun h => by cases a; cases b; simp at h; rw [h], fun h => by rw [h]⟩
theorem wpl_set_put {ops : Array Oper} {rest : List Oper} {o : Oper} {a : Act} {Q : Exit → Act → World → Prop} (hg : o.guard = none) (m x v : Operand) (hop : o.op = .mapUpdate t m x v)
    (hk : P.underlying k = some .string) (he : P.underlying e = some .bool) (ht : P.underlying t = some (.map k e)) (hm : a.eval m = .map (some b)) (h : HasSet P k e b n M w) (hn : n < maxLen) (s : ByteArray) (hx : a.eval x = .string s) (hs : s.size ≤ maxLen) (hv : a.eval v = .bool true)
    (hK : ∀ w', HasSet P k e b (n + 1) (fun y => (y.toList == s.toList) || M y) w' → w.grownBy w' (some b) → wpList P ops Q rest (a.put o.dst undef) w') :
    wpList P ops Q (o :: rest) a w := by
  obtain ⟨D, hown, hD, hM⟩ := h
  refine wpList_mapUpdate_own w hg m x v t hop k e (Maps.string_keyed hk) ht _ b n D hm hown hn _ _ _ hx hv (keyStr hk hs) (.lit (.bool true)) [] (plainElem_bool he true) fun w' h1 h2 => hK w' ⟨_, h1, hD.put _ _, fun y hy => ?_⟩ h2
  cases hc : (y.toList == s.toList) with
  | true =>
    obtain rfl := str_eq.1 hc
    rw [Maps.atKey_put_same hD (by simp [WideAt.IsKeyLit])]
    show _ = DataW.lit (Lit.bool ((y.toList == y.toList) || M y))
    rw [hc]
    rfl
  | false =>
    rw [Maps.atKey_put_other (fun h => by
      have : y.toList = s.toList := by rw [ByteArray.toList_eq, ByteArray.toList_eq]; injection h
      rw [this] at hc
      simp at hc), hM y hy]
    show _ = DataW.lit (Lit.bool ((y.toList == s.toList) || M y))
    rw [hc]
    rfl
theorem wpl_set_get {ops : Array Oper} {rest : List Oper} {o : Oper} {a : Act} {Q : Exit → Act → World → Prop} (hg : o.guard = none) (m x : Operand) (hop : o.op = .lookup t m x false)
    (hk : P.underlying k = some .string) (he : P.underlying e = some .bool) (hz : (zeroValue e).run P w = .ok (.bool false) w) (ht : P.underlying t = some (.map k e)) (hm : a.eval m = .map (some b)) (h : HasSet P k e b n M w) (s : ByteArray) (hx : a.eval x = .string s) (hs : s.size ≤ maxLen) {c : Bool} (hMs : M s = c)
    (hK : wpList P ops Q rest (a.put o.dst (.bool c)) w) : wpList P ops Q (o :: rest) a w := by
  obtain ⟨D, hown, hD, hM⟩ := h
  obtain ⟨v, ps, hrun, hv⟩ := hown.lookup (Maps.string_keyed hk) ht hz (plainElem_bool he false) (keyStr hk hs)
  obtain ⟨c', rfl, hc⟩ := plainBool_inv he hv
  rw [hM s hs, hMs] at hc
  simp only [Prod.mk.injEq, DataW.lit.injEq, Lit.bool.injEq] at hc
  refine wpList_plain hg fun K' hK' => ?_
  unfold Oper.wp
  simp [execOp, hop, hm, hx, hrun, Result.andThen]
  rw [← hc.1]
  exact hK' _ _ hK
theorem HasSet.kept {w' : World} {row : Option Nat} (h : HasSet P k e b n M w) (hg : w.grownBy w' row) (hne : some b ≠ row) : HasSet P k e b n M w' := by
  obtain ⟨D, h1, h2⟩ := h
  exact ⟨D, h1.kept hg hne, h2⟩

end Go.Proofs.Ythidbmjdphfddaa
