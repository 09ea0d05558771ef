/- Great numbers as data; what 'BigFault' answers, in both; no condition. -/
import Derived.Test.YthidbmjdphfddaaFamBig
namespace Go.Proofs.Ythidbmjdphfddaa
open Go.RowKit
set_option linter.unusedVariables false
set_option linter.unusedSimpArgs false

def u32s (l : List Int) : List D := l.map (D.int .u32)
def bigD (m : Bool) (l : List Int) : D := .struct [.bool m, .slice 1 (u32s l)]
theorem u32s_length (l : List Int) : (u32s l).length = l.length := by simp [u32s]
def bigFault (m : Bool) (l : List Int) : Bool := if l.length = 0 then m else decide (40 < l.length) || (l.getD (l.length - 1) 0 == 0)

theorem openBg {m : Bool} {l : List Int} {w : World} {cs : List Value} (h : Rd w (bigD m l) cs) : ∃ A c, cs = [.bool m, .slice A l.length c] ∧ l.length ≤ c ∧ c ≤ maxLen ∧ RdRow w 1 A (u32s l) := by
  obtain ⟨A, c, rfl, hr⟩ := openBig h
  obtain ⟨A', c', e, h1, h2, h3⟩ := rd_slice1 hr
  simp only [Value.slice.injEq] at e
  obtain ⟨rfl, _, rfl⟩ := e
  rw [u32s_length] at h1
  exact ⟨A, c, by rw [u32s_length], h1, h2, h3⟩
/-- The cell of limb i. -/
theorem u32_cell {w : World} {A : Option Addr} {l : List Int} (h : RdRow w 1 A (u32s l)) (hl : 0 < l.length) : ∃ b off, A = some ⟨b, off, none⟩ ∧ ∀ i z, l[i]? = some z → w.cell? ⟨b, off + i, none⟩ = some (.int .u32 z) := by
  obtain ⟨b, off, _, rfl, _⟩ := h.get (i := 0) (x := .int .u32 l[0]) (by simp [u32s, List.getElem?_eq_getElem hl])
  refine ⟨b, off, rfl, fun i z hz => ?_⟩
  obtain ⟨b', off', cs, e, hcl, hrd, hc⟩ := h.get (i := i) (x := .int .u32 z) (by simp [u32s, hz])
  injection e with e
  simp only [Addr.mk.injEq] at e
  obtain ⟨rfl, rfl, _⟩ := e
  obtain rfl := rd_int.1 hrd
  simpa using hc 0 _ rfl

set_option maxRecDepth 100000 in
theorem specBigFault (m : Bool) (l : List Int) (hn : l.length ≤ 140737488351232) (w : World) (cs : List Value) (h : Rd w (bigD m l) cs) :
    Calls Try.prog 177 #[.agg cs.toArray] w fun e w' => e = .returned (.bool (bigFault m l)) ∧ Below w.heap.size w w' := by
  obtain ⟨A, c, rfl, _, _, hr⟩ := openBg h
  clear h
  have B1 := Lib.hid ((Below.refl w.heap.size w).alloc (Nat.le_refl _) (.cells #[.bool m, .slice A l.length c] 32))
  have hr := hr.below (by omega) B1.out
  rcases List.eq_nil_or_concat l with rfl | ⟨l', z, rfl⟩
  · clear hr
    have hf : bigFault m [] = m := by simp [bigFault]
    rw [hf]
    clear hf
    go_enter Try.func177, Try.ntmps177
    go_wp2
    go_ret
    exact ⟨rfl, B1.out⟩
  · rw [List.concat_eq_append] at *
    obtain ⟨b, off, rfl, hc⟩ := u32_cell hr (by simp)
    have hz := hc l'.length z (by simp)
    clear hr hc
    have hf : bigFault m (l' ++ [z]) = (decide (40 < l'.length + 1) || (z == 0)) := by simp [bigFault]
    rw [hf]
    clear hf
    simp only [List.length_append, List.length_singleton] at hn hz B1 ⊢
    generalize l'.length = k at *
    by_cases h40 : 40 < k + 1
    · have hd : decide (40 < k + 1) = true := by simpa using h40
      rw [hd]
      clear hd
      go_enter Try.func177, Try.ntmps177
      go_wp2
      go_ret
      exact ⟨rfl, B1.out⟩
    · have hd : decide (40 < k + 1) = false := by simpa using h40
      rw [hd]
      clear hd
      by_cases h0 : z = 0
      · subst h0
        go_enter Try.func177, Try.ntmps177
        go_wp2
        go_ret
        exact ⟨rfl, B1.out⟩
      · have h0' : (z == 0) = false := by simpa using h0
        go_enter Try.func177, Try.ntmps177
        go_wp2
        go_ret
        exact ⟨ret_bool (by rw [h0']; simp; omega), B1.out⟩

set_option maxRecDepth 100000 in
theorem implBigFault (m : Bool) (l : List Int) (hn : l.length ≤ 140737488351232) (w : World) (cs : List Value) (h : Rd w (bigD m l) cs) :
    Calls Try.prog 219 #[.agg cs.toArray] w fun e w' => e = .returned (.bool (bigFault m l)) ∧ Below w.heap.size w w' := by
  obtain ⟨A, c, rfl, _, _, hr⟩ := openBg h
  clear h
  have B1 := Lib.hid ((Below.refl w.heap.size w).alloc (Nat.le_refl _) (.cells #[.bool m, .slice A l.length c] 32))
  have hr := hr.below (by omega) B1.out
  rcases List.eq_nil_or_concat l with rfl | ⟨l', z, rfl⟩
  · clear hr
    have hf : bigFault m [] = m := by simp [bigFault]
    rw [hf]
    clear hf
    go_enter Try.func219, Try.ntmps219
    go_wp2
    go_ret
    exact ⟨rfl, B1.out⟩
  · rw [List.concat_eq_append] at *
    obtain ⟨b, off, rfl, hc⟩ := u32_cell hr (by simp)
    have hz := hc l'.length z (by simp)
    clear hr hc
    have hf : bigFault m (l' ++ [z]) = (decide (40 < l'.length + 1) || (z == 0)) := by simp [bigFault]
    rw [hf]
    clear hf
    simp only [List.length_append, List.length_singleton] at hn hz B1 ⊢
    generalize l'.length = k at *
    by_cases h40 : 40 < k + 1
    · have hd : decide (40 < k + 1) = true := by simpa using h40
      rw [hd]
      clear hd
      go_enter Try.func219, Try.ntmps219
      go_wp2
      go_ret
      exact ⟨rfl, B1.out⟩
    · have hd : decide (40 < k + 1) = false := by simpa using h40
      rw [hd]
      clear hd
      by_cases h0 : z = 0
      · subst h0
        go_enter Try.func219, Try.ntmps219
        go_wp2
        go_ret
        exact ⟨rfl, B1.out⟩
      · have h0' : (z == 0) = false := by simpa using h0
        go_enter Try.func219, Try.ntmps219
        go_wp2
        go_ret
        exact ⟨ret_bool (by rw [h0']; simp; omega), B1.out⟩

end Go.Proofs.Ythidbmjdphfddaa
