/- Drawn great numbers: whatever is drawn, it is a list of limbs; no condition. -/
import Derived.Test.YtajmeeppigdjnaaEB6
import Derived.Test.YtajmeeppigdjnaaEB7
import Derived.Test.YtajmeeppigdjnaaRingN
import Derived.Test.YtajmeeppigdjnaaOBig
import Derived.Laws.Closers25b
namespace Go.Proofs.Ytajmeeppigdjnaa.PFnBigText
open Go.RowKit Go.Proofs.Ytajmeeppigdjnaa Go.Proofs.Ytajmeeppigdjnaa.Own Go.Proofs.YtajmeeppigdjnaaW.PrintWords Go.Proofs.YtajmeeppigdjnaaW.PrintMore
set_option linter.unusedVariables false
set_option linter.unusedSimpArgs false

theorem st_rd (l : List Int) (hb : ∀ x ∈ l, 0 ≤ x ∧ x ≤ 255) (i : Int) : 0 ≤ rd l i ∧ rd l i ≤ 255 := by
  unfold rd
  by_cases h : i.toNat < l.length
  · rw [List.getD_eq_getElem?_getD, List.getElem?_eq_getElem h]
    exact hb _ (List.getElem_mem h)
  · rw [List.getD_eq_getElem?_getD, List.getElem?_eq_none (by omega)]
    simp
/-- One draw. -/
theorem st_next (l : List Int) (hl : l.length ≤ 140737488355328) (hb : ∀ x ∈ l, 0 ≤ x ∧ x ≤ 255) (s1 s2 n : Int) (h0 : 0 ≤ s1) (h1 : s1 < 1000) (hn : 1 ≤ n) (hn2 : n ≤ 100000) :
    ∃ v, spec_l1Next.f l s1 s2 n = some (v, s1 + 1, s2) ∧ 0 ≤ v ∧ v < n := by
  have e1 : wrap64 (s1 + 1) = s1 + 1 := w64_in (by omega) (by omega)
  have e2 : wrap64 (s1 + 1 - 1) = s1 := by rw [w64_in (by omega) (by omega)]; omega
  unfold spec_l1Next.f
  rw [e1, e2, e1, if_neg (by omega)]
  by_cases hz : (l.length : Int) = 0
  · rw [if_pos hz, if_neg (by omega)]
    refine ⟨_, rfl, Int.tmod_nonneg _ ?_, Int.tmod_lt_of_pos _ (by omega)⟩
    rw [w64_in (by omega) (by omega)]
    omega
  · rw [if_neg hz]
    have hp : 0 < (l.length : Int) := by omega
    have m0 : 0 ≤ Int.tmod s1 (l.length : Int) := Int.tmod_nonneg _ h0
    have m1 : Int.tmod s1 (l.length : Int) < (l.length : Int) := Int.tmod_lt_of_pos _ hp
    have n0 : 0 ≤ Int.tmod (s1 + 1) (l.length : Int) := Int.tmod_nonneg _ (by omega)
    have n1 : Int.tmod (s1 + 1) (l.length : Int) < (l.length : Int) := Int.tmod_lt_of_pos _ hp
    have r := st_rd l hb (Int.tmod s1 (l.length : Int))
    have r2 := st_rd l hb (Int.tmod (s1 + 1) (l.length : Int))
    have d0 : 0 ≤ Int.tdiv s1 (l.length : Int) := Int.tdiv_nonneg h0 (by omega)
    have d1 : Int.tdiv s1 (l.length : Int) ≤ s1 := by
      rw [Int.tdiv_eq_ediv_of_nonneg h0]
      exact Int.ediv_le_self _ h0
    rw [if_pos m0, if_pos m1]
    by_cases h2 : n > 200
    · rw [if_pos h2, if_pos n0, if_pos n1, if_neg (by omega)]
      refine ⟨_, rfl, Int.tmod_nonneg _ ?_, Int.tmod_lt_of_pos _ (by omega)⟩
      generalize rd l (Int.tmod s1 (l.length : Int)) = x at *
      generalize rd l (Int.tmod (s1 + 1) (l.length : Int)) = y at *
      generalize Int.tdiv s1 (l.length : Int) = z at *
      rw [w64_in (x := x) (by omega) (by omega), w64_in (x := y) (by omega) (by omega), w64_in (x := z) (by omega) (by omega), w64_in (x := z * 37) (by omega) (by omega), w64_in (x := x + z * 37) (by omega) (by omega), w64_in (x := y * 13) (by omega) (by omega), w64_in (x := (x + z * 37) * 251) (by omega) (by omega), w64_in (x := (x + z * 37) * 251 + y * 13) (by omega) (by omega), w64_in (by omega) (by omega)]
      omega
    · rw [if_neg h2, if_neg (by omega)]
      refine ⟨_, rfl, Int.tmod_nonneg _ ?_, Int.tmod_lt_of_pos _ (by omega)⟩
      rw [w64_in (x := rd l _) (by omega) (by omega), w64_in (x := Int.tdiv s1 _) (by omega) (by omega), w64_in (x := _ * 37) (by omega) (by omega), w64_in (by omega) (by omega)]
      omega
theorem st_chance (l : List Int) (hl : l.length ≤ 140737488355328) (hb : ∀ x ∈ l, 0 ≤ x ∧ x ≤ 255) (s1 s2 n : Int) (h0 : 0 ≤ s1) (h1 : s1 < 1000) (hn : 1 ≤ n) (hn2 : n ≤ 100000) :
    ∃ v, spec_l1Chance.f l s1 s2 n = some (v, s1 + 1, s2) := by
  obtain ⟨v, hv, _⟩ := st_next l hl hb s1 s2 n h0 h1 hn hn2
  unfold spec_l1Chance.f
  rw [hv]
  exact ⟨_, rfl⟩
theorem st_four (i : Int) (h0 : 0 ≤ i) (h1 : i < 4) : 0 ≤ rd ([0, 1, 4294967295, 2147483648] : List Int) i ∧ rd ([0, 1, 4294967295, 2147483648] : List Int) i < 4294967296 := by
  obtain rfl | rfl | rfl | rfl : i = 0 ∨ i = 1 ∨ i = 2 ∨ i = 3 := by omega
  all_goals decide
theorem st_bits (a b : Int) : 0 ≤ Go.bits .or .u32 a b ∧ Go.bits .or .u32 a b < 4294967296 := by
  have h := bits_within .or .u32 a b
  have e1 : IntKind.u32.min = 0 := by decide
  have e2 : IntKind.u32.max = 4294967295 := by decide
  omega
theorem st_trim {l : List Int} (hl : l.length ≤ 35184372088831) (hu : Us l) : Ev (fun k => spec_l1Trim.f k l) (lim (val l)) :=
  Ev.congr (fun k => by unfold spec_l1Trim.f; rw [if_pos ⟨hl, hu⟩]) (Ev.now _)
theorem st_make (m : Bool) (l : List Int) : ∃ m', spec_l1Make.f m l = some (m', l) := by
  unfold spec_l1Make.f
  cases m <;> simp
/-- The limbs drawn one by one. -/
theorem st_limbs (l : List Int) (hl : l.length ≤ 140737488355328) (hb : ∀ x ∈ l, 0 ≤ x ∧ x ≤ 255) (s2 : Int) (n : Nat) (hn : n ≤ 40) : ∀ (d i : Nat) (o : List Int) (s1 : Int), i + d = n → o.length = i → Us o → 0 ≤ s1 → s1 + 4 * d + 1 < 1000 →
    ∃ m o' s1', s1 ≤ s1' ∧ s1' ≤ s1 + 4 * d + 1 ∧ Us o' ∧ o'.length ≤ 40 ∧ Ev (fun k => spec_l1DrawBig.l0 k (n : Int) o (i : Int) l s1 s2) (m, o', s1', s2) := by
  intro d
  induction d with
  | zero =>
    intro i o s1 hi ho hu h0 h1
    obtain ⟨b, hc⟩ := st_chance l hl hb s1 s2 2 h0 (by omega) (by omega) (by omega)
    obtain ⟨m, hm⟩ := st_make b (lim (val o))
    have hle := lim_len_le (val_nonneg hu) (val_lt hu)
    refine ⟨m, lim (val o), s1 + 1, by omega, by omega, us_lim _, by omega, Ev.step (f := fun k => (spec_l1Trim.f k o).bind fun t278 => ((spec_l1Make.f b t278).bind fun bt281 => (some (bt281.1, bt281.2, s1 + 1, s2)))) (fun k => ?_) ?_⟩
    · rw [spec_l1DrawBig.l0, if_neg (by omega), hc, Option.bind_some]
    · refine Ev.bind (st_trim (by omega) hu) ?_
      simp only [hm, Option.bind_some]
      exact Ev.now _
  | succ d ih =>
    intro i o s1 hi ho hu h0 h1
    obtain ⟨v1, h1', a0, a1⟩ := st_next l hl hb s1 s2 256 h0 (by omega) (by omega) (by omega)
    obtain ⟨v2, h2', b0, b1⟩ := st_next l hl hb (s1 + 1) s2 256 (by omega) (by omega) (by omega) (by omega)
    obtain ⟨c, h3'⟩ := st_chance l hl hb (s1 + 1 + 1) s2 4 (by omega) (by omega) (by omega) (by omega)
    have ei : wrap64 ((i : Int) + 1) = ((i + 1 : Nat) : Int) := by rw [w64_in (by omega) (by omega)]; omega
    cases c with
    | false =>
      obtain ⟨m, o', s1', q1, q2, q3, q4, q5⟩ := ih (i + 1) (o ++ [Go.bits .or .u32 ((v1) % 4294967296) ((((v2) % 4294967296) * 16777216) % 4294967296)]) (s1 + 1 + 1 + 1) (by omega) (by simp [ho]) (hu.append (Us.cons (st_bits _ _).1 (st_bits _ _).2 Us.nil)) (by omega) (by omega)
      refine ⟨m, o', s1', by omega, by omega, q3, q4, Ev.step (fun k => ?_) q5⟩
      rw [spec_l1DrawBig.l0, if_pos (by omega), h1', Option.bind_some, h2', Option.bind_some, h3', Option.bind_some, if_neg (by simp), if_pos (by omega), ei]
    | true =>
      obtain ⟨v3, h4', c0, c1⟩ := st_next l hl hb (s1 + 1 + 1 + 1) s2 4 (by omega) (by omega) (by omega) (by omega)
      obtain ⟨m, o', s1', q1, q2, q3, q4, q5⟩ := ih (i + 1) (o ++ [rd ([0, 1, 4294967295, 2147483648] : List Int) v3]) (s1 + 1 + 1 + 1 + 1) (by omega) (by simp [ho]) (hu.append (Us.cons (st_four _ c0 c1).1 (st_four _ c0 c1).2 Us.nil)) (by omega) (by omega)
      refine ⟨m, o', s1', by omega, by omega, q3, q4, Ev.step (fun k => ?_) q5⟩
      rw [spec_l1DrawBig.l0, if_pos (by omega), h1', Option.bind_some, h2', Option.bind_some, h3', Option.bind_some, if_pos rfl, Option.bind_some, h4', Option.bind_some, if_pos c0, if_pos (by simpa using c1), if_pos (by omega), ei]
theorem st_j0 (l : List Int) (hl : l.length ≤ 140737488355328) (hb : ∀ x ∈ l, 0 ≤ x ∧ x ≤ 255) (n s1 s2 : Int) (h0 : 0 ≤ n) (h40 : n ≤ 40) (hs0 : 0 ≤ s1) (hs1 : s1 < 800) :
    ∃ m o' s1', s1 ≤ s1' ∧ s1' ≤ s1 + 161 ∧ Us o' ∧ o'.length ≤ 40 ∧ Ev (fun k => spec_l1DrawBig.j0 k n l s1 s2) (m, o', s1', s2) := by
  obtain ⟨k, rfl⟩ : ∃ k : Nat, n = k := ⟨n.toNat, by omega⟩
  obtain ⟨m, o', s1', q1, q2, q3, q4, q5⟩ := st_limbs l hl hb s2 k (by omega) k 0 [] s1 (by omega) rfl Us.nil hs0 (by omega)
  exact ⟨m, o', s1', q1, by omega, q3, q4, Ev.step (fun k => by rw [spec_l1DrawBig.j0]; rfl) q5⟩
theorem st_draw (l : List Int) (hl : l.length ≤ 140737488355328) (hb : ∀ x ∈ l, 0 ≤ x ∧ x ≤ 255) (s1 s2 : Int) (hs0 : 0 ≤ s1) (hs1 : s1 < 700) :
    ∃ m o' s1', s1 ≤ s1' ∧ s1' ≤ s1 + 164 ∧ Us o' ∧ o'.length ≤ 40 ∧ Ev (fun k => spec_l1DrawBig.f k l s1 s2) (m, o', s1', s2) := by
  obtain ⟨n, h1, a0, a1⟩ := st_next l hl hb s1 s2 4 hs0 (by omega) (by omega) (by omega)
  obtain ⟨c, h2⟩ := st_chance l hl hb (s1 + 1) s2 12 (by omega) (by omega) (by omega) (by omega)
  cases c with
  | false =>
    obtain ⟨m, o', s1', q1, q2, q3, q4, q5⟩ := st_j0 l hl hb n (s1 + 1 + 1) s2 a0 (by omega) (by omega) (by omega)
    refine ⟨m, o', s1', by omega, by omega, q3, q4, Ev.congr (fun k => ?_) q5⟩
    unfold spec_l1DrawBig.f
    rw [h1, Option.bind_some, h2, Option.bind_some, if_neg (by simp)]
  | true =>
    obtain ⟨v, h3, b0, b1⟩ := st_next l hl hb (s1 + 1 + 1) s2 2 (by omega) (by omega) (by omega) (by omega)
    obtain ⟨m, o', s1', q1, q2, q3, q4, q5⟩ := st_j0 l hl hb (40 - v) (s1 + 1 + 1 + 1) s2 (by omega) (by omega) (by omega) (by omega)
    refine ⟨m, o', s1', by omega, by omega, q3, q4, Ev.congr (fun k => ?_) q5⟩
    unfold spec_l1DrawBig.f
    rw [h1, Option.bind_some, h2, Option.bind_some, if_pos rfl, h3, Option.bind_some, w64_in (by omega) (by omega)]
theorem st_bend (l : List Int) (hl : l.length ≤ 140737488355328) (hb : ∀ x ∈ l, 0 ≤ x ∧ x ≤ 255) (s1 s2 : Int) (hs0 : 0 ≤ s1) (hs1 : s1 < 900) (m : Bool) (o : List Int) (hu : Us o) (ho : o.length ≤ 40) :
    ∃ m' o', Us o' ∧ o'.length ≤ 41 ∧ spec_l1BendBig.f l s1 s2 m o = some (m', o', s1 + 1, s2) := by
  obtain ⟨n, h1, a0, a1⟩ := st_next l hl hb s1 s2 4 hs0 (by omega) (by omega) (by omega)
  unfold spec_l1BendBig.f
  rw [h1, Option.bind_some]
  by_cases c0 : n = 0
  · simp only [if_pos c0]
    rw [if_pos (by omega)]
    exact ⟨m, o ++ [0], hu.append (Us.cons (by omega) (by omega) Us.nil), by simp; omega, rfl⟩
  · simp only [if_neg c0]
    by_cases c1 : n = 1
    · simp only [if_pos c1]
      exact ⟨true, [], Us.nil, by simp, rfl⟩
    · simp only [if_neg c1]
      by_cases c2 : n = 2
      · simp only [if_pos c2]
        rw [if_pos (by omega), Option.bind_some, if_pos (by simp)]
        exact ⟨m, (List.replicate 41 0).set (40 : Int).toNat 1, (Us.replicate 41).set _ (by omega) (by omega), by simp, rfl⟩
      · simp only [if_neg c2]
        exact ⟨m, o, hu, by omega, rfl⟩
theorem st_maybe (l : List Int) (hl : l.length ≤ 140737488355328) (hb : ∀ x ∈ l, 0 ≤ x ∧ x ≤ 255) (s1 s2 : Int) (hs0 : 0 ≤ s1) (hs1 : s1 < 700) :
    ∃ m o' s1', s1 ≤ s1' ∧ s1' ≤ s1 + 166 ∧ Us o' ∧ o'.length ≤ 41 ∧ Ev (fun k => spec_l1MaybeBig.f k l s1 s2) (m, o', s1', s2) := by
  obtain ⟨m, o, t, q1, q2, q3, q4, q5⟩ := st_draw l hl hb s1 s2 hs0 hs1
  obtain ⟨c, h2⟩ := st_chance l hl hb t s2 20 (by omega) (by omega) (by omega) (by omega)
  cases c with
  | false =>
    refine ⟨m, o, t + 1, by omega, by omega, q3, by omega, ?_⟩
    unfold spec_l1MaybeBig.f
    refine Ev.bind q5 ?_
    simp only [h2, Option.bind_some, Bool.false_eq_true, if_false]
    exact Ev.now _
  | true =>
    obtain ⟨m', o', p1, p2, p3⟩ := st_bend l hl hb (t + 1) s2 (by omega) (by omega) m o q3 q4
    refine ⟨m', o', t + 1 + 1, by omega, by omega, p1, p2, ?_⟩
    unfold spec_l1MaybeBig.f
    refine Ev.bind q5 ?_
    simp only [h2, Option.bind_some, if_true, p3]
    exact Ev.now _
theorem st_source (l : List Int) : ∃ z, spec_l1Source.f l = some (l, 0, z) := by
  unfold spec_l1Source.f
  split
  · exact ⟨_, rfl⟩
  · exact ⟨_, rfl⟩
theorem st_two (l : List Int) (hl : l.length ≤ 140737488355328) (hb : ∀ x ∈ l, 0 ≤ x ∧ x ≤ 255) : ∃ m o m' o', Us o ∧ o.length ≤ 41 ∧ Us o' ∧ o'.length ≤ 41 ∧ Ev (fun k => spec_l1Two.f k l) (m, o, m', o') := by
  obtain ⟨z, hz⟩ := st_source l
  obtain ⟨m, o, t, q1, q2, q3, q4, q5⟩ := st_maybe l hl hb 0 z (by omega) (by omega)
  obtain ⟨m', o', t', p1, p2, p3, p4, p5⟩ := st_maybe l hl hb t z (by omega) (by omega)
  refine ⟨m, o, m', o', q3, q4, p3, p4, ?_⟩
  unfold spec_l1Two.f
  simp only [hz, Option.bind_some]
  refine Ev.bind q5 ?_
  exact Ev.bind p5 (Ev.now _)
/-- A choice out of n. -/
theorem st_at (l : List Int) (hl : l.length ≤ 140737488355328) (hb : ∀ x ∈ l, 0 ≤ x ∧ x ≤ 255) (i n : Int) (h0 : 0 ≤ i) (h1 : i < 1000) (hn : 1 < n) (hn2 : n ≤ 100000) : ∃ v, laws_lwAt.f l i n = some v ∧ 0 ≤ v ∧ v < n := by
  unfold laws_lwAt.f
  rw [if_neg (by omega)]
  by_cases hz : (l.length : Int) = 0
  · rw [if_pos hz, if_neg (by omega)]
    refine ⟨_, rfl, Int.tmod_nonneg _ ?_, Int.tmod_lt_of_pos _ (by omega)⟩
    rw [w64_in (by omega) (by omega)]
    omega
  · rw [if_neg hz]
    have e1 : wrap64 (i + 1) = i + 1 := w64_in (by omega) (by omega)
    have hp : 0 < (l.length : Int) := by omega
    have m0 : 0 ≤ Int.tmod i (l.length : Int) := Int.tmod_nonneg _ h0
    have m1 : Int.tmod i (l.length : Int) < (l.length : Int) := Int.tmod_lt_of_pos _ hp
    have n0 : 0 ≤ Int.tmod (i + 1) (l.length : Int) := Int.tmod_nonneg _ (by omega)
    have n1 : Int.tmod (i + 1) (l.length : Int) < (l.length : Int) := Int.tmod_lt_of_pos _ hp
    have r := st_rd l hb (Int.tmod i (l.length : Int))
    have r2 := st_rd l hb (Int.tmod (i + 1) (l.length : Int))
    have d0 : 0 ≤ Int.tdiv i (l.length : Int) := Int.tdiv_nonneg h0 (by omega)
    have d1 : Int.tdiv i (l.length : Int) ≤ i := by
      rw [Int.tdiv_eq_ediv_of_nonneg h0]
      exact Int.ediv_le_self _ h0
    rw [if_pos m0, if_pos m1, e1]
    by_cases h2 : n > 200
    · rw [if_pos h2, if_pos n0, if_pos n1, if_neg (by omega)]
      refine ⟨_, rfl, Int.tmod_nonneg _ ?_, Int.tmod_lt_of_pos _ (by omega)⟩
      generalize rd l (Int.tmod i (l.length : Int)) = x at *
      generalize rd l (Int.tmod (i + 1) (l.length : Int)) = y at *
      generalize Int.tdiv i (l.length : Int) = z at *
      rw [w64_in (x := x) (by omega) (by omega), w64_in (x := y) (by omega) (by omega), w64_in (x := z) (by omega) (by omega), w64_in (x := z * 3) (by omega) (by omega), w64_in (x := x + z * 3) (by omega) (by omega), w64_in (x := (x + z * 3) * 251) (by omega) (by omega), w64_in (by omega) (by omega)]
      omega
    · rw [if_neg h2, if_neg (by omega)]
      refine ⟨_, rfl, Int.tmod_nonneg _ ?_, Int.tmod_lt_of_pos _ (by omega)⟩
      rw [w64_in (x := rd l _) (by omega) (by omega), w64_in (x := Int.tdiv i _) (by omega) (by omega), w64_in (x := _ * 3) (by omega) (by omega), w64_in (by omega) (by omega)]
      omega
theorem st_fault (m : Bool) (l : List Int) (hl : l.length ≤ 140737488351232) : spec_BigFault.f m l = some (bgFault m l) := by
  unfold spec_BigFault.f bgFault
  by_cases h0 : l.length = 0
  · rw [if_neg (by omega), if_neg (by omega), if_pos (by omega), if_pos h0]
  · rw [w64_in (by omega) (by omega), rd_lmb, show ((l.length : Int) - 1).toNat = l.length - 1 by omega, if_neg h0]
    by_cases h1 : 40 < l.length
    · rw [if_pos (by omega)]
      simp [h1]
    · rw [if_neg (by omega), if_pos (by omega), if_pos (by omega), if_pos (by omega)]
      by_cases h2 : lmb l (l.length - 1) = 0
      · rw [if_pos h2]; simp [h2]
      · rw [if_neg h2, if_neg (by omega)]
        simp [h2]
        omega
/-- Two numbers, drawn. -/
theorem st_add (l : List Int) (hl : l.length ≤ 140737488355328) (hb : ∀ x ∈ l, 0 ≤ x ∧ x ≤ 255) : ∃ m o m' o', Us o ∧ o.length ≤ 41 ∧ Ev (fun k => spec_DrawBigAdd.f k l) (m, o, m', o') := by
  obtain ⟨m, o, m', o', q1, q2, q3, q4, q5⟩ := st_two l hl hb
  refine ⟨m, o, m', o', q1, q2, ?_⟩
  unfold spec_DrawBigAdd.f
  exact Ev.bind q5 (Ev.now _)

end Go.Proofs.Ytajmeeppigdjnaa.PFnBigText
