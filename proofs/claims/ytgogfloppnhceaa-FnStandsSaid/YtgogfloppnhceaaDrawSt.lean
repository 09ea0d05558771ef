/- What 'DrawStands' hands back: two outcomes, the first's text short; over the printed contract of the drawing. No condition. -/
import Derived.Test.YtgogfloppnhceaaPFnStandsx4
import Derived.Test.YtgogfloppnhceaaHs
namespace Go.Proofs.Ytgogfloppnhceaa
open Go.RowKit Go.Proofs.Ytgogfloppnhceaa.PFnStands Go.Proofs.YtgogfloppnhceaaW.PrintWords
set_option linter.unusedVariables false
set_option linter.unusedSimpArgs false

theorem st_w64 {x : Int} (h : -9223372036854775808 ≤ x) (h2 : x ≤ 9223372036854775807) : wrap64 x = x := by
  unfold wrap64
  omega

theorem st_rd (l : List Int) (hb : ∀ x ∈ l, 0 ≤ x ∧ x ≤ 255) (i : Int) : 0 ≤ rd l i ∧ rd l i ≤ 255 := by
  unfold rd
  by_cases h : i.toNat < l.length
  · rw [List.getD_eq_getElem?_getD, List.getElem?_eq_getElem h]
    exact hb _ (List.getElem_mem h)
  · rw [List.getD_eq_getElem?_getD, List.getElem?_eq_none (by omega)]
    simp

theorem st_next (l : List Int) (hl : l.length ≤ 140737488351232) (hb : ∀ x ∈ l, 0 ≤ x ∧ x ≤ 255) (s1 s2 n : Int) (h0 : 0 ≤ s1) (h1 : s1 < 1000) (hn : 1 ≤ n) (hn2 : n ≤ 200) :
    ∃ v, spec_l1Next.f l s1 s2 n = some (v, s1 + 1, s2) ∧ 0 ≤ v ∧ v < n := by
  have e1 : wrap64 (s1 + 1) = s1 + 1 := st_w64 (by omega) (by omega)
  have e2 : wrap64 (s1 + 1 - 1) = s1 := by rw [st_w64 (by omega) (by omega)]; omega
  unfold spec_l1Next.f
  rw [e1, e2, if_neg (by omega)]
  by_cases hz : (l.length : Int) = 0
  · rw [if_pos hz, if_neg (by omega)]
    refine ⟨_, rfl, Int.tmod_nonneg _ ?_, Int.tmod_lt_of_pos _ (by omega)⟩
    rw [st_w64 (by omega) (by omega)]
    omega
  · rw [if_neg hz]
    have hp : 0 < (l.length : Int) := by omega
    have m0 : 0 ≤ Int.tmod s1 (l.length : Int) := Int.tmod_nonneg _ h0
    have m1 : Int.tmod s1 (l.length : Int) < (l.length : Int) := Int.tmod_lt_of_pos _ hp
    rw [if_pos m0, if_pos m1, if_neg (by omega), if_neg (by omega)]
    refine ⟨_, rfl, Int.tmod_nonneg _ ?_, Int.tmod_lt_of_pos _ (by omega)⟩
    have r := st_rd l hb (Int.tmod s1 (l.length : Int))
    have d0 : 0 ≤ Int.tdiv s1 (l.length : Int) := Int.tdiv_nonneg h0 (by omega)
    have d1 : Int.tdiv s1 (l.length : Int) ≤ s1 := by
      rw [Int.tdiv_eq_ediv_of_nonneg h0]
      exact Int.ediv_le_self _ h0
    rw [st_w64 (x := rd l _) (by omega) (by omega), st_w64 (x := Int.tdiv s1 _) (by omega) (by omega), st_w64 (x := _ * 37) (by omega) (by omega), st_w64 (by omega) (by omega)]
    omega

theorem st_chance (l : List Int) (hl : l.length ≤ 140737488351232) (hb : ∀ x ∈ l, 0 ≤ x ∧ x ≤ 255) (s1 s2 n : Int) (h0 : 0 ≤ s1) (h1 : s1 < 1000) (hn : 1 ≤ n) (hn2 : n ≤ 200) :
    ∃ v, spec_l1Chance.f l s1 s2 n = some (v, s1 + 1, s2) := by
  obtain ⟨v, hv, _⟩ := st_next l hl hb s1 s2 n h0 h1 hn hn2
  unfold spec_l1Chance.f
  rw [hv]
  exact ⟨_, rfl⟩

theorem st_words (i : Int) (h0 : 0 ≤ i) (h1 : i < 4) : (rdOf ByteArray.empty ([(⟨#[]⟩ : ByteArray), (⟨#[97]⟩ : ByteArray), (⟨#[97, 98]⟩ : ByteArray), (⟨#[98]⟩ : ByteArray)] : List ByteArray) i).size ≤ 2 := by
  obtain rfl | rfl | rfl | rfl : i = 0 ∨ i = 1 ∨ i = 2 ∨ i = 3 := by omega
  all_goals decide

theorem st_outcome (l : List Int) (hl : l.length ≤ 140737488351232) (hb : ∀ x ∈ l, 0 ≤ x ∧ x ≤ 255) (s1 s2 : Int) (h0 : 0 ≤ s1) (h1 : s1 < 900) :
    ∃ e o d, spec_l21Outcome.f l s1 s2 = some (e, o, (⟨#[]⟩ : ByteArray), d, s1 + 1 + 1 + 1, s2) ∧ o.size ≤ 2 := by
  obtain ⟨v, hv, _⟩ := st_next l hl hb s1 s2 9 h0 (by omega) (by omega) (by omega)
  obtain ⟨v2, hv2, p0, p1⟩ := st_next l hl hb (s1 + 1) s2 4 (by omega) (by omega) (by omega) (by omega)
  obtain ⟨v3, hv3, _⟩ := st_next l hl hb (s1 + 1 + 1) s2 5 (by omega) (by omega) (by omega) (by omega)
  unfold spec_l21Outcome.f
  rw [hv]
  simp only [Option.bind_some]
  rw [hv2]
  simp only [Option.bind_some]
  rw [if_pos p0, if_pos (by simpa using p1), hv3]
  exact ⟨_, _, _, rfl, st_words v2 p0 p1⟩

theorem st_draw (l : List Int) (hl : l.length ≤ 140737488351232) (hb : ∀ x ∈ l, 0 ≤ x ∧ x ≤ 255) :
    ∃ e o x d e' o' x' d', spec_DrawStands.f l = some (e, o, x, d, e', o', x', d') ∧ o.size ≤ 2 ∧ o'.size ≤ 2 := by
  have hs : ∃ z, spec_l1Source.f l = some (l, 0, z) := by
    unfold spec_l1Source.f
    split
    · exact ⟨_, rfl⟩
    · exact ⟨_, rfl⟩
  obtain ⟨z, hz⟩ := hs
  obtain ⟨e, o, d, h1, q1⟩ := st_outcome l hl hb 0 z (by omega) (by omega)
  obtain ⟨e', o', d', h2, q2⟩ := st_outcome l hl hb (0 + 1 + 1 + 1) z (by omega) (by omega)
  obtain ⟨b1, h3⟩ := st_chance l hl hb (0 + 1 + 1 + 1 + 1 + 1 + 1) z 2 (by omega) (by omega) (by omega) (by omega)
  obtain ⟨b2, h4⟩ := st_chance l hl hb (0 + 1 + 1 + 1 + 1 + 1 + 1 + 1) z 3 (by omega) (by omega) (by omega) (by omega)
  unfold spec_DrawStands.f
  rw [hz]
  simp only [Option.bind_some]
  rw [h1]
  simp only [Option.bind_some]
  rw [h2]
  simp only [Option.bind_some]
  rw [h3]
  simp only [Option.bind_some]
  rw [h4]
  simp only [Option.bind_some]
  cases b1 <;> cases b2 <;> simp only [if_true, Bool.false_eq_true, if_false] <;> exact ⟨_, _, _, _, _, _, _, _, rfl, q1, by first | exact q1 | exact q2⟩


def u8s (l : List Int) : List D := l.map (D.int .u8)
theorem u8s_length (l : List Int) : (u8s l).length = l.length := by simp [u8s]
theorem kdC_of_rd {w : World} {A : Option Addr} {l : List Int} (hl : l.length ≤ 140737488351232) (h : RdRow w 1 A (u8s l)) : Kd.C (Kd.int .u8) w A l.length l := by
  refine ⟨rfl, by omega, fun hp => ?_⟩
  obtain ⟨b, off, cs, rfl, _⟩ := h.get (i := 0) (x := D.int .u8 l[0]) (by simp [u8s, List.getElem?_eq_getElem hp])
  refine ⟨_, rfl, fun j p hj => ?_⟩
  obtain ⟨b', off', cs', he, hlen, hrd, hc⟩ := h.get (i := j) (x := D.int .u8 p) (by simp [u8s, hj])
  obtain rfl := rd_int.1 hrd
  simp only [Option.some.injEq, Addr.mk.injEq, and_true] at he
  obtain ⟨rfl, rfl⟩ := he
  exact ⟨_, rfl, rfl, fun i u hi => by
    have hq := hc i u hi
    by_cases hz : j = 0 ∧ i = 0
    · obtain ⟨rfl, rfl⟩ := hz
      simpa [Addr.add, show (Kd.int .u8).sz = 1 from rfl] using hq
    · simpa [Addr.add, hz, show (Kd.int .u8).sz = 1 from rfl, Nat.add_assoc] using hq⟩
/-- Any bytes: two outcomes. -/
theorem drawStands (l : List Int) (hl : l.length ≤ 140737488351232) (hb : ∀ x ∈ l, 0 ≤ x ∧ x ≤ 255) : ∃ (ae : Int) (ao ax : ByteArray) (ad be : Int) (bo bx : ByteArray) (bd : Int), ao.size ≤ 2 ∧ bo.size ≤ 2 ∧
    ∀ (w : World) (v : Value), Rd w (.slice 1 (u8s l)) [v] → Calls Try.prog 30 #[v] w fun e w' =>
      e = .returned (.tuple #[.agg #[.int .i64 ae, .string ao, .string ax, .int .i64 ad], .agg #[.int .i64 be, .string bo, .string bx, .int .i64 bd]]) ∧ Below w.heap.size w w' := by
  obtain ⟨ae, ao, ax, ad, be, bo, bx, bd, h, ha, hb'⟩ := st_draw l hl hb
  refine ⟨ae, ao, ax, ad, be, bo, bx, bd, ha, hb', fun w v hv => ?_⟩
  obtain ⟨A, c, rfl, hc, _, hr⟩ := rd_slice1 hv
  rw [u8s_length] at hc ⊢
  exact spec_DrawStands.calls A c l ae ao ax ad be bo bx bd w (kdC_of_rd hl hr) hc h

end Go.Proofs.Ytgogfloppnhceaa
