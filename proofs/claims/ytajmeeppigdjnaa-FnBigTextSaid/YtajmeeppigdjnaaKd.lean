/- The print's words for rows of whole numbers, and ours: each out of the other. No program is named here. -/
import Derived.Test.YtajmeeppigdjnaaHs
import Derived.Test.YtajmeeppigdjnaaWMore
namespace Go.Proofs.Ytajmeeppigdjnaa
open Go.RowKit Go.Proofs.YtajmeeppigdjnaaW.PrintWords Go.Proofs.YtajmeeppigdjnaaW.PrintMore
set_option linter.unusedVariables false
set_option linter.unusedSimpArgs false

def ints (k : IntKind) (l : List Int) : List D := l.map (D.int k)
theorem ints_length (k : IntKind) (l : List Int) : (ints k l).length = l.length := by simp [ints]
theorem ints_get {k : IntKind} {l : List Int} {i : Nat} {z : Int} (h : l[i]? = some z) : (ints k l)[i]? = some (.int k z) := by simp [ints, h]
theorem kdC_of_row {k : IntKind} {w : World} {A : Option Addr} {l : List Int} (hl : l.length ≤ 140737488351232) (h : RdRow w 1 A (ints k l)) : Kd.C (Kd.int k) w A l.length l := by
  refine ⟨rfl, by omega, fun hp => ?_⟩
  obtain ⟨b, off, cs, rfl, _⟩ := h.get (ints_get (List.getElem?_eq_getElem hp))
  refine ⟨_, rfl, fun j p hj => ?_⟩
  obtain ⟨b', off', cs', he, hlen, hrd, hc⟩ := h.get (ints_get hj)
  obtain rfl := rd_int.1 hrd
  simp only [Option.some.injEq, Addr.mk.injEq, and_true] at he
  obtain ⟨rfl, rfl⟩ := he
  exact ⟨_, rfl, rfl, fun i u hi => by
    have hq := hc i u hi
    by_cases hz : j = 0 ∧ i = 0
    · obtain ⟨rfl, rfl⟩ := hz
      simpa [Addr.add, show (Kd.int k).sz = 1 from rfl] using hq
    · simpa [Addr.add, hz, show (Kd.int k).sz = 1 from rfl, Nat.add_assoc] using hq⟩
theorem kdC_of_rd {k : IntKind} {w : World} {v : Value} {l : List Int} (hl : l.length ≤ 140737488351232) (h : Rd w (.slice 1 (ints k l)) [v]) : ∃ A c, v = .slice A l.length c ∧ l.length ≤ c ∧ c ≤ maxLen ∧ Kd.C (Kd.int k) w A l.length l := by
  obtain ⟨A, c, rfl, h1, h2, h3⟩ := rd_slice1 h
  rw [ints_length] at h1 ⊢
  exact ⟨A, c, rfl, h1, h2, kdC_of_row hl h3⟩
/-- The cell of element i. -/
theorem kdC_cell {k : IntKind} {w : World} {A : Option Addr} {l : List Int} (h : Kd.C (Kd.int k) w A l.length l) (hp : 0 < l.length) : ∃ b off, A = some ⟨b, off, none⟩ ∧ b < w.heap.size ∧ ∀ i z, l[i]? = some z → w.cell? ⟨b, off + i, none⟩ = some (.int k z) := by
  obtain ⟨_, _, h3⟩ := h
  obtain ⟨⟨b, off, sp⟩, rfl, hc⟩ := h3 hp
  obtain ⟨c0, _, rfl, hc0⟩ := hc 0 _ (List.getElem?_eq_getElem hp)
  have h1 := hc0 0 _ rfl
  have hs : sp = none := by
    cases sp with
    | none => rfl
    | some z =>
      simp only [Addr.add] at h1
      unfold World.cell? at h1
      simp at h1
      split at h1 <;> simp_all
  subst hs
  refine ⟨b, off, rfl, ?_, fun i z hz => ?_⟩
  · have := World.block_lt_of_cell? w _ h1
    simp only [Addr.add] at this
    split at this <;> simpa using this
  · obtain ⟨c1, _, rfl, hc1⟩ := hc i z hz
    have h2 := hc1 0 _ rfl
    rw [show (Kd.int k).sz = 1 from rfl, Nat.mul_one, Nat.add_zero] at h2
    unfold Addr.add at h2
    by_cases hi : i = 0
    · subst hi; simpa using h2
    · simpa [hi] using h2
theorem row_of_kdC {k : IntKind} {w : World} {A : Option Addr} {l : List Int} (h : Kd.C (Kd.int k) w A l.length l) : RdRow w 1 A (ints k l) := by
  by_cases hp : 0 < l.length
  · obtain ⟨b, off, rfl, _, hc⟩ := kdC_cell h hp
    refine .inr ⟨b, off, rfl, fun i x hx => ?_⟩
    simp only [ints, List.getElem?_map, Option.map_eq_some_iff] at hx
    obtain ⟨z, hz, rfl⟩ := hx
    refine ⟨[.int k z], rfl, rd_int.2 rfl, fun j u hu => ?_⟩
    match j, hu with
    | 0, hu =>
      obtain rfl : Value.int k z = u := by simpa using hu
      simpa using hc i z hz
  · obtain rfl : l = [] := List.eq_nil_of_length_eq_zero (by omega)
    exact .inl rfl
theorem rd_of_kdC {k : IntKind} {w : World} {A : Option Addr} {c : Nat} {l : List Int} (h : Kd.C (Kd.int k) w A l.length l) (h1 : l.length ≤ c) (h2 : c ≤ maxLen) : Rd w (.slice 1 (ints k l)) [.slice A l.length c] :=
  rd_slice1_mk (by rw [ints_length]) (by rw [ints_length]; exact h1) h2 (by omega) (row_of_kdC h)
theorem reps_ints {k : IntKind} : ∀ {l : List Int} {cs : List Value}, Reps (fun x cs => cs = [Value.int k x]) 1 l cs → cs = l.map (Value.int k)
  | [], cs, h => List.eq_nil_of_length_eq_zero (by simpa using h.1)
  | x :: l, cs, h => by
    obtain ⟨hl, hh⟩ := h
    match cs, hl with
    | c :: cs, hl =>
      have h0 := hh 0 x rfl
      simp at h0
      subst h0
      rw [List.map_cons]
      congr 1
      refine reps_ints ⟨by simpa using hl, fun j p hp => ?_⟩
      have := hh (j + 1) p (by simpa using hp)
      simpa using this
theorem fields_ints {k : IntKind} {w : World} : ∀ l : List Int, D.Fields w (ints k l) (l.map (Value.int k)) []
  | [] => by simp [ints, D.Fields]
  | x :: l => by
    have ih := fields_ints (k := k) (w := w) l
    simp only [ints, List.map_cons, D.Fields]
    exact ⟨[.int k x], l.map (Value.int k), [], [], rfl, rfl, by simp [D.K], ih⟩
theorem grow_of_kdR {k : IntKind} {e base : Nat} {w : World} {ok : Nat → Prop} {v : Value} {l : List Int} (h : Kd.R (Kd.int k) e w base ok v l) : Grow base w v e 1 (ints k l) := by
  obtain ⟨_, inner, ho, hr⟩ := h
  obtain rfl := reps_ints hr
  refine ⟨_, [], by rw [ints_length]; exact ho, fields_ints l, fun y hy => ?_, ?_⟩
  · obtain ⟨z, _, rfl⟩ := List.mem_map.1 hy
    rfl
  · rw [List.append_nil]
    refine ⟨by cases v.ownBlock <;> simp, fun j hj => ?_⟩
    obtain ⟨h1, cur, h2⟩ := ownsRow_block ho (k := j) (by simpa using hj)
    exact ⟨h1, cur, e, h2⟩
theorem fr_of_kdR {k : IntKind} {e base : Nat} {w : World} {ok : Nat → Prop} {v : Value} {l : List Int} (h : Kd.R (Kd.int k) e w base ok v l) : Fr base w (.slice 1 (ints k l)) [v] := (grow_of_kdR h).fr
theorem reps_ints_mk {k : IntKind} : ∀ (l : List Int), Reps (fun x cs => cs = [Value.int k x]) 1 l (l.map (Value.int k))
  | l => ⟨by simp, fun j p hp => by
    have hj := (List.getElem?_eq_some_iff.1 hp).1
    rw [Nat.mul_one, List.take_one, List.head?_drop, List.getElem?_map, hp]
    rfl⟩
theorem kdR_of_owns {k : IntKind} {e base : Nat} {w : World} {v : Value} {l : List Int} (h : w.ownsRow base e 1 v l.length (l.map (Value.int k))) : Kd.R (Kd.int k) e w base (fun _ => True) v l :=
  ⟨fun _ _ => True.intro, _, h, reps_ints_mk l⟩
/-- A made row, filled with l. -/
theorem owns_of_fill {k : IntKind} {e B g : Nat} {w : World} {l : List Int} (h : Fill B w g e 1 l.length (ints k l)) (hm : l.length ≤ maxLen) : w.ownsRow B e 1 (.slice (some ⟨g, 0, none⟩) l.length l.length) l.length (l.map (Value.int k)) := by
  obtain ⟨cur, f, h1, h2, h3, h4, h5⟩ := h
  rw [Nat.mul_one] at h2
  have hcur : cur.toList = l.map (Value.int k) := by
    refine List.ext_getElem? fun i => ?_
    rcases Nat.lt_or_ge i l.length with hi | hi
    · obtain ⟨cs, f', q1, q2, _, q4⟩ := D.Row_get h3 i _ (ints_get (List.getElem?_eq_getElem hi))
      have := rd_int.1 ⟨_, q2⟩
      subst this
      have := q4 0 _ rfl
      rw [cellsAt_live h1] at this
      rw [List.getElem?_map, List.getElem?_eq_getElem hi]
      simpa using this
    · rw [List.getElem?_eq_none (by simp; omega), List.getElem?_eq_none (by simp; omega)]
  refine ⟨by simp, .inr ⟨g, l.length, cur, rfl, h4, h1, Nat.le_refl _, hm, by rw [h2, Nat.mul_one], ?_⟩⟩
  rw [hcur, Nat.mul_one, List.take_of_length_le (by simp)]

end Go.Proofs.Ytajmeeppigdjnaa
