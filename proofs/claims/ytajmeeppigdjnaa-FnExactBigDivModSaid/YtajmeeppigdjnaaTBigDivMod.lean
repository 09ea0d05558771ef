/- The law 'FnExactBigDivMod' with what both functions answer; no condition. -/
import Derived.Test.YtajmeeppigdjnaaTBM
import Derived.Test.YtajmeeppigdjnaaODm
import Derived.Test.YtajmeeppigdjnaaLawBigDivMod
namespace Go.Proofs.Ytajmeeppigdjnaa
open Go.RowKit Go.Proofs.YtajmeeppigdjnaaW.PrintWords Go.Proofs.YtajmeeppigdjnaaW.PrintMore Go.Proofs.Ytajmeeppigdjnaa.PFnExactBigAdd
set_option linter.unusedVariables false
set_option linter.unusedSimpArgs false

theorem row_ints {w : World} {b : Nat} {k : IntKind} : ∀ {l : List Int} {off : Nat} {f : List Nat}, D.Row w b off 1 (ints k l) f → f = []
  | [], _, _, h => by simpa [ints, D.Row] using h
  | x :: l, off, f, h => by
    simp only [ints, List.map_cons, D.Row] at h
    obtain ⟨cs, f1, f2, rfl, _, hk, _, h2⟩ := h
    simp only [D.K] at hk
    have := row_ints (l := l) h2
    rw [hk.2, this]
    rfl
theorem kdR_K {w : World} {B e : Nat} {ok : Nat → Prop} {v : Value} {l : List Int} (h : Kd.R (Kd.int .u32) e w B ok v l) : ∃ f, D.K w (.slice 1 (u32s l)) [v] f ∧ Own B w f ∧ ∀ k ∈ f, v.ownBlock = some k := by
  obtain ⟨f, hk, ho⟩ := fr_of_kdR h
  refine ⟨f, hk, ho, ?_⟩
  simp only [D.K] at hk
  obtain ⟨A, c, h1, _, _, h4⟩ := hk
  rcases h4 with ⟨_, rfl⟩ | ⟨b, off, f', rfl, _, rfl, hrow⟩
  · simp
  · have := row_ints hrow
    subst this
    intro k hk
    obtain rfl : k = b := by simpa using hk
    have : v = .slice (some ⟨k, off, none⟩) (ints .u32 l).length c := by simpa using h1
    rw [this]
    rfl
/-- An answer of two numbers. -/
def pairD (r : Int × (Bool × List Int) × (Bool × List Int)) : D := .struct [.int .i64 r.1, bigD r.2.1.1 r.2.1.2, bigD r.2.2.1 r.2.2.2]
theorem fr_pair {B : Nat} {w : World} {r : Int × (Bool × List Int) × (Bool × List Int)} {vq vr : Value} (h : TwoR B w vq vr r.2.1.2 r.2.2.2) : Fr B w (pairD r) [.int .i64 r.1, .bool r.2.1.1, vq, .bool r.2.2.1, vr] := by
  obtain ⟨fq, kq, oq, bq⟩ := kdR_K h.1
  obtain ⟨fr, kr, or, br⟩ := kdR_K h.2
  refine ⟨fq ++ fr, ?_, List.nodup_append.2 ⟨oq.1, or.1, fun a ha b hb e => ?_⟩, fun k hk => ?_⟩
  · simp only [pairD, bigD, D.K, D.Fields]
    refine ⟨[.int .i64 r.1], [.bool r.2.1.1, vq, .bool r.2.2.1, vr], [], fq ++ fr, rfl, rfl, ⟨rfl, rfl⟩, [.bool r.2.1.1, vq], [.bool r.2.2.1, vr], fq, fr, rfl, rfl, ⟨[.bool r.2.1.1], [vq], [], fq, rfl, rfl, ⟨rfl, rfl⟩, [vq], [], fq, [], rfl, by simp, ?_, rfl, rfl⟩, [.bool r.2.2.1, vr], [], fr, [], by simp, by simp, ⟨[.bool r.2.2.1], [vr], [], fr, rfl, rfl, ⟨rfl, rfl⟩, [vr], [], fr, [], rfl, by simp, ?_, rfl, rfl⟩, rfl, rfl⟩
    · simpa only [D.K] using kq
    · simpa only [D.K] using kr
  · subst e
    exact h.1.1 a (bq a ha) (br a hb).symm
  · rcases List.mem_append.1 hk with hk | hk
    · exact oq.2 k hk
    · exact or.2 k hk
theorem bgDiv_len (m : Bool) (l : List Int) (m' : Bool) (l' : List Int) (hu : Us l) (hu' : Us l') : (bgDiv m l m' l').2.1.2.length ≤ 1048576 ∧ (bgDiv m l m' l').2.2.2.length ≤ 1048576 := by
  unfold bgDiv
  by_cases hf : (bgFault m l || bgFault m' l') = true
  · rw [if_pos hf]; simp
  · rw [if_neg hf]
    by_cases h0 : l'.length = 0
    · rw [if_pos h0]; simp
    · rw [if_neg h0]
      have hb : bgFault m l = false ∧ bgFault m' l' = false := by simpa using hf
      have g0 : GoodD m l := ⟨hu, hb.1⟩
      have g1 : GoodD m' l' := ⟨hu', hb.2⟩
      have hpos := g1.pos h0
      have h1 := val_lt hu
      have h2 := val_lt hu'
      have p1 := PW_mono g0.len
      have p2 := PW_mono g1.len
      have q0 : 0 ≤ val l / val l' := Int.ediv_nonneg (val_nonneg hu) (by omega)
      have q1 : val l / val l' ≤ val l := Int.ediv_le_self _ (val_nonneg hu)
      have r0 : 0 ≤ val l % val l' := Int.emod_nonneg _ (by omega)
      have r1 := Int.emod_lt_of_pos (val l) hpos
      have e41 : PW 41 = 4294967296 * PW 40 := PW_succ 40
      have p40 := PW_pos 40
      constructor
      · refine Nat.le_trans (lim_len_le (n := 41) ?_ ?_) (by omega)
        · unfold dvQ; split <;> omega
        · unfold dvQ; split <;> omega
      · refine Nat.le_trans (lim_len_le (n := 41) ?_ ?_) (by omega)
        · unfold dvR; split <;> omega
        · unfold dvR; split <;> omega
theorem eqPair (r : Int × (Bool × List Int) × (Bool × List Int)) (h : r.2.1.2.length ≤ 1048576 ∧ r.2.2.2.length ≤ 1048576) : EqA Try.prog 42 (pairD r) :=
  eqBigPair_of r.1 r.2.1.1 (u32s r.2.1.2) r.2.2.1 (u32s r.2.2.2) (eqBg r.2.1.1 r.2.1.2 (by omega)) (eqBg r.2.2.1 r.2.2.2 (by omega))
theorem mkPair (r : Int × (Bool × List Int) × (Bool × List Int)) (h : r.2.1.2.length ≤ 1048576 ∧ r.2.2.2.length ≤ 1048576) : (pairD r).tcnt ≤ 1099511627776 ∧ MkA Try.prog 43 (pairD r) ∧ HdA Try.prog 44 (pairD r) := by
  have hb := mkBg r.2.1.1 r.2.1.2 (by rw [bulk_bigD]; exact h.1)
  have hb2 := mkBg r.2.2.1 r.2.2.2 (by rw [bulk_bigD]; exact h.2)
  refine ⟨?_, markBigPair_of r.1 r.2.1.1 (u32s r.2.1.2) r.2.2.1 (u32s r.2.2.2) hb.2 hb2.2, heldBigPair_of r.1 r.2.1.1 (u32s r.2.1.2) r.2.2.1 (u32s r.2.2.2) (heldBig_of r.2.1.1 (u32s r.2.1.2) (heldUint32S_of (u32s r.2.1.2) (by rw [u32s_length]; omega) (u32s_mem _))) (heldBig_of r.2.2.1 (u32s r.2.2.2) (heldUint32S_of (u32s r.2.2.2) (by rw [u32s_length]; omega) (u32s_mem _)))⟩
  simp only [pairD, bigD, D.tcnt, D.tcnts, cnts_u32s]
  omega
theorem walkBigDivMod (m m' : Bool) (l l' : List Int) (hl : l.length ≤ 140737488351232) (hl' : l'.length ≤ 140737488351232) (hu : Us l) (hu' : Us l') (w : World) (c c' : List Value) (h : Rd w (bigD m l) c) (h' : Rd w (bigD m' l') c') :
    Calls Try.prog 11 #[.agg c.toArray, .agg c'.toArray] w fun e w' => e = .returned (.bool true) ∧ Below w.heap.size w w' :=
  lawFnExactBigDivMod (bigD m l) (bigD m' l') (pairD (bgDiv m l m' l')) rfl (szBg m l hl) (toBg m l) (eqBg m l hl) (mkBg m l) rfl (szBg m' l' hl') (toBg m' l') (eqBg m' l' hl') (mkBg m' l') rfl (eqPair _ (bgDiv_len _ _ _ _ hu hu')) (fun _ => mkPair _ (bgDiv_len _ _ _ _ hu hu'))
    (fun _ w c c' h h' => by
      obtain ⟨A, n, rfl, hc, hr⟩ := bigArg hl h
      obtain ⟨A', n', rfl, hc', hr'⟩ := bigArg hl' h'
      refine (specBigDivMod m m' l l' hu hu' hl hl' A A' n n' hc hc' w hr hr').mono ?_
      rintro e w' ⟨vq, vr, rfl, hv, hb⟩
      exact ⟨_, rfl, fr_pair hv, hb⟩)
    (fun _ w c c' h h' => by
      obtain ⟨A, n, rfl, hc, hr⟩ := bigArg hl h
      obtain ⟨A', n', rfl, hc', hr'⟩ := bigArg hl' h'
      refine (implBigDivMod m m' l l' hu hu' hl hl' A A' n n' hc hc' w hr hr').mono ?_
      rintro e w' ⟨vq, vr, rfl, hv, hb⟩
      exact ⟨_, rfl, fr_pair hv, hb⟩) w c c' h h'

end Go.Proofs.Ytajmeeppigdjnaa
