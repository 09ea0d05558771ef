/- The program's shape of a core term: primitives, other kinds, cases; no condition. -/
import Derived.Test.YthidbmjdphfddaaCfI4
namespace Go.Proofs.Ythidbmjdphfddaa
open Go Go.RowKit Go.Sort
set_option linter.unusedVariables false
set_option linter.unusedSimpArgs false

section
variable {W0 w : World} {b off : Nat} {n : ByteArray} {m : Bool} {l : List Int} {ns : List ByteArray} {nk : Nat} {qs : List Ca} {AL AN AK AA : Option Addr} {cL cN cK cA : Nat}
set_option maxRecDepth 100000 in
theorem fits9 (A : At W0 b off 9 n m l.length ns.length nk qs.length AL AN AK AA cL cN cK cA) (hb : Below W0.heap.size W0 w) :
    Calls Try.prog 227 #[.agg #[.pointer (some ⟨b, off, none⟩)]] w (Says (fitP 9 n m l ns nk qs) w) := by
  have FIT : Hid (fitP 9 n m l ns nk qs ↔ (0 < primN n ∧ (nk : Int) = primN n ∧ (ns.length == 0) = true ∧ (qs.length == 0) = true ∧ (!m && l.length == 0) = true)) := by
    show _ ↔ _
    constructor
    · intro h
      simp [fitP] at h
      simp [h]
    · intro h
      simp at h
      simp [fitP, h]
  have PR := primN_le n
  have CP := Lib.hid (implPrim n)
  have AD := Lib.hid A
  have HC0 := Lib.hid (below_al hb hb.size (.cells #[.pointer (some ⟨b, off, none⟩)] 242))
  have HB0 := Lib.hid (below_alloc1 w (.cells #[.pointer (some ⟨b, off, none⟩)] 242))
  have BX0 := Lib.hid (blk_new w (.cells #[.pointer (some ⟨b, off, none⟩)] 242))
  clear A hb
  have y1 := AD.out.c1 _ HC0.out
  have y5 := AD.out.c5 _ HC0.out
  obtain ⟨z1, q1⟩ : ∃ z, (ns.length == 0) = z := ⟨_, rfl⟩
  obtain ⟨z2, q2⟩ : ∃ z, (qs.length == 0) = z := ⟨_, rfl⟩
  obtain ⟨z3, q3⟩ : ∃ z, (!m && l.length == 0) = z := ⟨_, rfl⟩
  rw [q1, q2, q3] at FIT
  have Q1 := Lib.hid q1
  have Q2 := Lib.hid q2
  have Q3 := Lib.hid q3
  clear q1 q2 q3
  generalize primN n = q at *
  by_cases h0 : 0 < q
  · by_cases he : (nk : Int) = q
    · have HE := Lib.hid he
      subst he
      cases z1
      · go_enter Try.func227, Try.ntmps227
        go_wp2_with (first | (go_at_call 228; refine (CP.out _).mono ?_; rintro e w1 ⟨rfl, rfl⟩) | (go_at_call 216; fail))
        refine (cNoNames AD.out HC0.out false Q1.out).mono ?_
        rintro e w1 ⟨rfl, hb1⟩
        have HB1 := Lib.hid (HB0.out.trans (hb1.mono HB0.out.size))
        have HC1 := Lib.hid (HC0.out.trans (hb1.mono HC0.out.size))
        have BX1 := Lib.hid (blk_below BX0.out hb1)
        have z0 : World.cell? w1 ⟨w.heap.size, 0, none⟩ = some (.pointer (some ⟨b, off, none⟩)) := (blk_cell BX1.out 0).trans rfl
        clear hb1
        go_wp2_with fail
        go_ret
        refine says_of ?_ HB1.out
        rw [FIT.out]
        simp
      · cases z2
        · go_enter Try.func227, Try.ntmps227
          go_wp2_with (first | (go_at_call 228; refine (CP.out _).mono ?_; rintro e w1 ⟨rfl, rfl⟩) | (go_at_call 216; fail))
          refine (cNoNames AD.out HC0.out true Q1.out).mono ?_
          rintro e w1 ⟨rfl, hb1⟩
          have HB1 := Lib.hid (HB0.out.trans (hb1.mono HB0.out.size))
          have HC1 := Lib.hid (HC0.out.trans (hb1.mono HC0.out.size))
          have BX1 := Lib.hid (blk_below BX0.out hb1)
          have z0 : World.cell? w1 ⟨w.heap.size, 0, none⟩ = some (.pointer (some ⟨b, off, none⟩)) := (blk_cell BX1.out 0).trans rfl
          clear hb1
          go_wp2_with fail
          refine (cNoAlts AD.out HC1.out false Q2.out).mono ?_
          rintro e w2 ⟨rfl, hb1⟩
          have HB2 := Lib.hid (HB1.out.trans (hb1.mono HB1.out.size))
          have HC2 := Lib.hid (HC1.out.trans (hb1.mono HC1.out.size))
          have BX2 := Lib.hid (blk_below BX1.out hb1)
          have z0 : World.cell? w2 ⟨w.heap.size, 0, none⟩ = some (.pointer (some ⟨b, off, none⟩)) := (blk_cell BX2.out 0).trans rfl
          clear hb1
          go_wp2_with fail
          go_ret
          refine says_of ?_ HB2.out
          rw [FIT.out]
          simp
        · cases z3
          · go_enter Try.func227, Try.ntmps227
            go_wp2_with (first | (go_at_call 228; refine (CP.out _).mono ?_; rintro e w1 ⟨rfl, rfl⟩) | (go_at_call 216; fail))
            refine (cNoNames AD.out HC0.out true Q1.out).mono ?_
            rintro e w1 ⟨rfl, hb1⟩
            have HB1 := Lib.hid (HB0.out.trans (hb1.mono HB0.out.size))
            have HC1 := Lib.hid (HC0.out.trans (hb1.mono HC0.out.size))
            have BX1 := Lib.hid (blk_below BX0.out hb1)
            have z0 : World.cell? w1 ⟨w.heap.size, 0, none⟩ = some (.pointer (some ⟨b, off, none⟩)) := (blk_cell BX1.out 0).trans rfl
            clear hb1
            go_wp2_with fail
            refine (cNoAlts AD.out HC1.out true Q2.out).mono ?_
            rintro e w2 ⟨rfl, hb1⟩
            have HB2 := Lib.hid (HB1.out.trans (hb1.mono HB1.out.size))
            have HC2 := Lib.hid (HC1.out.trans (hb1.mono HC1.out.size))
            have BX2 := Lib.hid (blk_below BX1.out hb1)
            have z0 : World.cell? w2 ⟨w.heap.size, 0, none⟩ = some (.pointer (some ⟨b, off, none⟩)) := (blk_cell BX2.out 0).trans rfl
            clear hb1
            go_wp2_with fail
            refine (cNoNumber AD.out HC2.out false Q3.out).mono ?_
            rintro e w3 ⟨rfl, hb1⟩
            have HB3 := Lib.hid (HB2.out.trans (hb1.mono HB2.out.size))
            have HC3 := Lib.hid (HC2.out.trans (hb1.mono HC2.out.size))
            have BX3 := Lib.hid (blk_below BX2.out hb1)
            have z0 : World.cell? w3 ⟨w.heap.size, 0, none⟩ = some (.pointer (some ⟨b, off, none⟩)) := (blk_cell BX3.out 0).trans rfl
            clear hb1
            go_wp2_with fail
            go_ret
            refine says_of ?_ HB3.out
            rw [FIT.out]
            simp
          · go_enter Try.func227, Try.ntmps227
            go_wp2_with (first | (go_at_call 228; refine (CP.out _).mono ?_; rintro e w1 ⟨rfl, rfl⟩) | (go_at_call 216; fail))
            refine (cNoNames AD.out HC0.out true Q1.out).mono ?_
            rintro e w1 ⟨rfl, hb1⟩
            have HB1 := Lib.hid (HB0.out.trans (hb1.mono HB0.out.size))
            have HC1 := Lib.hid (HC0.out.trans (hb1.mono HC0.out.size))
            have BX1 := Lib.hid (blk_below BX0.out hb1)
            have z0 : World.cell? w1 ⟨w.heap.size, 0, none⟩ = some (.pointer (some ⟨b, off, none⟩)) := (blk_cell BX1.out 0).trans rfl
            clear hb1
            go_wp2_with fail
            refine (cNoAlts AD.out HC1.out true Q2.out).mono ?_
            rintro e w2 ⟨rfl, hb1⟩
            have HB2 := Lib.hid (HB1.out.trans (hb1.mono HB1.out.size))
            have HC2 := Lib.hid (HC1.out.trans (hb1.mono HC1.out.size))
            have BX2 := Lib.hid (blk_below BX1.out hb1)
            have z0 : World.cell? w2 ⟨w.heap.size, 0, none⟩ = some (.pointer (some ⟨b, off, none⟩)) := (blk_cell BX2.out 0).trans rfl
            clear hb1
            go_wp2_with fail
            refine (cNoNumber AD.out HC2.out true Q3.out).mono ?_
            rintro e w3 ⟨rfl, hb1⟩
            have HB3 := Lib.hid (HB2.out.trans (hb1.mono HB2.out.size))
            have HC3 := Lib.hid (HC2.out.trans (hb1.mono HC2.out.size))
            have BX3 := Lib.hid (blk_below BX2.out hb1)
            have z0 : World.cell? w3 ⟨w.heap.size, 0, none⟩ = some (.pointer (some ⟨b, off, none⟩)) := (blk_cell BX3.out 0).trans rfl
            clear hb1
            go_wp2_with fail
            go_ret
            refine says_of ?_ HB3.out
            rw [FIT.out]
            simp; omega
    · have he' : ((nk : Int) == q) = false := by rw [beq_eq_false_iff_ne]; exact he
      have HE := Lib.hid he
      clear he
      go_enter Try.func227, Try.ntmps227
      go_wp2_with (go_at_call 228; refine (CP.out _).mono ?_; rintro e w1 ⟨rfl, rfl⟩)
      go_ret
      refine says_of ?_ HB0.out
      rw [FIT.out]
      simp [HE.out]
  · go_enter Try.func227, Try.ntmps227
    go_wp2_with (go_at_call 228; refine (CP.out _).mono ?_; rintro e w1 ⟨rfl, rfl⟩)
    go_ret
    refine says_of ?_ HB0.out
    rw [FIT.out]
    simp; omega
set_option maxRecDepth 100000 in
theorem fitsX (k : Int) (hk : ¬ (1 ≤ k ∧ k ≤ 10)) :
    Calls Try.prog 230 #[.agg #[.pointer (some ⟨b, off, none⟩)]] w (Says (fitP k n m l ns nk qs) w) := by
  have FIT : Hid (¬ fitP k n m l ns nk qs) := by
    show ¬ _
    unfold fitP
    rintro ⟨_, _, _, h⟩
    omega
  have HB0 := Lib.hid (below_alloc1 w (.cells #[.pointer (some ⟨b, off, none⟩)] 244))
  clear hk
  go_enter Try.func230, Try.ntmps230
  go_wp2
  go_ret
  exact says_of (iff_of_false (by decide) FIT.out) HB0.out
end
end Go.Proofs.Ythidbmjdphfddaa
