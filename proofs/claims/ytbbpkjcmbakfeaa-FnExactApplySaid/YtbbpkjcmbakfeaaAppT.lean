/- Binds applied to a type: the reference's whole function; no condition. -/
import Derived.Test.YtbbpkjcmbakfeaaAppB
namespace Go.Proofs.Ytbbpkjcmbakfeaa
open Go.RowKit
set_option linter.unusedVariables false
set_option linter.unusedSimpArgs false

def Ty.none_ : Ty := .mk 0 0 ⟨#[]⟩ []
theorem fr_none (B : Nat) (w : World) : Fr B w Ty.none_.enc [.int .i64 0, .int .i64 0, .string ⟨#[]⟩, .slice none 0 0] := fr_leaf' _ _ _ _ _ _ _ (Nat.zero_le _)
def applyRes (bs : List (Int × Ty)) (x : Ty) : Ty := if (x.fault 1 20000).1 = true ∨ bindsGood bs = false ∨ (x.lrg bs 1 20000).1 = true then Ty.none_ else x.app bs
theorem bindsGood_mem {bs : List (Int × Ty)} (h : bindsGood bs = true) : ∀ p ∈ bs, (p.2.fault 1 20000).1 = false := fun p hp => by
  have := List.all_eq_true.1 h p hp
  simpa using this

set_option maxRecDepth 100000 in
set_option maxHeartbeats 8000000 in
theorem specApply (bs : List (Int × Ty)) (hbs : BsOk bs) (x : Ty) (hx : x.ok) (w : World) (A0 : Option Addr) (p0 : Nat) (cs : List Value) (hB : RdRow w 5 A0 (bindsD bs)) (h : Rd w x.enc cs) :
    Calls Try.prog 32 #[.slice A0 bs.length p0, .agg cs.toArray] w fun e w' => ∃ cs', e = .returned (.agg cs'.toArray) ∧ Fr w.heap.size w' (applyRes bs x).enc cs' ∧ Below w.heap.size w w' := by
  obtain ⟨u0, u1, u2, u3, rfl⟩ := cells4 (h.len.trans x.n)
  have HB2 : Hid (Below w.heap.size w ((w.alloc (.cells #[u0, u1, u2, u3] 30)).alloc (.cells #[.int .i64 0, .int .i64 0, .string ⟨#[]⟩, .slice none 0 0] 30))) := (below_alloc1 _ _).alloc (by simp) _
  have HB0 : Hid (Below w.heap.size w (((w.alloc (.cells #[u0, u1, u2, u3] 30)).alloc (.cells #[.int .i64 0, .int .i64 0, .string ⟨#[]⟩, .slice none 0 0] 30)).alloc (.cells #[.int .i64 20000] 2))) := HB2.out.alloc HB2.out.size _
  have BX0 := Lib.hid (blk_old (blk_old (blk_new w (.cells #[u0, u1, u2, u3] 30)) (.cells #[.int .i64 0, .int .i64 0, .string ⟨#[]⟩, .slice none 0 0] 30)) (.cells #[.int .i64 20000] 2))
  have BZ0 := Lib.hid (blk_old (blk_new_g (w := w.alloc (.cells #[u0, u1, u2, u3] 30)) (g := w.heap.size + 1) (o := .cells #[.int .i64 0, .int .i64 0, .string ⟨#[]⟩, .slice none 0 0] 30) (by simp)) (.cells #[.int .i64 20000] 2))
  have BL0 := Lib.hid (blk_new_g (w := ((w.alloc (.cells #[u0, u1, u2, u3] 30)).alloc (.cells #[.int .i64 0, .int .i64 0, .string ⟨#[]⟩, .slice none 0 0] 30))) (g := w.heap.size + 1 + 1) (o := .cells #[.int .i64 20000] 2) (by simp))
  have SZ : Hid (((w.alloc (.cells #[u0, u1, u2, u3] 30)).alloc (.cells #[.int .i64 0, .int .i64 0, .string ⟨#[]⟩, .slice none 0 0] 30)).heap.size = w.heap.size + 1 + 1) := (by show _ = _; simp)
  have HW0 := Lib.hid (Below.refl (((w.alloc (.cells #[u0, u1, u2, u3] 30)).alloc (.cells #[.int .i64 0, .int .i64 0, .string ⟨#[]⟩, .slice none 0 0] 30)).alloc (.cells #[.int .i64 20000] 2)).heap.size (((w.alloc (.cells #[u0, u1, u2, u3] 30)).alloc (.cells #[.int .i64 0, .int .i64 0, .string ⟨#[]⟩, .slice none 0 0] 30)).alloc (.cells #[.int .i64 20000] 2)))
  have CT1 := Lib.hid (specTypeFault x hx (((w.alloc (.cells #[u0, u1, u2, u3] 30)).alloc (.cells #[.int .i64 0, .int .i64 0, .string ⟨#[]⟩, .slice none 0 0] 30)).alloc (.cells #[.int .i64 20000] 2)) _ (h.below HB0.out))
  have CT2 : Hid (∀ w1, Below (((w.alloc (.cells #[u0, u1, u2, u3] 30)).alloc (.cells #[.int .i64 0, .int .i64 0, .string ⟨#[]⟩, .slice none 0 0] 30)).alloc (.cells #[.int .i64 20000] 2)).heap.size (((w.alloc (.cells #[u0, u1, u2, u3] 30)).alloc (.cells #[.int .i64 0, .int .i64 0, .string ⟨#[]⟩, .slice none 0 0] 30)).alloc (.cells #[.int .i64 20000] 2)) w1 → _) := fun w1 hb => specBinds bs hbs w1 A0 p0 (hB.below (by omega) (HB0.out.trans (hb.mono HB0.out.size)))
  have CT3 : Hid ((x.fault 1 20000).1 = false → ∀ w2, Below (((w.alloc (.cells #[u0, u1, u2, u3] 30)).alloc (.cells #[.int .i64 0, .int .i64 0, .string ⟨#[]⟩, .slice none 0 0] 30)).alloc (.cells #[.int .i64 20000] 2)).heap.size (((w.alloc (.cells #[u0, u1, u2, u3] 30)).alloc (.cells #[.int .i64 0, .int .i64 0, .string ⟨#[]⟩, .slice none 0 0] 30)).alloc (.cells #[.int .i64 20000] 2)) w2 → Calls Try.prog 82 #[.slice A0 bs.length p0, .agg #[u0, u1, u2, u3], .int .i64 1, .pointer (some ⟨w.heap.size + 1 + 1, 0, none⟩)] w2 fun e w' => e = .returned (.bool (x.lrg bs 1 20000).1) ∧ Below w.heap.size w w' ∧ Beyond (w.heap.size + 1 + 1) w2 w' ∧ w'.heap[w.heap.size]? = w2.heap[w.heap.size]? ∧ w'.heap[w.heap.size + 1]? = w2.heap[w.heap.size + 1]?) := fun hf w2 hb => by
    have hg := Ty.good hf
    have hw2 : Below ((w.alloc (.cells #[u0, u1, u2, u3] 30)).alloc (.cells #[.int .i64 0, .int .i64 0, .string ⟨#[]⟩, .slice none 0 0] 30)).heap.size ((w.alloc (.cells #[u0, u1, u2, u3] 30)).alloc (.cells #[.int .i64 0, .int .i64 0, .string ⟨#[]⟩, .slice none 0 0] 30)) w2 := ((Below.refl _ _).alloc (Nat.le_refl _) (.cells #[.int .i64 20000] 2)).trans (hb.mono (by simp))
    have tl : Tl ((w.alloc (.cells #[u0, u1, u2, u3] 30)).alloc (.cells #[.int .i64 0, .int .i64 0, .string ⟨#[]⟩, .slice none 0 0] 30)) 20000 w2 := ⟨hw2, by rw [SZ.out]; exact blk_below BL0.out hb⟩
    have c := SpecLrg_all bs hbs x hg.1 (by omega) ((w.alloc (.cells #[u0, u1, u2, u3] 30)).alloc (.cells #[.int .i64 0, .int .i64 0, .string ⟨#[]⟩, .slice none 0 0] 30)) w2 A0 p0 [u0, u1, u2, u3] 1 20000 (hB.below (by omega) HB2.out) (h.below HB2.out) tl (by omega) (by omega) (by omega) (by omega)
    rw [SZ.out] at c
    refine c.mono ?_
    rintro e w' ⟨he, tl', by'⟩
    have hlt := SZ.out
    refine ⟨he, HB2.out.trans (tl'.below.mono HB2.out.size), by', ?_, ?_⟩
    · exact (tl'.below.block _ (by omega)).trans (hw2.block _ (by omega)).symm
    · exact (tl'.below.block _ (by omega)).trans (hw2.block _ (by omega)).symm
  have CT4 : Hid ((x.fault 1 20000).1 = false → bindsGood bs = true → ∀ w3, Below w.heap.size w w3 → Calls Try.prog 83 #[.slice A0 bs.length p0, .agg #[u0, u1, u2, u3]] w3 fun e w' => ∃ cs', e = .returned (.agg cs'.toArray) ∧ Fr w3.heap.size w' (x.app bs).enc cs' ∧ Below w3.heap.size w3 w') := fun hf hg w3 hb => by
    have hx2 := Ty.good hf
    exact SpecApp_all bs hbs.len (fun p hp => by have := (Ty.good (bindsGood_mem hg p hp)).2; omega) x hx2.1 (by omega) w3 A0 p0 _ (hB.below (by omega) hb) (h.below hb)
  have RR := Lib.hid (show applyRes bs x = if (x.fault 1 20000).1 = true ∨ bindsGood bs = false ∨ (x.lrg bs 1 20000).1 = true then Ty.none_ else x.app bs from rfl)
  generalize applyRes bs x = R at *
  clear h hB hbs hx
  cases hf : (x.fault 1 20000).1 with
  | true =>
    rw [hf] at CT1
    have RN := Lib.hid (RR.out.trans (if_pos (.inl hf)))
    clear hf RR
    go_enter Try.func32, Try.ntmps32
    go_wp2_with fail
    refine (CT1.out).mono ?_
    rintro e w1 ⟨rfl, hb⟩
    have HW1 := Lib.hid (HW0.out.trans (hb.mono HW0.out.size))
    have HB1 := Lib.hid (HB0.out.trans (HW1.out.mono HB0.out.size))
    have BX1 := Lib.hid (blk_below BX0.out HW1.out)
    have BZ1 := Lib.hid (blk_below BZ0.out HW1.out)
    clear hb
    have b0 : World.cell? w1 ⟨w.heap.size, 0, none⟩ = some u0 := (blk_cell BX1.out 0).trans rfl
    have b1 : World.cell? w1 ⟨w.heap.size, 1, none⟩ = some u1 := (blk_cell BX1.out 1).trans rfl
    have b2 : World.cell? w1 ⟨w.heap.size, 2, none⟩ = some u2 := (blk_cell BX1.out 2).trans rfl
    have b3 : World.cell? w1 ⟨w.heap.size, 3, none⟩ = some u3 := (blk_cell BX1.out 3).trans rfl
    have zr0 : World.cell? w1 ⟨w.heap.size + 1, 0, none⟩ = some (.int .i64 0) := (blk_cell BZ1.out 0).trans rfl
    have zf0 := blk_frozen BZ1.out 0
    have zr1 : World.cell? w1 ⟨w.heap.size + 1, 1, none⟩ = some (.int .i64 0) := (blk_cell BZ1.out 1).trans rfl
    have zf1 := blk_frozen BZ1.out 1
    have zr2 : World.cell? w1 ⟨w.heap.size + 1, 2, none⟩ = some (.string ⟨#[]⟩) := (blk_cell BZ1.out 2).trans rfl
    have zf2 := blk_frozen BZ1.out 2
    have zr3 : World.cell? w1 ⟨w.heap.size + 1, 3, none⟩ = some (.slice none 0 0) := (blk_cell BZ1.out 3).trans rfl
    have zf3 := blk_frozen BZ1.out 3
    go_wp2
    refine bodyPost_ret (v := .agg #[.int .i64 0, .int .i64 0, .string ⟨#[]⟩, .slice none 0 0]) (by simp [results, Try.results32, go_sem, zr0, zr1, zr2, zr3]) rfl ⟨[.int .i64 0, .int .i64 0, .string ⟨#[]⟩, .slice none 0 0], rfl, ?_, below_store4 (HB1.out) (by omega) _ _ _ _⟩
    rw [RN.out]
    exact fr_none _ _
  | false =>
    rw [hf] at CT1
    have HF := Lib.hid hf
    replace CT3 := Lib.hid (CT3.out hf)
    replace CT4 := Lib.hid (CT4.out hf)
    cases hg : bindsGood bs with
    | false =>
      have RN := Lib.hid (RR.out.trans (if_pos (.inr (.inl hg))))
      clear hf
      rw [hg] at CT2
      clear RR hg
      go_enter Try.func32, Try.ntmps32
      go_wp2_with fail
      refine (CT1.out).mono ?_
      rintro e w1 ⟨rfl, hb⟩
      have HW1 := Lib.hid (HW0.out.trans (hb.mono HW0.out.size))
      have HB1 := Lib.hid (HB0.out.trans (HW1.out.mono HB0.out.size))
      have BX1 := Lib.hid (blk_below BX0.out HW1.out)
      have BZ1 := Lib.hid (blk_below BZ0.out HW1.out)
      clear hb
      have b0 : World.cell? w1 ⟨w.heap.size, 0, none⟩ = some u0 := (blk_cell BX1.out 0).trans rfl
      have b1 : World.cell? w1 ⟨w.heap.size, 1, none⟩ = some u1 := (blk_cell BX1.out 1).trans rfl
      have b2 : World.cell? w1 ⟨w.heap.size, 2, none⟩ = some u2 := (blk_cell BX1.out 2).trans rfl
      have b3 : World.cell? w1 ⟨w.heap.size, 3, none⟩ = some u3 := (blk_cell BX1.out 3).trans rfl
      have zr0 : World.cell? w1 ⟨w.heap.size + 1, 0, none⟩ = some (.int .i64 0) := (blk_cell BZ1.out 0).trans rfl
      have zf0 := blk_frozen BZ1.out 0
      have zr1 : World.cell? w1 ⟨w.heap.size + 1, 1, none⟩ = some (.int .i64 0) := (blk_cell BZ1.out 1).trans rfl
      have zf1 := blk_frozen BZ1.out 1
      have zr2 : World.cell? w1 ⟨w.heap.size + 1, 2, none⟩ = some (.string ⟨#[]⟩) := (blk_cell BZ1.out 2).trans rfl
      have zf2 := blk_frozen BZ1.out 2
      have zr3 : World.cell? w1 ⟨w.heap.size + 1, 3, none⟩ = some (.slice none 0 0) := (blk_cell BZ1.out 3).trans rfl
      have zf3 := blk_frozen BZ1.out 3
      go_wp2_with fail
      refine (CT2.out w1 HW1.out).mono ?_
      rintro e w2 ⟨rfl, hb⟩
      clear b0 b1 b2 b3 zr0 zr1 zr2 zr3 zf0 zf1 zf2 zf3
      have HW2 := Lib.hid (HW1.out.trans (hb.mono HW1.out.size))
      have HB2 := Lib.hid (HB0.out.trans (HW2.out.mono HB0.out.size))
      have BX2 := Lib.hid (blk_below BX0.out HW2.out)
      have BZ2 := Lib.hid (blk_below BZ0.out HW2.out)
      clear hb
      have b0 : World.cell? w2 ⟨w.heap.size, 0, none⟩ = some u0 := (blk_cell BX2.out 0).trans rfl
      have b1 : World.cell? w2 ⟨w.heap.size, 1, none⟩ = some u1 := (blk_cell BX2.out 1).trans rfl
      have b2 : World.cell? w2 ⟨w.heap.size, 2, none⟩ = some u2 := (blk_cell BX2.out 2).trans rfl
      have b3 : World.cell? w2 ⟨w.heap.size, 3, none⟩ = some u3 := (blk_cell BX2.out 3).trans rfl
      have zr0 : World.cell? w2 ⟨w.heap.size + 1, 0, none⟩ = some (.int .i64 0) := (blk_cell BZ2.out 0).trans rfl
      have zf0 := blk_frozen BZ2.out 0
      have zr1 : World.cell? w2 ⟨w.heap.size + 1, 1, none⟩ = some (.int .i64 0) := (blk_cell BZ2.out 1).trans rfl
      have zf1 := blk_frozen BZ2.out 1
      have zr2 : World.cell? w2 ⟨w.heap.size + 1, 2, none⟩ = some (.string ⟨#[]⟩) := (blk_cell BZ2.out 2).trans rfl
      have zf2 := blk_frozen BZ2.out 2
      have zr3 : World.cell? w2 ⟨w.heap.size + 1, 3, none⟩ = some (.slice none 0 0) := (blk_cell BZ2.out 3).trans rfl
      have zf3 := blk_frozen BZ2.out 3
      go_wp2
      refine bodyPost_ret (v := .agg #[.int .i64 0, .int .i64 0, .string ⟨#[]⟩, .slice none 0 0]) (by simp [results, Try.results32, go_sem, zr0, zr1, zr2, zr3]) rfl ⟨[.int .i64 0, .int .i64 0, .string ⟨#[]⟩, .slice none 0 0], rfl, ?_, below_store4 (HB2.out) (by omega) _ _ _ _⟩
      rw [RN.out]
      exact fr_none _ _
    | true =>
      rw [hg] at CT2
      have CT5 := Lib.hid (CT4.out hg)
      clear CT4
      cases hl : (x.lrg bs 1 20000).1 with
      | true =>
        have RN := Lib.hid (RR.out.trans (if_pos (.inr (.inr hl))))
        rw [hl] at CT3
        clear RR hg hl hf
        go_enter Try.func32, Try.ntmps32
        go_wp2_with fail
        refine (CT1.out).mono ?_
        rintro e w1 ⟨rfl, hb⟩
        have HW1 := Lib.hid (HW0.out.trans (hb.mono HW0.out.size))
        have HB1 := Lib.hid (HB0.out.trans (HW1.out.mono HB0.out.size))
        have BX1 := Lib.hid (blk_below BX0.out HW1.out)
        have BZ1 := Lib.hid (blk_below BZ0.out HW1.out)
        clear hb
        have b0 : World.cell? w1 ⟨w.heap.size, 0, none⟩ = some u0 := (blk_cell BX1.out 0).trans rfl
        have b1 : World.cell? w1 ⟨w.heap.size, 1, none⟩ = some u1 := (blk_cell BX1.out 1).trans rfl
        have b2 : World.cell? w1 ⟨w.heap.size, 2, none⟩ = some u2 := (blk_cell BX1.out 2).trans rfl
        have b3 : World.cell? w1 ⟨w.heap.size, 3, none⟩ = some u3 := (blk_cell BX1.out 3).trans rfl
        have zr0 : World.cell? w1 ⟨w.heap.size + 1, 0, none⟩ = some (.int .i64 0) := (blk_cell BZ1.out 0).trans rfl
        have zf0 := blk_frozen BZ1.out 0
        have zr1 : World.cell? w1 ⟨w.heap.size + 1, 1, none⟩ = some (.int .i64 0) := (blk_cell BZ1.out 1).trans rfl
        have zf1 := blk_frozen BZ1.out 1
        have zr2 : World.cell? w1 ⟨w.heap.size + 1, 2, none⟩ = some (.string ⟨#[]⟩) := (blk_cell BZ1.out 2).trans rfl
        have zf2 := blk_frozen BZ1.out 2
        have zr3 : World.cell? w1 ⟨w.heap.size + 1, 3, none⟩ = some (.slice none 0 0) := (blk_cell BZ1.out 3).trans rfl
        have zf3 := blk_frozen BZ1.out 3
        go_wp2_with fail
        refine (CT2.out w1 HW1.out).mono ?_
        rintro e w2 ⟨rfl, hb⟩
        clear b0 b1 b2 b3 zr0 zr1 zr2 zr3 zf0 zf1 zf2 zf3
        have HW2 := Lib.hid (HW1.out.trans (hb.mono HW1.out.size))
        have HB2 := Lib.hid (HB0.out.trans (HW2.out.mono HB0.out.size))
        have BX2 := Lib.hid (blk_below BX0.out HW2.out)
        have BZ2 := Lib.hid (blk_below BZ0.out HW2.out)
        clear hb
        have b0 : World.cell? w2 ⟨w.heap.size, 0, none⟩ = some u0 := (blk_cell BX2.out 0).trans rfl
        have b1 : World.cell? w2 ⟨w.heap.size, 1, none⟩ = some u1 := (blk_cell BX2.out 1).trans rfl
        have b2 : World.cell? w2 ⟨w.heap.size, 2, none⟩ = some u2 := (blk_cell BX2.out 2).trans rfl
        have b3 : World.cell? w2 ⟨w.heap.size, 3, none⟩ = some u3 := (blk_cell BX2.out 3).trans rfl
        have zr0 : World.cell? w2 ⟨w.heap.size + 1, 0, none⟩ = some (.int .i64 0) := (blk_cell BZ2.out 0).trans rfl
        have zf0 := blk_frozen BZ2.out 0
        have zr1 : World.cell? w2 ⟨w.heap.size + 1, 1, none⟩ = some (.int .i64 0) := (blk_cell BZ2.out 1).trans rfl
        have zf1 := blk_frozen BZ2.out 1
        have zr2 : World.cell? w2 ⟨w.heap.size + 1, 2, none⟩ = some (.string ⟨#[]⟩) := (blk_cell BZ2.out 2).trans rfl
        have zf2 := blk_frozen BZ2.out 2
        have zr3 : World.cell? w2 ⟨w.heap.size + 1, 3, none⟩ = some (.slice none 0 0) := (blk_cell BZ2.out 3).trans rfl
        have zf3 := blk_frozen BZ2.out 3
        go_wp2_with fail
        refine (CT3.out w2 HW2.out).mono ?_
        rintro e w3 ⟨rfl, hb, hbe, hx0, hx1⟩
        clear b0 b1 b2 b3 zr0 zr1 zr2 zr3 zf0 zf1 zf2 zf3
        have HB3 := Lib.hid hb
        have BX3 := Lib.hid (hx0.trans BX2.out)
        have BZ3 := Lib.hid (hx1.trans BZ2.out)
        clear hb hbe hx0 hx1
        have b0 : World.cell? w3 ⟨w.heap.size, 0, none⟩ = some u0 := (blk_cell BX3.out 0).trans rfl
        have b1 : World.cell? w3 ⟨w.heap.size, 1, none⟩ = some u1 := (blk_cell BX3.out 1).trans rfl
        have b2 : World.cell? w3 ⟨w.heap.size, 2, none⟩ = some u2 := (blk_cell BX3.out 2).trans rfl
        have b3 : World.cell? w3 ⟨w.heap.size, 3, none⟩ = some u3 := (blk_cell BX3.out 3).trans rfl
        have zr0 : World.cell? w3 ⟨w.heap.size + 1, 0, none⟩ = some (.int .i64 0) := (blk_cell BZ3.out 0).trans rfl
        have zf0 := blk_frozen BZ3.out 0
        have zr1 : World.cell? w3 ⟨w.heap.size + 1, 1, none⟩ = some (.int .i64 0) := (blk_cell BZ3.out 1).trans rfl
        have zf1 := blk_frozen BZ3.out 1
        have zr2 : World.cell? w3 ⟨w.heap.size + 1, 2, none⟩ = some (.string ⟨#[]⟩) := (blk_cell BZ3.out 2).trans rfl
        have zf2 := blk_frozen BZ3.out 2
        have zr3 : World.cell? w3 ⟨w.heap.size + 1, 3, none⟩ = some (.slice none 0 0) := (blk_cell BZ3.out 3).trans rfl
        have zf3 := blk_frozen BZ3.out 3
        go_wp2
        refine bodyPost_ret (v := .agg #[.int .i64 0, .int .i64 0, .string ⟨#[]⟩, .slice none 0 0]) (by simp [results, Try.results32, go_sem, zr0, zr1, zr2, zr3]) rfl ⟨[.int .i64 0, .int .i64 0, .string ⟨#[]⟩, .slice none 0 0], rfl, ?_, below_store4 (HB3.out) (by omega) _ _ _ _⟩
        rw [RN.out]
        exact fr_none _ _
      | false =>
        have RN := Lib.hid (RR.out.trans (if_neg (by rw [hf, hg, hl]; simp)))
        rw [hl] at CT3
        clear RR hg hl hf
        go_enter Try.func32, Try.ntmps32
        go_wp2_with fail
        refine (CT1.out).mono ?_
        rintro e w1 ⟨rfl, hb⟩
        have HW1 := Lib.hid (HW0.out.trans (hb.mono HW0.out.size))
        have HB1 := Lib.hid (HB0.out.trans (HW1.out.mono HB0.out.size))
        have BX1 := Lib.hid (blk_below BX0.out HW1.out)
        have BZ1 := Lib.hid (blk_below BZ0.out HW1.out)
        clear hb
        have b0 : World.cell? w1 ⟨w.heap.size, 0, none⟩ = some u0 := (blk_cell BX1.out 0).trans rfl
        have b1 : World.cell? w1 ⟨w.heap.size, 1, none⟩ = some u1 := (blk_cell BX1.out 1).trans rfl
        have b2 : World.cell? w1 ⟨w.heap.size, 2, none⟩ = some u2 := (blk_cell BX1.out 2).trans rfl
        have b3 : World.cell? w1 ⟨w.heap.size, 3, none⟩ = some u3 := (blk_cell BX1.out 3).trans rfl
        have zr0 : World.cell? w1 ⟨w.heap.size + 1, 0, none⟩ = some (.int .i64 0) := (blk_cell BZ1.out 0).trans rfl
        have zf0 := blk_frozen BZ1.out 0
        have zr1 : World.cell? w1 ⟨w.heap.size + 1, 1, none⟩ = some (.int .i64 0) := (blk_cell BZ1.out 1).trans rfl
        have zf1 := blk_frozen BZ1.out 1
        have zr2 : World.cell? w1 ⟨w.heap.size + 1, 2, none⟩ = some (.string ⟨#[]⟩) := (blk_cell BZ1.out 2).trans rfl
        have zf2 := blk_frozen BZ1.out 2
        have zr3 : World.cell? w1 ⟨w.heap.size + 1, 3, none⟩ = some (.slice none 0 0) := (blk_cell BZ1.out 3).trans rfl
        have zf3 := blk_frozen BZ1.out 3
        go_wp2_with fail
        refine (CT2.out w1 HW1.out).mono ?_
        rintro e w2 ⟨rfl, hb⟩
        clear b0 b1 b2 b3 zr0 zr1 zr2 zr3 zf0 zf1 zf2 zf3
        have HW2 := Lib.hid (HW1.out.trans (hb.mono HW1.out.size))
        have HB2 := Lib.hid (HB0.out.trans (HW2.out.mono HB0.out.size))
        have BX2 := Lib.hid (blk_below BX0.out HW2.out)
        have BZ2 := Lib.hid (blk_below BZ0.out HW2.out)
        clear hb
        have b0 : World.cell? w2 ⟨w.heap.size, 0, none⟩ = some u0 := (blk_cell BX2.out 0).trans rfl
        have b1 : World.cell? w2 ⟨w.heap.size, 1, none⟩ = some u1 := (blk_cell BX2.out 1).trans rfl
        have b2 : World.cell? w2 ⟨w.heap.size, 2, none⟩ = some u2 := (blk_cell BX2.out 2).trans rfl
        have b3 : World.cell? w2 ⟨w.heap.size, 3, none⟩ = some u3 := (blk_cell BX2.out 3).trans rfl
        have zr0 : World.cell? w2 ⟨w.heap.size + 1, 0, none⟩ = some (.int .i64 0) := (blk_cell BZ2.out 0).trans rfl
        have zf0 := blk_frozen BZ2.out 0
        have zr1 : World.cell? w2 ⟨w.heap.size + 1, 1, none⟩ = some (.int .i64 0) := (blk_cell BZ2.out 1).trans rfl
        have zf1 := blk_frozen BZ2.out 1
        have zr2 : World.cell? w2 ⟨w.heap.size + 1, 2, none⟩ = some (.string ⟨#[]⟩) := (blk_cell BZ2.out 2).trans rfl
        have zf2 := blk_frozen BZ2.out 2
        have zr3 : World.cell? w2 ⟨w.heap.size + 1, 3, none⟩ = some (.slice none 0 0) := (blk_cell BZ2.out 3).trans rfl
        have zf3 := blk_frozen BZ2.out 3
        go_wp2_with fail
        refine (CT3.out w2 HW2.out).mono ?_
        rintro e w3 ⟨rfl, hb, hbe, hx0, hx1⟩
        clear b0 b1 b2 b3 zr0 zr1 zr2 zr3 zf0 zf1 zf2 zf3
        have HB3 := Lib.hid hb
        have BX3 := Lib.hid (hx0.trans BX2.out)
        have BZ3 := Lib.hid (hx1.trans BZ2.out)
        clear hb hbe hx0 hx1
        have b0 : World.cell? w3 ⟨w.heap.size, 0, none⟩ = some u0 := (blk_cell BX3.out 0).trans rfl
        have b1 : World.cell? w3 ⟨w.heap.size, 1, none⟩ = some u1 := (blk_cell BX3.out 1).trans rfl
        have b2 : World.cell? w3 ⟨w.heap.size, 2, none⟩ = some u2 := (blk_cell BX3.out 2).trans rfl
        have b3 : World.cell? w3 ⟨w.heap.size, 3, none⟩ = some u3 := (blk_cell BX3.out 3).trans rfl
        have zr0 : World.cell? w3 ⟨w.heap.size + 1, 0, none⟩ = some (.int .i64 0) := (blk_cell BZ3.out 0).trans rfl
        have zf0 := blk_frozen BZ3.out 0
        have zr1 : World.cell? w3 ⟨w.heap.size + 1, 1, none⟩ = some (.int .i64 0) := (blk_cell BZ3.out 1).trans rfl
        have zf1 := blk_frozen BZ3.out 1
        have zr2 : World.cell? w3 ⟨w.heap.size + 1, 2, none⟩ = some (.string ⟨#[]⟩) := (blk_cell BZ3.out 2).trans rfl
        have zf2 := blk_frozen BZ3.out 2
        have zr3 : World.cell? w3 ⟨w.heap.size + 1, 3, none⟩ = some (.slice none 0 0) := (blk_cell BZ3.out 3).trans rfl
        have zf3 := blk_frozen BZ3.out 3
        go_wp2_with fail
        refine (CT5.out w3 HB3.out).mono ?_
        rintro e w4 ⟨cs', rfl, hfr, hb⟩
        obtain ⟨k', d', n', A', l', c', rfl⟩ := ty_cells hfr.rd
        clear b0 b1 b2 b3 zr0 zr1 zr2 zr3 zf0 zf1 zf2 zf3
        have FR := Lib.hid hfr
        have HB4 := Lib.hid (HB3.out.trans (hb.mono HB3.out.size))
        have BZ4 := Lib.hid (blk_below BZ3.out hb)
        have LT := Lib.hid (blk_lt BZ3.out)
        clear hfr hb
        have zr0 : World.cell? w4 ⟨w.heap.size + 1, 0, none⟩ = some (.int .i64 0) := (blk_cell BZ4.out 0).trans rfl
        have zf0 := blk_frozen BZ4.out 0
        have zr1 : World.cell? w4 ⟨w.heap.size + 1, 1, none⟩ = some (.int .i64 0) := (blk_cell BZ4.out 1).trans rfl
        have zf1 := blk_frozen BZ4.out 1
        have zr2 : World.cell? w4 ⟨w.heap.size + 1, 2, none⟩ = some (.string ⟨#[]⟩) := (blk_cell BZ4.out 2).trans rfl
        have zf2 := blk_frozen BZ4.out 2
        have zr3 : World.cell? w4 ⟨w.heap.size + 1, 3, none⟩ = some (.slice none 0 0) := (blk_cell BZ4.out 3).trans rfl
        have zf3 := blk_frozen BZ4.out 3
        go_wp2
        refine bodyPost_ret (v := .agg #[.int .i64 k', .int .i64 d', .string n', .slice A' l' c']) (by simp [results, Try.results32, go_sem, zr0, zr1, zr2, zr3]) rfl ⟨[.int .i64 k', .int .i64 d', .string n', .slice A' l' c'], rfl, ?_, below_store4 HB4.out (by omega) _ _ _ _⟩
        rw [RN.out]
        exact (fr_store4 FR.out LT.out _ _ _ _).lower HB3.out.size

end Go.Proofs.Ytbbpkjcmbakfeaa
