/- The law 'FnExactFreeIds' with what both functions answer; no condition. -/
import Derived.Test.YtbbpkjcmbakfeaaFreeI
import Derived.Test.YtbbpkjcmbakfeaaTyMk
import Derived.Test.YtbbpkjcmbakfeaaLawFreeIds
namespace Go.Proofs.Ytbbpkjcmbakfeaa
open Go.RowKit
set_option linter.unusedVariables false
set_option linter.unusedSimpArgs false

def freeRes (x : Ty) : List Int := if (x.fault 1 20000).1 = true then [] else x.free []
theorem grow_made {B : Nat} (w : World) (e sz : Nat) (hB : B ≤ w.heap.size) : Grow B (w.alloc (.cells #[] e)) (.slice (some ⟨w.heap.size, 0, none⟩) 0 0) e sz [] :=
  ⟨[], [], World.ownsRow_made w #[] 0 hB (Nat.zero_le _) (by simp), by simp [D.Fields], by simp, by simp [Value.ownBlock], fun k hk => by
    obtain rfl : k = w.heap.size := by simpa [Value.ownBlock] using hk
    exact ⟨hB, #[], e, blk_new w _⟩⟩

set_option maxRecDepth 100000 in
theorem specFreeIds (x : Ty) (hx : x.ok) (w : World) (cs : List Value) (h : Rd w x.enc cs) :
    Calls Try.prog 13 #[.agg cs.toArray] w fun e w' => ∃ v', e = .returned v' ∧ Fr w.heap.size w' (.slice 1 (i64s (freeRes x))) [v'] ∧ Below w.heap.size w w' := by
  obtain ⟨u0, u1, u2, u3, rfl⟩ := cells4 (h.len.trans x.n)
  have hb0 := below_alloc1 w (.cells #[u0, u1, u2, u3] 30)
  have CAL := Lib.hid (specTypeFault x hx (w.alloc (.cells #[u0, u1, u2, u3] 30)) _ (h.below hb0))
  have BX := Lib.hid (blk_new w (.cells #[u0, u1, u2, u3] 30))
  have HB := Lib.hid hb0
  have HR := Lib.hid h
  obtain ⟨R, hR⟩ : ∃ R, R = freeRes x := ⟨_, rfl⟩
  rw [← hR]
  have RR := Lib.hid hR
  clear h hb0 hR
  cases hf : (x.fault 1 20000).1 with
  | true =>
    rw [hf] at CAL
    have HF := Lib.hid hf
    clear hf
    go_enter Try.func13, Try.ntmps13
    go_wp2_with fail
    refine CAL.out.mono ?_
    rintro e w1 ⟨rfl, hb1⟩
    have HB1 := Lib.hid (HB.out.trans (hb1.mono HB.out.size))
    clear hb1 CAL
    go_wp2
    go_ret
    refine ⟨_, rfl, ?_, HB1.out.alloc HB1.out.size _⟩
    rw [RR.out, freeRes, if_pos HF.out]
    exact fr_nil _ _ 1 _ 0 (Nat.zero_le _)
  | false =>
    rw [hf] at CAL
    have HF := Lib.hid hf
    clear hf
    go_enter Try.func13, Try.ntmps13
    go_wp2_with fail
    refine CAL.out.mono ?_
    rintro e w1 ⟨rfl, hb1⟩
    have HB1 := Lib.hid (HB.out.trans (hb1.mono HB.out.size))
    have BX1 := Lib.hid (blk_below BX.out hb1)
    have z0 := blk_cell BX1.out 0
    have z1 := blk_cell BX1.out 1
    have z2 := blk_cell BX1.out 2
    have z3 := blk_cell BX1.out 3
    simp at z0 z1 z2 z3
    have ha := below_alloc1 w1 (.cells #[] 2)
    have SP := Lib.hid (SpecFree_all x hx w (w1.alloc (.cells #[] 2)) _ _ [] HR.out (HB1.out.trans (ha.mono HB1.out.size)) (grow_made w1 2 1 HB1.out.size) (by have := (Ty.good HF.out).2; simp; omega))
    have HB2 := Lib.hid (HB1.out.trans (ha.mono HB1.out.size))
    have G0 := Lib.hid (grow_made (B := w.heap.size) w1 2 1 HB1.out.size)
    clear hb1 CAL ha
    go_wp2_with fail
    refine SP.out.mono ?_
    rintro e w2 ⟨v', rfl, hg, hgr⟩
    have HG := Lib.hid hg
    have HGR := Lib.hid hgr
    clear hg hgr SP
    go_wp2
    go_ret
    refine ⟨_, rfl, ?_, HGR.out.below HB2.out HB2.out.size (fun g hg => (G0.out.bound g hg).1)⟩
    rw [RR.out, freeRes, if_neg (by rw [HF.out]; decide)]
    exact HG.out.fr

set_option maxRecDepth 100000 in
theorem implFreeIds (x : Ty) (hx : x.ok) (w : World) (cs : List Value) (h : Rd w x.enc cs) :
    Calls Try.prog 15 #[.agg cs.toArray] w fun e w' => ∃ v', e = .returned v' ∧ Fr w.heap.size w' (.slice 1 (i64s (freeRes x))) [v'] ∧ Below w.heap.size w w' := by
  obtain ⟨u0, u1, u2, u3, rfl⟩ := cells4 (h.len.trans x.n)
  have hb0 := below_alloc1 w (.cells #[u0, u1, u2, u3] 30)
  have CAL := Lib.hid (implTypeFault x hx (w.alloc (.cells #[u0, u1, u2, u3] 30)) _ (h.below hb0))
  have BX := Lib.hid (blk_new w (.cells #[u0, u1, u2, u3] 30))
  have CX := Lib.hid (cellsAt_new w [u0, u1, u2, u3] 30)
  have HB := Lib.hid hb0
  have HR := Lib.hid (h.below hb0)
  have hmm := @run_makeMap Try.prog
  obtain ⟨R, hR⟩ : ∃ R, R = freeRes x := ⟨_, rfl⟩
  rw [← hR]
  have RR := Lib.hid hR
  clear h hb0 hR
  cases hf : (x.fault 1 20000).1 with
  | true =>
    rw [hf] at CAL
    have HF := Lib.hid hf
    clear hf
    go_enter Try.func15, Try.ntmps15
    go_wp2_with fail
    refine CAL.out.mono ?_
    rintro e w1 ⟨rfl, hb1⟩
    have HB1 := Lib.hid (HB.out.trans (hb1.mono HB.out.size))
    clear hb1 CAL
    go_wp2
    go_ret
    refine ⟨_, rfl, ?_, HB1.out⟩
    rw [RR.out, freeRes, if_pos HF.out]
    exact fr_nil _ _ 1 _ 0 (Nat.zero_le _)
  | false =>
    rw [hf] at CAL
    have HF := Lib.hid hf
    clear hf
    go_enter Try.func15, Try.ntmps15
    go_wp2_with fail
    generalize hW : (w.alloc (.cells #[u0, u1, u2, u3] 30)) = W at *
    clear hW
    refine CAL.out.mono ?_
    rintro e w1 ⟨rfl, hb1⟩
    have HB1 := Lib.hid (HB.out.trans (hb1.mono HB.out.size))
    have ha := below_alloc1 w1 (.map #[] 0)
    have hab := hb1.trans (ha.mono hb1.size)
    have SP := Lib.hid (ImplFree_all x (Ty.good HF.out).1 hx W (w1.alloc (.map #[] 0)) _ w.heap.size 0 w1.heap.size _ [] HR.out CX.out hab (Grow.nil _ _ 2 1) (hasMap_new w1 keyI64) hb1.size (by have := (Ty.good HF.out).2; simp; omega))
    have HB2 := Lib.hid (HB1.out.trans (ha.mono HB1.out.size))
    clear hb1 CAL ha hab
    go_wp2_with fail
    refine SP.out.mono ?_
    rintro e w2 ⟨v', rfl, hg, hm, hb2⟩
    have HG := Lib.hid hg
    have HB3 := Lib.hid (HB.out.trans (hb2.mono HB.out.size))
    clear hg hm hb2 SP
    go_wp2
    go_ret
    refine ⟨_, rfl, ?_, HB3.out⟩
    rw [RR.out, freeRes, if_neg (by rw [HF.out]; decide)]
    exact (HG.out.fr).lower HB.out.size

theorem freeRes_len (x : Ty) : (freeRes x).length ≤ 20000 := by
  unfold freeRes
  split
  · simp
  · rename_i h
    have := Ty.good (x := x) (by simpa using h)
    have := Ty.free_len x []
    simp at this
    omega
theorem i64s_mem (l : List Int) : ∀ y ∈ i64s l, ∃ n, y = D.int .i64 n := fun y hy => by
  obtain ⟨z, _, rfl⟩ := List.mem_map.1 hy
  exact ⟨z, rfl⟩
theorem walkFreeIds (x : Ty) (hx : x.ok) (w : World) (c : List Value) (h : Rd w x.enc c) :
    Calls Try.prog 3 #[.agg c.toArray] w fun e w' => e = .returned (.bool true) ∧ Below w.heap.size w w' := by
  have hl := freeRes_len x
  exact lawFnExactFreeIds x.enc (.slice 1 (i64s (freeRes x))) x.n (Ty.sz x hx) (Ty.to x) (Ty.eq x hx)
    (fun hb => ⟨by have := Ty.tcnt_le x; omega, Ty.mkA x hx⟩)
    (eqInt64S_of _ (by rw [i64s_length]; omega) (i64s_mem _))
    (fun _ => ⟨by simp only [D.tcnt]; rw [cnts_Int64S _ (i64s_mem _), i64s_length]; omega, markInt64S_of _ (by rw [i64s_length]; omega) (i64s_mem _), heldInt64S_of _ (by rw [i64s_length]; omega) (i64s_mem _)⟩)
    (fun _ w c h => specFreeIds x hx w c h) (fun _ w c h => implFreeIds x hx w c h) w c h

end Go.Proofs.Ytbbpkjcmbakfeaa
