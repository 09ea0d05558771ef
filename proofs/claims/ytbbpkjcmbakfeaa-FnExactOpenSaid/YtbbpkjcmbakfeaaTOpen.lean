/- The law 'FnExactOpen' with what both functions answer; no condition. -/
import Derived.Test.YtbbpkjcmbakfeaaOpnM
import Derived.Test.YtbbpkjcmbakfeaaSch
import Derived.Test.YtbbpkjcmbakfeaaLawOpen
import Derived.Deep.RegionWith
import Derived.Lib.QuietBelow
import Derived.BigQuiet
namespace Go.Proofs.Ytbbpkjcmbakfeaa
open Go.RowKit
set_option linter.unusedVariables false
set_option linter.unusedSimpArgs false

def Ty.none_ : Ty := .mk 0 0 ⟨#[]⟩ []
def openRes (c f : Int) (x : Ty) : Ty := if (x.fault 1 20000).1 = true ∨ f < 0 ∨ 1099511627776 < f ∨ c < 0 ∨ 1099511627776 < c ∨ x.gens c = false then Ty.none_ else x.opn f
theorem fr_none (B : Nat) (w : World) : Fr B w Ty.none_.enc [.int .i64 0, .int .i64 0, .string ⟨#[]⟩, .slice none 0 0] := by
  simp only [Ty.none_, Ty.enc, Ty.encs]
  rw [fr_struct]
  exact frF_int (frF_int (frF_str (frF_last (fr_nil _ _ 4 none 0 (Nat.zero_le _)))))
theorem open_sch {w : World} {c : Int} {ps : List (ByteArray × Int)} {x : Ty} {cs : List Value} (h : Rd w (schD c ps x) cs) : ∃ A p u0 u1 u2 u3, cs = [.int .i64 c, .slice A ps.length p, u0, u1, u2, u3] ∧ Rd w x.enc [u0, u1, u2, u3] := by
  simp only [schD] at h
  rw [rd_struct] at h
  simp only [rdF_cons, rdF_nil, rd_int] at h
  obtain ⟨e0, r0, rfl, rfl, e1, r1, rfl, hp, e2, r2, rfl, hx, rfl⟩ := h
  obtain ⟨A, p, rfl, _⟩ := rd_slice hp
  rw [predsD_length]
  obtain ⟨u0, u1, u2, u3, rfl⟩ := cells4 (hx.len.trans x.n)
  exact ⟨A, p, u0, u1, u2, u3, by simp, hx⟩

set_option maxRecDepth 100000 in
set_option maxHeartbeats 8000000 in
theorem specOpen (c f : Int) (ps : List (ByteArray × Int)) (x : Ty) (ho : x.ok) (hl : x.enc.bulk ≤ 1048576) (w : World) (cs : List Value) (h : Rd w (schD c ps x) cs) :
    Calls Try.prog 27 #[.agg cs.toArray, .int .i64 f] w fun e w' => ∃ cs', e = .returned (.agg cs'.toArray) ∧ Fr w.heap.size w' (openRes c f x).enc cs' ∧ Below w.heap.size w w' := by
  obtain ⟨A, p, u0, u1, u2, u3, rfl, hx⟩ := open_sch h
  have HX := Lib.hid hx
  have HB2 := Lib.hid ((below_alloc1 w (.cells #[.int .i64 c, .slice A ps.length p, u0, u1, u2, u3] 39)).alloc (by simp) (.cells #[.int .i64 0, .int .i64 0, .string ⟨#[]⟩, .slice none 0 0] 30))
  have BX := Lib.hid (blk_old (blk_new w (.cells #[.int .i64 c, .slice A ps.length p, u0, u1, u2, u3] 39)) (.cells #[.int .i64 0, .int .i64 0, .string ⟨#[]⟩, .slice none 0 0] 30))
  have BZ := Lib.hid (blk_new_g (w := w.alloc (.cells #[.int .i64 c, .slice A ps.length p, u0, u1, u2, u3] 39)) (g := w.heap.size + 1) (o := (.cells #[.int .i64 0, .int .i64 0, .string ⟨#[]⟩, .slice none 0 0] 30)) (by simp))
  have KEEP : Hid (∀ w' : World, w'.heap[w.heap.size]? = some (.cells #[.int .i64 c, .slice A ps.length p, u0, u1, u2, u3] 39 (0, 0)) → w'.cell? ⟨w.heap.size, 0, none⟩ = some (.int .i64 c) ∧ w'.cell? ⟨w.heap.size, 1, none⟩ = some (.slice A ps.length p) ∧ w'.cell? ⟨w.heap.size, 2, none⟩ = some u0 ∧ w'.cell? ⟨w.heap.size, 3, none⟩ = some u1 ∧ w'.cell? ⟨w.heap.size, 4, none⟩ = some u2 ∧ w'.cell? ⟨w.heap.size, 5, none⟩ = some u3) := fun w' h => ⟨(blk_cell h 0).trans rfl, (blk_cell h 1).trans rfl, (blk_cell h 2).trans rfl, (blk_cell h 3).trans rfl, (blk_cell h 4).trans rfl, (blk_cell h 5).trans rfl⟩
  obtain ⟨R, hR⟩ : ∃ R, R = openRes c f x := ⟨_, rfl⟩
  rw [← hR]
  have HR := Lib.hid hR
  clear h hx hR
  have TF : Hid (∀ (r : Bool), (x.fault 1 20000).1 = r → ∀ W, Below w.heap.size w W → Calls Try.prog 51 #[.agg #[u0, u1, u2, u3]] W fun e w' => e = .returned (.bool r) ∧ Below W.heap.size W w') := fun r hr W hb => by
    subst hr
    exact specTypeFault x ho W _ (HX.out.below hb)
  have MO := Lib.hid (fun (W : World) (hb : Below w.heap.size w W) => SpecMost_all x ho W _ (HX.out.below hb))
  have OP := Lib.hid (fun (W : World) (hb : Below w.heap.size w W) => SpecOpn_all f x hl W _ (HX.out.below hb))
  have zz := KEEP.out _ BX.out
  have z0 := fun d os => cell_regrown (zz.1) d os
  have z1 := fun d os => cell_regrown (zz.2.1) d os
  have z2 := fun d os => cell_regrown (zz.2.2.1) d os
  have z3 := fun d os => cell_regrown (zz.2.2.2.1) d os
  have z4 := fun d os => cell_regrown (zz.2.2.2.2.1) d os
  have z5 := fun d os => cell_regrown (zz.2.2.2.2.2) d os
  clear zz
  cases hf : (x.fault 1 20000).1 with
  | true =>
    have HF := Lib.hid hf
    clear hf
    go_enter Try.func27, Try.ntmps27
    go_wp2_with fail
    generalize hW : ((w.alloc (.cells #[.int .i64 c, .slice A ps.length p, u0, u1, u2, u3] 39)).alloc (.cells #[.int .i64 0, .int .i64 0, .string ⟨#[]⟩, .slice none 0 0] 30)) = W at *
    clear hW
    refine wp_region_quiet_below (by kernel_rfl) (by kernel_rfl) ?_
    repeat (first | go_big_quiet_skip | quiet_step (first | (go_at_call 51; exact Calls.regrown_of (TF.out _ HF.out _ (HB2.out.trans ((below_regrown W _ _).mono HB2.out.size))))))
    refine wpQuiet_nil ?_
    intro _ hw'
    obtain ⟨⟨dq, osq⟩, hw''⟩ := hw'
    subst hw''
    have hbq := below_regrown W dq osq
    generalize Go.Sort.grow (redrawn W dq) osq = w1 at *
    have BX1 := Lib.hid (blk_below BX.out hbq)
    have BZ1 := Lib.hid (blk_below BZ.out hbq)
    have HB1 := Lib.hid (HB2.out.trans (hbq.mono HB2.out.size))
    clear hbq
    have BZW := Lib.hid BZ1.out
    have zr0 : World.cell? _ ⟨w.heap.size + 1, 0, none⟩ = some (.int .i64 0) := (blk_cell BZW.out 0).trans rfl
    have zf0 := blk_frozen BZW.out 0
    have zr1 : World.cell? _ ⟨w.heap.size + 1, 1, none⟩ = some (.int .i64 0) := (blk_cell BZW.out 1).trans rfl
    have zf1 := blk_frozen BZW.out 1
    have zr2 : World.cell? _ ⟨w.heap.size + 1, 2, none⟩ = some (.string ⟨#[]⟩) := (blk_cell BZW.out 2).trans rfl
    have zf2 := blk_frozen BZW.out 2
    have zr3 : World.cell? _ ⟨w.heap.size + 1, 3, none⟩ = some (.slice none 0 0) := (blk_cell BZW.out 3).trans rfl
    have zf3 := blk_frozen BZW.out 3
    clear BZW
    go_wp2_with fail
    refine bodyPost_ret (v := .agg #[.int .i64 0, .int .i64 0, .string ⟨#[]⟩, .slice none 0 0]) (by simp [results, Try.results27, go_sem, zr0, zr1, zr2, zr3]) rfl ⟨[.int .i64 0, .int .i64 0, .string ⟨#[]⟩, .slice none 0 0], rfl, ?_, (((HB1.out.setCell (by simp) _).setCell (by simp) _).setCell (by simp) _).setCell (by simp) _⟩
    rw [HR.out, openRes, if_pos (.inl HF.out)]
    exact fr_none _ _
  | false =>
   have HF := Lib.hid hf
   clear hf
   by_cases h1 : f < 0
   · have d1 : decide (f < 0) = true := decide_eq_true h1
     have H1 := Lib.hid h1
     go_enter Try.func27, Try.ntmps27
     go_wp2_with fail
     generalize hW : ((w.alloc (.cells #[.int .i64 c, .slice A ps.length p, u0, u1, u2, u3] 39)).alloc (.cells #[.int .i64 0, .int .i64 0, .string ⟨#[]⟩, .slice none 0 0] 30)) = W at *
     clear hW
     refine wp_region_quiet_below (by kernel_rfl) (by kernel_rfl) ?_
     repeat (first | go_big_quiet_skip | quiet_step (first | (go_at_call 51; exact Calls.regrown_of (TF.out _ HF.out _ (HB2.out.trans ((below_regrown W _ _).mono HB2.out.size))))))
     refine wpQuiet_nil ?_
     intro _ hw'
     obtain ⟨⟨dq, osq⟩, hw''⟩ := hw'
     subst hw''
     have hbq := below_regrown W dq osq
     generalize Go.Sort.grow (redrawn W dq) osq = w1 at *
     have BX1 := Lib.hid (blk_below BX.out hbq)
     have BZ1 := Lib.hid (blk_below BZ.out hbq)
     have HB1 := Lib.hid (HB2.out.trans (hbq.mono HB2.out.size))
     clear hbq
     have BZW := Lib.hid BZ1.out
     have zr0 : World.cell? _ ⟨w.heap.size + 1, 0, none⟩ = some (.int .i64 0) := (blk_cell BZW.out 0).trans rfl
     have zf0 := blk_frozen BZW.out 0
     have zr1 : World.cell? _ ⟨w.heap.size + 1, 1, none⟩ = some (.int .i64 0) := (blk_cell BZW.out 1).trans rfl
     have zf1 := blk_frozen BZW.out 1
     have zr2 : World.cell? _ ⟨w.heap.size + 1, 2, none⟩ = some (.string ⟨#[]⟩) := (blk_cell BZW.out 2).trans rfl
     have zf2 := blk_frozen BZW.out 2
     have zr3 : World.cell? _ ⟨w.heap.size + 1, 3, none⟩ = some (.slice none 0 0) := (blk_cell BZW.out 3).trans rfl
     have zf3 := blk_frozen BZW.out 3
     clear BZW
     go_wp2_with fail
     refine bodyPost_ret (v := .agg #[.int .i64 0, .int .i64 0, .string ⟨#[]⟩, .slice none 0 0]) (by simp [results, Try.results27, go_sem, zr0, zr1, zr2, zr3]) rfl ⟨[.int .i64 0, .int .i64 0, .string ⟨#[]⟩, .slice none 0 0], rfl, ?_, (((HB1.out.setCell (by simp) _).setCell (by simp) _).setCell (by simp) _).setCell (by simp) _⟩
     rw [HR.out, openRes, if_pos (.inr (.inl H1.out))]
     exact fr_none _ _
   have d1 : decide (f < 0) = false := decide_eq_false h1
   by_cases h2 : 1099511627776 < f
   · have d2 : decide (1099511627776 < f) = true := decide_eq_true h2
     have H2 := Lib.hid h2
     go_enter Try.func27, Try.ntmps27
     go_wp2_with fail
     generalize hW : ((w.alloc (.cells #[.int .i64 c, .slice A ps.length p, u0, u1, u2, u3] 39)).alloc (.cells #[.int .i64 0, .int .i64 0, .string ⟨#[]⟩, .slice none 0 0] 30)) = W at *
     clear hW
     refine wp_region_quiet_below (by kernel_rfl) (by kernel_rfl) ?_
     repeat (first | go_big_quiet_skip | quiet_step (first | (go_at_call 51; exact Calls.regrown_of (TF.out _ HF.out _ (HB2.out.trans ((below_regrown W _ _).mono HB2.out.size))))))
     refine wpQuiet_nil ?_
     intro _ hw'
     obtain ⟨⟨dq, osq⟩, hw''⟩ := hw'
     subst hw''
     have hbq := below_regrown W dq osq
     generalize Go.Sort.grow (redrawn W dq) osq = w1 at *
     have BX1 := Lib.hid (blk_below BX.out hbq)
     have BZ1 := Lib.hid (blk_below BZ.out hbq)
     have HB1 := Lib.hid (HB2.out.trans (hbq.mono HB2.out.size))
     clear hbq
     have BZW := Lib.hid BZ1.out
     have zr0 : World.cell? _ ⟨w.heap.size + 1, 0, none⟩ = some (.int .i64 0) := (blk_cell BZW.out 0).trans rfl
     have zf0 := blk_frozen BZW.out 0
     have zr1 : World.cell? _ ⟨w.heap.size + 1, 1, none⟩ = some (.int .i64 0) := (blk_cell BZW.out 1).trans rfl
     have zf1 := blk_frozen BZW.out 1
     have zr2 : World.cell? _ ⟨w.heap.size + 1, 2, none⟩ = some (.string ⟨#[]⟩) := (blk_cell BZW.out 2).trans rfl
     have zf2 := blk_frozen BZW.out 2
     have zr3 : World.cell? _ ⟨w.heap.size + 1, 3, none⟩ = some (.slice none 0 0) := (blk_cell BZW.out 3).trans rfl
     have zf3 := blk_frozen BZW.out 3
     clear BZW
     go_wp2_with fail
     refine bodyPost_ret (v := .agg #[.int .i64 0, .int .i64 0, .string ⟨#[]⟩, .slice none 0 0]) (by simp [results, Try.results27, go_sem, zr0, zr1, zr2, zr3]) rfl ⟨[.int .i64 0, .int .i64 0, .string ⟨#[]⟩, .slice none 0 0], rfl, ?_, (((HB1.out.setCell (by simp) _).setCell (by simp) _).setCell (by simp) _).setCell (by simp) _⟩
     rw [HR.out, openRes, if_pos (.inr (.inr (.inl H2.out)))]
     exact fr_none _ _
   have d2 : decide (1099511627776 < f) = false := decide_eq_false h2
   by_cases h3 : c < 0
   · have d3 : decide (c < 0) = true := decide_eq_true h3
     have H3 := Lib.hid h3
     go_enter Try.func27, Try.ntmps27
     go_wp2_with fail
     generalize hW : ((w.alloc (.cells #[.int .i64 c, .slice A ps.length p, u0, u1, u2, u3] 39)).alloc (.cells #[.int .i64 0, .int .i64 0, .string ⟨#[]⟩, .slice none 0 0] 30)) = W at *
     clear hW
     refine wp_region_quiet_below (by kernel_rfl) (by kernel_rfl) ?_
     repeat (first | go_big_quiet_skip | quiet_step (first | (go_at_call 51; exact Calls.regrown_of (TF.out _ HF.out _ (HB2.out.trans ((below_regrown W _ _).mono HB2.out.size))))))
     refine wpQuiet_nil ?_
     intro _ hw'
     obtain ⟨⟨dq, osq⟩, hw''⟩ := hw'
     subst hw''
     have hbq := below_regrown W dq osq
     generalize Go.Sort.grow (redrawn W dq) osq = w1 at *
     have BX1 := Lib.hid (blk_below BX.out hbq)
     have BZ1 := Lib.hid (blk_below BZ.out hbq)
     have HB1 := Lib.hid (HB2.out.trans (hbq.mono HB2.out.size))
     clear hbq
     have BZW := Lib.hid BZ1.out
     have zr0 : World.cell? _ ⟨w.heap.size + 1, 0, none⟩ = some (.int .i64 0) := (blk_cell BZW.out 0).trans rfl
     have zf0 := blk_frozen BZW.out 0
     have zr1 : World.cell? _ ⟨w.heap.size + 1, 1, none⟩ = some (.int .i64 0) := (blk_cell BZW.out 1).trans rfl
     have zf1 := blk_frozen BZW.out 1
     have zr2 : World.cell? _ ⟨w.heap.size + 1, 2, none⟩ = some (.string ⟨#[]⟩) := (blk_cell BZW.out 2).trans rfl
     have zf2 := blk_frozen BZW.out 2
     have zr3 : World.cell? _ ⟨w.heap.size + 1, 3, none⟩ = some (.slice none 0 0) := (blk_cell BZW.out 3).trans rfl
     have zf3 := blk_frozen BZW.out 3
     clear BZW
     go_wp2_with fail
     refine bodyPost_ret (v := .agg #[.int .i64 0, .int .i64 0, .string ⟨#[]⟩, .slice none 0 0]) (by simp [results, Try.results27, go_sem, zr0, zr1, zr2, zr3]) rfl ⟨[.int .i64 0, .int .i64 0, .string ⟨#[]⟩, .slice none 0 0], rfl, ?_, (((HB1.out.setCell (by simp) _).setCell (by simp) _).setCell (by simp) _).setCell (by simp) _⟩
     rw [HR.out, openRes, if_pos (.inr (.inr (.inr (.inl H3.out))))]
     exact fr_none _ _
   have d3 : decide (c < 0) = false := decide_eq_false h3
   by_cases h4 : 1099511627776 < c
   · have d4 : decide (1099511627776 < c) = true := decide_eq_true h4
     have H4 := Lib.hid h4
     go_enter Try.func27, Try.ntmps27
     go_wp2_with fail
     generalize hW : ((w.alloc (.cells #[.int .i64 c, .slice A ps.length p, u0, u1, u2, u3] 39)).alloc (.cells #[.int .i64 0, .int .i64 0, .string ⟨#[]⟩, .slice none 0 0] 30)) = W at *
     clear hW
     refine wp_region_quiet_below (by kernel_rfl) (by kernel_rfl) ?_
     repeat (first | go_big_quiet_skip | quiet_step (first | (go_at_call 51; exact Calls.regrown_of (TF.out _ HF.out _ (HB2.out.trans ((below_regrown W _ _).mono HB2.out.size))))))
     refine wpQuiet_nil ?_
     intro _ hw'
     obtain ⟨⟨dq, osq⟩, hw''⟩ := hw'
     subst hw''
     have hbq := below_regrown W dq osq
     generalize Go.Sort.grow (redrawn W dq) osq = w1 at *
     have BX1 := Lib.hid (blk_below BX.out hbq)
     have BZ1 := Lib.hid (blk_below BZ.out hbq)
     have HB1 := Lib.hid (HB2.out.trans (hbq.mono HB2.out.size))
     clear hbq
     have BZW := Lib.hid BZ1.out
     have zr0 : World.cell? _ ⟨w.heap.size + 1, 0, none⟩ = some (.int .i64 0) := (blk_cell BZW.out 0).trans rfl
     have zf0 := blk_frozen BZW.out 0
     have zr1 : World.cell? _ ⟨w.heap.size + 1, 1, none⟩ = some (.int .i64 0) := (blk_cell BZW.out 1).trans rfl
     have zf1 := blk_frozen BZW.out 1
     have zr2 : World.cell? _ ⟨w.heap.size + 1, 2, none⟩ = some (.string ⟨#[]⟩) := (blk_cell BZW.out 2).trans rfl
     have zf2 := blk_frozen BZW.out 2
     have zr3 : World.cell? _ ⟨w.heap.size + 1, 3, none⟩ = some (.slice none 0 0) := (blk_cell BZW.out 3).trans rfl
     have zf3 := blk_frozen BZW.out 3
     clear BZW
     go_wp2_with fail
     refine bodyPost_ret (v := .agg #[.int .i64 0, .int .i64 0, .string ⟨#[]⟩, .slice none 0 0]) (by simp [results, Try.results27, go_sem, zr0, zr1, zr2, zr3]) rfl ⟨[.int .i64 0, .int .i64 0, .string ⟨#[]⟩, .slice none 0 0], rfl, ?_, (((HB1.out.setCell (by simp) _).setCell (by simp) _).setCell (by simp) _).setCell (by simp) _⟩
     rw [HR.out, openRes, if_pos (.inr (.inr (.inr (.inr (.inl H4.out)))))]
     exact fr_none _ _
   have d4 : decide (1099511627776 < c) = false := decide_eq_false h4
   cases hg : x.gens c with
   | false =>
    have HG := Lib.hid hg
    have h5 : c ≤ x.most := by
      have h_ := Ty.gens_most c (by omega) x
      rw [hg] at h_
      have := h_.2
      simp at this
      exact this
    have d5 : decide (c ≤ x.most) = true := decide_eq_true h5
    clear hg
    go_enter Try.func27, Try.ntmps27
    go_wp2_with fail
    generalize hW : ((w.alloc (.cells #[.int .i64 c, .slice A ps.length p, u0, u1, u2, u3] 39)).alloc (.cells #[.int .i64 0, .int .i64 0, .string ⟨#[]⟩, .slice none 0 0] 30)) = W at *
    clear hW
    refine wp_region_quiet_below (by kernel_rfl) (by kernel_rfl) ?_
    repeat (first | go_big_quiet_skip | quiet_step (first | (go_at_call 51; exact Calls.regrown_of (TF.out _ HF.out _ (HB2.out.trans ((below_regrown W _ _).mono HB2.out.size)))) | (go_at_call 76; exact Calls.regrown_of (MO.out _ (HB2.out.trans ((below_regrown W _ _).mono HB2.out.size))))))
    refine wpQuiet_nil ?_
    intro _ hw'
    obtain ⟨⟨dq, osq⟩, hw''⟩ := hw'
    subst hw''
    have hbq := below_regrown W dq osq
    generalize Go.Sort.grow (redrawn W dq) osq = w1 at *
    have BX1 := Lib.hid (blk_below BX.out hbq)
    have BZ1 := Lib.hid (blk_below BZ.out hbq)
    have HB1 := Lib.hid (HB2.out.trans (hbq.mono HB2.out.size))
    clear hbq
    have BZW := Lib.hid BZ1.out
    have zr0 : World.cell? _ ⟨w.heap.size + 1, 0, none⟩ = some (.int .i64 0) := (blk_cell BZW.out 0).trans rfl
    have zf0 := blk_frozen BZW.out 0
    have zr1 : World.cell? _ ⟨w.heap.size + 1, 1, none⟩ = some (.int .i64 0) := (blk_cell BZW.out 1).trans rfl
    have zf1 := blk_frozen BZW.out 1
    have zr2 : World.cell? _ ⟨w.heap.size + 1, 2, none⟩ = some (.string ⟨#[]⟩) := (blk_cell BZW.out 2).trans rfl
    have zf2 := blk_frozen BZW.out 2
    have zr3 : World.cell? _ ⟨w.heap.size + 1, 3, none⟩ = some (.slice none 0 0) := (blk_cell BZW.out 3).trans rfl
    have zf3 := blk_frozen BZW.out 3
    clear BZW
    go_wp2_with fail
    refine bodyPost_ret (v := .agg #[.int .i64 0, .int .i64 0, .string ⟨#[]⟩, .slice none 0 0]) (by simp [results, Try.results27, go_sem, zr0, zr1, zr2, zr3]) rfl ⟨[.int .i64 0, .int .i64 0, .string ⟨#[]⟩, .slice none 0 0], rfl, ?_, (((HB1.out.setCell (by simp) _).setCell (by simp) _).setCell (by simp) _).setCell (by simp) _⟩
    rw [HR.out, openRes, if_pos (.inr (.inr (.inr (.inr (.inr HG.out)))))]
    exact fr_none _ _
   | true =>
    have HG := Lib.hid hg
    have h5 : ¬ c ≤ x.most := by
      have := (Ty.gens_most c (by omega) x).1 hg
      omega
    have d5 : decide (c ≤ x.most) = false := decide_eq_false h5
    clear hg
    go_enter Try.func27, Try.ntmps27
    go_wp2_with fail
    generalize hW : ((w.alloc (.cells #[.int .i64 c, .slice A ps.length p, u0, u1, u2, u3] 39)).alloc (.cells #[.int .i64 0, .int .i64 0, .string ⟨#[]⟩, .slice none 0 0] 30)) = W at *
    clear hW
    refine wp_region_quiet_below (by kernel_rfl) (by kernel_rfl) ?_
    repeat (first | go_big_quiet_skip | quiet_step (first | (go_at_call 51; exact Calls.regrown_of (TF.out _ HF.out _ (HB2.out.trans ((below_regrown W _ _).mono HB2.out.size)))) | (go_at_call 76; exact Calls.regrown_of (MO.out _ (HB2.out.trans ((below_regrown W _ _).mono HB2.out.size))))))
    refine wpQuiet_nil ?_
    intro _ hw'
    obtain ⟨⟨dq, osq⟩, hw''⟩ := hw'
    subst hw''
    have hbq := below_regrown W dq osq
    generalize Go.Sort.grow (redrawn W dq) osq = w1 at *
    have BX1 := Lib.hid (blk_below BX.out hbq)
    have BZ1 := Lib.hid (blk_below BZ.out hbq)
    have HB1 := Lib.hid (HB2.out.trans (hbq.mono HB2.out.size))
    clear hbq
    obtain ⟨y0, y1, y2, y3, y4, y5⟩ := KEEP.out _ BX1.out
    obtain ⟨k', d', n', ks', hq⟩ : ∃ k' d' n' ks', x.opn f = .mk k' d' n' ks' := by
      cases x.opn f with
      | mk a b c d => exact ⟨a, b, c, d, rfl⟩
    have OP' := OP.out
    rw [hq] at OP'
    have OP1 := Lib.hid OP'
    have HQ := Lib.hid hq
    clear OP' hq z0 z1 z2 z3 z4 z5
    go_wp2_with (go_at_call 77; have CT := OP1.out _ HB1.out; (with_reducible refine CT.mono ?_); clear CT; rintro e w3 ⟨cs', rfl, hfr, hb⟩; obtain ⟨A', c', rfl, _, _, _⟩ := Ty.open_ hfr.rd; have BZ3 := Lib.hid (blk_below BZ1.out hb); have HB4 := Lib.hid (HB1.out.trans (hb.mono HB1.out.size)); have FR := Lib.hid hfr; have SZ := Lib.hid HB1.out.size; have SZ2 := Lib.hid (blk_lt BZ1.out); have zr0 := (blk_cell BZ3.out 0).trans rfl; have zr1 := (blk_cell BZ3.out 1).trans rfl; have zr2 := (blk_cell BZ3.out 2).trans rfl; have zr3 := (blk_cell BZ3.out 3).trans rfl; have zf0 := blk_frozen BZ3.out 0; have zf1 := blk_frozen BZ3.out 1; have zf2 := blk_frozen BZ3.out 2; have zf3 := blk_frozen BZ3.out 3; clear hb hfr)
    refine bodyPost_ret (v := .agg #[.int .i64 k', .int .i64 d', .string n', .slice A' ks'.length c']) (by simp [results, Try.results27, go_sem, zr0, zr1, zr2, zr3]) rfl ⟨[.int .i64 k', .int .i64 d', .string n', .slice A' ks'.length c'], rfl, ?_, (((HB4.out.setCell (by simp) _).setCell (by simp) _).setCell (by simp) _).setCell (by simp) _⟩
    rw [HR.out, openRes, if_neg (by have h_ := HF.out; have g_ := HG.out; simp only [h_, g_]; simp; omega), HQ.out]
    have hlt := SZ2.out
    exact ((((FR.out.set (p := ⟨w.heap.size + 1, 0, none⟩) hlt _).set (p := ⟨w.heap.size + 1, 1, none⟩) hlt _).set (p := ⟨w.heap.size + 1, 2, none⟩) hlt _).set (p := ⟨w.heap.size + 1, 3, none⟩) hlt _).lower SZ.out

set_option maxRecDepth 100000 in
set_option maxHeartbeats 8000000 in
theorem implOpen (c f : Int) (ps : List (ByteArray × Int)) (x : Ty) (ho : x.ok) (hl : x.enc.bulk ≤ 1048576) (w : World) (cs : List Value) (h : Rd w (schD c ps x) cs) :
    Calls Try.prog 29 #[.agg cs.toArray, .int .i64 f] w fun e w' => ∃ cs', e = .returned (.agg cs'.toArray) ∧ Fr w.heap.size w' (openRes c f x).enc cs' ∧ Below w.heap.size w w' := by

  obtain ⟨A, p, u0, u1, u2, u3, rfl, hx⟩ := open_sch h
  have HX := Lib.hid hx
  have HB2 := Lib.hid ((below_alloc1 w (.cells #[.int .i64 c, .slice A ps.length p, u0, u1, u2, u3] 39)).alloc (by simp) (.cells #[.int .i64 0, .int .i64 0, .string ⟨#[]⟩, .slice none 0 0] 30))
  have BX := Lib.hid (blk_old (blk_new w (.cells #[.int .i64 c, .slice A ps.length p, u0, u1, u2, u3] 39)) (.cells #[.int .i64 0, .int .i64 0, .string ⟨#[]⟩, .slice none 0 0] 30))
  have BZ := Lib.hid (blk_new_g (w := w.alloc (.cells #[.int .i64 c, .slice A ps.length p, u0, u1, u2, u3] 39)) (g := w.heap.size + 1) (o := (.cells #[.int .i64 0, .int .i64 0, .string ⟨#[]⟩, .slice none 0 0] 30)) (by simp))
  have KEEP : Hid (∀ w' : World, w'.heap[w.heap.size]? = some (.cells #[.int .i64 c, .slice A ps.length p, u0, u1, u2, u3] 39 (0, 0)) → w'.cell? ⟨w.heap.size, 0, none⟩ = some (.int .i64 c) ∧ w'.cell? ⟨w.heap.size, 1, none⟩ = some (.slice A ps.length p) ∧ w'.cell? ⟨w.heap.size, 2, none⟩ = some u0 ∧ w'.cell? ⟨w.heap.size, 3, none⟩ = some u1 ∧ w'.cell? ⟨w.heap.size, 4, none⟩ = some u2 ∧ w'.cell? ⟨w.heap.size, 5, none⟩ = some u3) := fun w' h => ⟨(blk_cell h 0).trans rfl, (blk_cell h 1).trans rfl, (blk_cell h 2).trans rfl, (blk_cell h 3).trans rfl, (blk_cell h 4).trans rfl, (blk_cell h 5).trans rfl⟩
  obtain ⟨R, hR⟩ : ∃ R, R = openRes c f x := ⟨_, rfl⟩
  rw [← hR]
  have HR := Lib.hid hR
  clear h hx hR
  have TF : Hid (∀ (r : Bool), (x.fault 1 20000).1 = r → ∀ W, Below w.heap.size w W → Calls Try.prog 63 #[.agg #[u0, u1, u2, u3]] W fun e w' => e = .returned (.bool r) ∧ Below W.heap.size W w') := fun r hr W hb => by
    subst hr
    exact implTypeFault x ho W _ (HX.out.below hb)
  obtain ⟨z0, z1, z2, z3, z4, z5⟩ := KEEP.out _ BX.out
  cases hf : (x.fault 1 20000).1 with
  | true =>
    have HF := Lib.hid hf
    clear hf
    go_enter Try.func29, Try.ntmps29
    go_wp2_with fail
    refine (TF.out _ HF.out _ HB2.out).mono ?_
    rintro e w1 ⟨rfl, hb⟩
    have BX1 := Lib.hid (blk_below BX.out hb)
    have BZ1 := Lib.hid (blk_below BZ.out hb)
    have HB1 := Lib.hid (HB2.out.trans (hb.mono HB2.out.size))
    clear hb z0 z1 z2 z3 z4 z5
    obtain ⟨z0, z1, z2, z3, z4, z5⟩ := KEEP.out _ BX1.out
    have zr0 : World.cell? _ ⟨w.heap.size + 1, 0, none⟩ = some (.int .i64 0) := (blk_cell BZ1.out 0).trans rfl
    have zf0 := blk_frozen BZ1.out 0
    have zr1 : World.cell? _ ⟨w.heap.size + 1, 1, none⟩ = some (.int .i64 0) := (blk_cell BZ1.out 1).trans rfl
    have zf1 := blk_frozen BZ1.out 1
    have zr2 : World.cell? _ ⟨w.heap.size + 1, 2, none⟩ = some (.string ⟨#[]⟩) := (blk_cell BZ1.out 2).trans rfl
    have zf2 := blk_frozen BZ1.out 2
    have zr3 : World.cell? _ ⟨w.heap.size + 1, 3, none⟩ = some (.slice none 0 0) := (blk_cell BZ1.out 3).trans rfl
    have zf3 := blk_frozen BZ1.out 3
    go_wp2_with fail
    refine bodyPost_ret (v := .agg #[.int .i64 0, .int .i64 0, .string ⟨#[]⟩, .slice none 0 0]) (by simp [results, Try.results29, go_sem, zr0, zr1, zr2, zr3]) rfl ⟨[.int .i64 0, .int .i64 0, .string ⟨#[]⟩, .slice none 0 0], rfl, ?_, (((HB1.out.setCell (by simp) _).setCell (by simp) _).setCell (by simp) _).setCell (by simp) _⟩
    rw [HR.out, openRes, if_pos (.inl HF.out)]
    exact fr_none _ _
  | false =>
   have HF := Lib.hid hf
   have GD := Lib.hid (Ty.good hf)
   clear hf
   by_cases h1 : f < 0
   · have d1 : decide (f < 0) = true := decide_eq_true h1
     have H1 := Lib.hid h1
     go_enter Try.func29, Try.ntmps29
     go_wp2_with fail
     refine (TF.out _ HF.out _ HB2.out).mono ?_
     rintro e w1 ⟨rfl, hb⟩
     have BX1 := Lib.hid (blk_below BX.out hb)
     have BZ1 := Lib.hid (blk_below BZ.out hb)
     have HB1 := Lib.hid (HB2.out.trans (hb.mono HB2.out.size))
     clear hb z0 z1 z2 z3 z4 z5
     obtain ⟨z0, z1, z2, z3, z4, z5⟩ := KEEP.out _ BX1.out
     have zr0 : World.cell? _ ⟨w.heap.size + 1, 0, none⟩ = some (.int .i64 0) := (blk_cell BZ1.out 0).trans rfl
     have zf0 := blk_frozen BZ1.out 0
     have zr1 : World.cell? _ ⟨w.heap.size + 1, 1, none⟩ = some (.int .i64 0) := (blk_cell BZ1.out 1).trans rfl
     have zf1 := blk_frozen BZ1.out 1
     have zr2 : World.cell? _ ⟨w.heap.size + 1, 2, none⟩ = some (.string ⟨#[]⟩) := (blk_cell BZ1.out 2).trans rfl
     have zf2 := blk_frozen BZ1.out 2
     have zr3 : World.cell? _ ⟨w.heap.size + 1, 3, none⟩ = some (.slice none 0 0) := (blk_cell BZ1.out 3).trans rfl
     have zf3 := blk_frozen BZ1.out 3
     go_wp2_with fail
     refine bodyPost_ret (v := .agg #[.int .i64 0, .int .i64 0, .string ⟨#[]⟩, .slice none 0 0]) (by simp [results, Try.results29, go_sem, zr0, zr1, zr2, zr3]) rfl ⟨[.int .i64 0, .int .i64 0, .string ⟨#[]⟩, .slice none 0 0], rfl, ?_, (((HB1.out.setCell (by simp) _).setCell (by simp) _).setCell (by simp) _).setCell (by simp) _⟩
     rw [HR.out, openRes, if_pos (.inr (.inl H1.out))]
     exact fr_none _ _
   have d1 : decide (f < 0) = false := decide_eq_false h1
   by_cases h2 : 1099511627776 < f
   · have d2 : decide (1099511627776 < f) = true := decide_eq_true h2
     have H2 := Lib.hid h2
     go_enter Try.func29, Try.ntmps29
     go_wp2_with fail
     refine (TF.out _ HF.out _ HB2.out).mono ?_
     rintro e w1 ⟨rfl, hb⟩
     have BX1 := Lib.hid (blk_below BX.out hb)
     have BZ1 := Lib.hid (blk_below BZ.out hb)
     have HB1 := Lib.hid (HB2.out.trans (hb.mono HB2.out.size))
     clear hb z0 z1 z2 z3 z4 z5
     obtain ⟨z0, z1, z2, z3, z4, z5⟩ := KEEP.out _ BX1.out
     have zr0 : World.cell? _ ⟨w.heap.size + 1, 0, none⟩ = some (.int .i64 0) := (blk_cell BZ1.out 0).trans rfl
     have zf0 := blk_frozen BZ1.out 0
     have zr1 : World.cell? _ ⟨w.heap.size + 1, 1, none⟩ = some (.int .i64 0) := (blk_cell BZ1.out 1).trans rfl
     have zf1 := blk_frozen BZ1.out 1
     have zr2 : World.cell? _ ⟨w.heap.size + 1, 2, none⟩ = some (.string ⟨#[]⟩) := (blk_cell BZ1.out 2).trans rfl
     have zf2 := blk_frozen BZ1.out 2
     have zr3 : World.cell? _ ⟨w.heap.size + 1, 3, none⟩ = some (.slice none 0 0) := (blk_cell BZ1.out 3).trans rfl
     have zf3 := blk_frozen BZ1.out 3
     go_wp2_with fail
     refine bodyPost_ret (v := .agg #[.int .i64 0, .int .i64 0, .string ⟨#[]⟩, .slice none 0 0]) (by simp [results, Try.results29, go_sem, zr0, zr1, zr2, zr3]) rfl ⟨[.int .i64 0, .int .i64 0, .string ⟨#[]⟩, .slice none 0 0], rfl, ?_, (((HB1.out.setCell (by simp) _).setCell (by simp) _).setCell (by simp) _).setCell (by simp) _⟩
     rw [HR.out, openRes, if_pos (.inr (.inr (.inl H2.out)))]
     exact fr_none _ _
   have d2 : decide (1099511627776 < f) = false := decide_eq_false h2
   by_cases h3 : c < 0
   · have d3 : decide (c < 0) = true := decide_eq_true h3
     have H3 := Lib.hid h3
     go_enter Try.func29, Try.ntmps29
     go_wp2_with fail
     refine (TF.out _ HF.out _ HB2.out).mono ?_
     rintro e w1 ⟨rfl, hb⟩
     have BX1 := Lib.hid (blk_below BX.out hb)
     have BZ1 := Lib.hid (blk_below BZ.out hb)
     have HB1 := Lib.hid (HB2.out.trans (hb.mono HB2.out.size))
     clear hb z0 z1 z2 z3 z4 z5
     obtain ⟨z0, z1, z2, z3, z4, z5⟩ := KEEP.out _ BX1.out
     have zr0 : World.cell? _ ⟨w.heap.size + 1, 0, none⟩ = some (.int .i64 0) := (blk_cell BZ1.out 0).trans rfl
     have zf0 := blk_frozen BZ1.out 0
     have zr1 : World.cell? _ ⟨w.heap.size + 1, 1, none⟩ = some (.int .i64 0) := (blk_cell BZ1.out 1).trans rfl
     have zf1 := blk_frozen BZ1.out 1
     have zr2 : World.cell? _ ⟨w.heap.size + 1, 2, none⟩ = some (.string ⟨#[]⟩) := (blk_cell BZ1.out 2).trans rfl
     have zf2 := blk_frozen BZ1.out 2
     have zr3 : World.cell? _ ⟨w.heap.size + 1, 3, none⟩ = some (.slice none 0 0) := (blk_cell BZ1.out 3).trans rfl
     have zf3 := blk_frozen BZ1.out 3
     go_wp2_with fail
     refine bodyPost_ret (v := .agg #[.int .i64 0, .int .i64 0, .string ⟨#[]⟩, .slice none 0 0]) (by simp [results, Try.results29, go_sem, zr0, zr1, zr2, zr3]) rfl ⟨[.int .i64 0, .int .i64 0, .string ⟨#[]⟩, .slice none 0 0], rfl, ?_, (((HB1.out.setCell (by simp) _).setCell (by simp) _).setCell (by simp) _).setCell (by simp) _⟩
     rw [HR.out, openRes, if_pos (.inr (.inr (.inr (.inl H3.out))))]
     exact fr_none _ _
   have d3 : decide (c < 0) = false := decide_eq_false h3
   by_cases h4 : 1099511627776 < c
   · have d4 : decide (1099511627776 < c) = true := decide_eq_true h4
     have H4 := Lib.hid h4
     go_enter Try.func29, Try.ntmps29
     go_wp2_with fail
     refine (TF.out _ HF.out _ HB2.out).mono ?_
     rintro e w1 ⟨rfl, hb⟩
     have BX1 := Lib.hid (blk_below BX.out hb)
     have BZ1 := Lib.hid (blk_below BZ.out hb)
     have HB1 := Lib.hid (HB2.out.trans (hb.mono HB2.out.size))
     clear hb z0 z1 z2 z3 z4 z5
     obtain ⟨z0, z1, z2, z3, z4, z5⟩ := KEEP.out _ BX1.out
     have zr0 : World.cell? _ ⟨w.heap.size + 1, 0, none⟩ = some (.int .i64 0) := (blk_cell BZ1.out 0).trans rfl
     have zf0 := blk_frozen BZ1.out 0
     have zr1 : World.cell? _ ⟨w.heap.size + 1, 1, none⟩ = some (.int .i64 0) := (blk_cell BZ1.out 1).trans rfl
     have zf1 := blk_frozen BZ1.out 1
     have zr2 : World.cell? _ ⟨w.heap.size + 1, 2, none⟩ = some (.string ⟨#[]⟩) := (blk_cell BZ1.out 2).trans rfl
     have zf2 := blk_frozen BZ1.out 2
     have zr3 : World.cell? _ ⟨w.heap.size + 1, 3, none⟩ = some (.slice none 0 0) := (blk_cell BZ1.out 3).trans rfl
     have zf3 := blk_frozen BZ1.out 3
     go_wp2_with fail
     refine bodyPost_ret (v := .agg #[.int .i64 0, .int .i64 0, .string ⟨#[]⟩, .slice none 0 0]) (by simp [results, Try.results29, go_sem, zr0, zr1, zr2, zr3]) rfl ⟨[.int .i64 0, .int .i64 0, .string ⟨#[]⟩, .slice none 0 0], rfl, ?_, (((HB1.out.setCell (by simp) _).setCell (by simp) _).setCell (by simp) _).setCell (by simp) _⟩
     rw [HR.out, openRes, if_pos (.inr (.inr (.inr (.inr (.inl H4.out)))))]
     exact fr_none _ _
   have d4 : decide (1099511627776 < c) = false := decide_eq_false h4
   cases hg : x.gens c with
   | false =>
    have HG := Lib.hid hg
    clear hg
    go_enter Try.func29, Try.ntmps29
    go_wp2_with fail
    refine (TF.out _ HF.out _ HB2.out).mono ?_
    rintro e w1 ⟨rfl, hb⟩
    have BX1 := Lib.hid (blk_below BX.out hb)
    have BZ1 := Lib.hid (blk_below BZ.out hb)
    have HB1 := Lib.hid (HB2.out.trans (hb.mono HB2.out.size))
    clear hb z0 z1 z2 z3 z4 z5
    obtain ⟨z0, z1, z2, z3, z4, z5⟩ := KEEP.out _ BX1.out
    have OPc := Lib.hid (ImplOpn_all f c x GD.out.1 hl w1 (w1.alloc (.cells #[.bool true] 4)) [u0, u1, u2, u3] w.heap.size 2 w1.heap.size true (HX.out.below HB1.out) (fun j u hj => by
      match j, hj with
      | 0, hj => simp at hj; subst hj; exact z2
      | 1, hj => simp at hj; subst hj; exact z3
      | 2, hj => simp at hj; subst hj; exact z4
      | 3, hj => simp at hj; subst hj; exact z5) (below_alloc1 _ _) (blk_new _ _) (Nat.le_refl _))
    obtain ⟨k', d', n', ks', hq⟩ : ∃ k' d' n' ks', x.opn f = .mk k' d' n' ks' := by
      cases x.opn f with
      | mk a b c d => exact ⟨a, b, c, d, rfl⟩
    have OP' := OPc.out
    rw [hq, HG.out] at OP'
    have OP1 := Lib.hid OP'
    have HQ := Lib.hid hq
    have LT1 := Lib.hid (blk_lt BZ1.out)
    have y0 : ∀ o, (w1.alloc o).cell? ⟨w.heap.size, 0, none⟩ = some (.int .i64 c) := fun o => cell_below (below_alloc1 _ _) z0
    clear OP' hq OPc
    go_wp2_with fail
    refine OP1.out.mono ?_
    rintro e w2 ⟨cs', rfl, hfr, hb⟩
    obtain ⟨A', c', rfl, _, _, _⟩ := Ty.open_ hfr.rd
    have BB : Hid (Below w1.heap.size w1 w2) := ((below_alloc1 w1 _).setCell (p := ⟨w1.heap.size, 0, none⟩) (Nat.le_refl _) _).trans (hb.mono (by simp))
    have GV := Lib.hid ((hb.block w1.heap.size (by simp)).trans (blk_set (blk_new w1 (.cells #[.bool true] 4)) 0 _))
    have g0 := (blk_cell GV.out 0).trans rfl
    have BZ2 := Lib.hid (blk_below BZ1.out BB.out)
    have zr0 := (blk_cell BZ2.out 0).trans rfl
    have zr1 := (blk_cell BZ2.out 1).trans rfl
    have zr2 := (blk_cell BZ2.out 2).trans rfl
    have zr3 := (blk_cell BZ2.out 3).trans rfl
    have zf0 := blk_frozen BZ2.out 0
    have zf1 := blk_frozen BZ2.out 1
    have zf2 := blk_frozen BZ2.out 2
    have zf3 := blk_frozen BZ2.out 3
    have lg := GV.out
    have l2 := blk_lt BZ2.out
    have lg := blk_lt GV.out
    have AL := Lib.hid (below_alloc1 w2 (.cells #[.int .i64 k', .int .i64 d', .string n', .slice A' ks'.length c'] 30))
    have HBW := Lib.hid (((HB1.out.trans (BB.out.mono HB1.out.size)).trans (AL.out.mono (HB1.out.trans (BB.out.mono HB1.out.size)).size)))
    have FR0 := Lib.hid hfr
    have HBW0 := Lib.hid (HB1.out.trans (BB.out.mono HB1.out.size))
    have LT3 : w.heap.size + 1 < (w1.alloc (.cells #[.bool true] 4)).heap.size := by have := LT1.out; simp; omega
    have LT3' := Lib.hid LT3
    clear LT3
    have SZ := Lib.hid HB1.out.size
    clear hfr hb OP1
    go_wp2_with fail
    have BR := blk_old (blk_set (blk_set (blk_set (blk_set BZ2.out 0 (.int .i64 0)) 1 (.int .i64 0)) 2 (.string ⟨#[]⟩)) 3 (.slice none 0 0)) (.cells #[.int .i64 k', .int .i64 d', .string n', .slice A' ks'.length c'] 30)
    have rr0 := (blk_cell BR 0).trans rfl
    have rr1 := (blk_cell BR 1).trans rfl
    have rr2 := (blk_cell BR 2).trans rfl
    have rr3 := (blk_cell BR 3).trans rfl
    refine bodyPost_ret (v := .agg #[.int .i64 0, .int .i64 0, .string ⟨#[]⟩, .slice none 0 0]) (by simp [results, Try.results29, go_sem, rr0, rr1, rr2, rr3]) rfl ⟨[.int .i64 0, .int .i64 0, .string ⟨#[]⟩, .slice none 0 0], rfl, ?_, ?_⟩
    · rw [HR.out, openRes, if_pos (.inr (.inr (.inr (.inr (.inr HG.out)))))]
      exact fr_none _ _
    · exact (((((HBW0.out.setCell (by simp) _).setCell (by simp) _).setCell (by simp) _).setCell (by simp) _)).alloc (by have := HBW0.out.size; simp [World.setCell]; omega) _
   | true =>
    have HG := Lib.hid hg
    clear hg
    go_enter Try.func29, Try.ntmps29
    go_wp2_with fail
    refine (TF.out _ HF.out _ HB2.out).mono ?_
    rintro e w1 ⟨rfl, hb⟩
    have BX1 := Lib.hid (blk_below BX.out hb)
    have BZ1 := Lib.hid (blk_below BZ.out hb)
    have HB1 := Lib.hid (HB2.out.trans (hb.mono HB2.out.size))
    clear hb z0 z1 z2 z3 z4 z5
    obtain ⟨z0, z1, z2, z3, z4, z5⟩ := KEEP.out _ BX1.out
    have OPc := Lib.hid (ImplOpn_all f c x GD.out.1 hl w1 (w1.alloc (.cells #[.bool true] 4)) [u0, u1, u2, u3] w.heap.size 2 w1.heap.size true (HX.out.below HB1.out) (fun j u hj => by
      match j, hj with
      | 0, hj => simp at hj; subst hj; exact z2
      | 1, hj => simp at hj; subst hj; exact z3
      | 2, hj => simp at hj; subst hj; exact z4
      | 3, hj => simp at hj; subst hj; exact z5) (below_alloc1 _ _) (blk_new _ _) (Nat.le_refl _))
    obtain ⟨k', d', n', ks', hq⟩ : ∃ k' d' n' ks', x.opn f = .mk k' d' n' ks' := by
      cases x.opn f with
      | mk a b c d => exact ⟨a, b, c, d, rfl⟩
    have OP' := OPc.out
    rw [hq, HG.out] at OP'
    have OP1 := Lib.hid OP'
    have HQ := Lib.hid hq
    have LT1 := Lib.hid (blk_lt BZ1.out)
    have y0 : ∀ o, (w1.alloc o).cell? ⟨w.heap.size, 0, none⟩ = some (.int .i64 c) := fun o => cell_below (below_alloc1 _ _) z0
    clear OP' hq OPc
    go_wp2_with fail
    refine OP1.out.mono ?_
    rintro e w2 ⟨cs', rfl, hfr, hb⟩
    obtain ⟨A', c', rfl, _, _, _⟩ := Ty.open_ hfr.rd
    have BB : Hid (Below w1.heap.size w1 w2) := ((below_alloc1 w1 _).setCell (p := ⟨w1.heap.size, 0, none⟩) (Nat.le_refl _) _).trans (hb.mono (by simp))
    have GV := Lib.hid ((hb.block w1.heap.size (by simp)).trans (blk_set (blk_new w1 (.cells #[.bool true] 4)) 0 _))
    have g0 := (blk_cell GV.out 0).trans rfl
    have BZ2 := Lib.hid (blk_below BZ1.out BB.out)
    have zr0 := (blk_cell BZ2.out 0).trans rfl
    have zr1 := (blk_cell BZ2.out 1).trans rfl
    have zr2 := (blk_cell BZ2.out 2).trans rfl
    have zr3 := (blk_cell BZ2.out 3).trans rfl
    have zf0 := blk_frozen BZ2.out 0
    have zf1 := blk_frozen BZ2.out 1
    have zf2 := blk_frozen BZ2.out 2
    have zf3 := blk_frozen BZ2.out 3
    have lg := GV.out
    have l2 := blk_lt BZ2.out
    have lg := blk_lt GV.out
    have AL := Lib.hid (below_alloc1 w2 (.cells #[.int .i64 k', .int .i64 d', .string n', .slice A' ks'.length c'] 30))
    have HBW := Lib.hid (((HB1.out.trans (BB.out.mono HB1.out.size)).trans (AL.out.mono (HB1.out.trans (BB.out.mono HB1.out.size)).size)))
    have FR0 := Lib.hid hfr
    have HBW0 := Lib.hid (HB1.out.trans (BB.out.mono HB1.out.size))
    have LT3 : w.heap.size + 1 < (w1.alloc (.cells #[.bool true] 4)).heap.size := by have := LT1.out; simp; omega
    have LT3' := Lib.hid LT3
    clear LT3
    have SZ := Lib.hid HB1.out.size
    clear hfr hb OP1
    go_wp2_with fail
    have BR := blk_old (blk_set (blk_set (blk_set (blk_set BZ2.out 0 (.int .i64 k')) 1 (.int .i64 d')) 2 (.string n')) 3 (.slice A' ks'.length c')) (.cells #[.int .i64 k', .int .i64 d', .string n', .slice A' ks'.length c'] 30)
    have rr0 := (blk_cell BR 0).trans rfl
    have rr1 := (blk_cell BR 1).trans rfl
    have rr2 := (blk_cell BR 2).trans rfl
    have rr3 := (blk_cell BR 3).trans rfl
    refine bodyPost_ret (v := .agg #[.int .i64 k', .int .i64 d', .string n', .slice A' ks'.length c']) (by simp [results, Try.results29, go_sem, rr0, rr1, rr2, rr3]) rfl ⟨[.int .i64 k', .int .i64 d', .string n', .slice A' ks'.length c'], rfl, ?_, ?_⟩
    · rw [HR.out, openRes, if_neg (by have h_ := HF.out; have g_ := HG.out; simp only [h_, g_]; simp; omega), HQ.out]
      have LT3 := LT3'.out
      exact (((((FR0.out.set (p := ⟨w.heap.size + 1, 0, none⟩) LT3 _).set (p := ⟨w.heap.size + 1, 1, none⟩) LT3 _).set (p := ⟨w.heap.size + 1, 2, none⟩) LT3 _).set (p := ⟨w.heap.size + 1, 3, none⟩) LT3 _).below (below_alloc1 _ _)).lower (by have := SZ.out; simp; omega)
    · exact (((((HBW0.out.setCell (by simp) _).setCell (by simp) _).setCell (by simp) _).setCell (by simp) _)).alloc (by have := HBW0.out.size; simp [World.setCell]; omega) _

theorem Ty.opns_size (f : Int) : ∀ (xs : List Ty), (∀ x ∈ xs, (x.opn f).size ≤ x.size) → Ty.sizes (Ty.opns f xs) ≤ Ty.sizes xs
  | [], _ => Nat.le_refl _
  | x :: xs, ih => by
    simp only [Ty.opns, Ty.sizes]
    have h1 := ih x (by simp)
    have h2 := Ty.opns_size f xs (fun y hy => ih y (by simp [hy]))
    omega
theorem Ty.opn_size (f : Int) : ∀ x : Ty, (x.opn f).size ≤ x.size :=
  Ty.induct fun k d n ks ih => by
    rw [Ty.opn]
    split
    · simp only [Ty.size, Ty.sizes]; omega
    · have := Ty.opns_size f ks ih
      simp only [Ty.size]; omega
theorem Ty.oks_mk {xs : List Ty} (h : ∀ x ∈ xs, x.ok) : Ty.oks xs := by
  induction xs with
  | nil => simp [Ty.oks]
  | cons x xs ih => simp only [Ty.oks]; exact ⟨h x (by simp), ih fun y hy => h y (by simp [hy])⟩
theorem Ty.none_ok : Ty.none_.ok := by simp only [Ty.none_, Ty.ok, Ty.oks]; exact ⟨by decide, by decide, by decide, by decide, trivial⟩
theorem Ty.opn_ok (f : Int) : ∀ x : Ty, x.ok → (x.opn f).ok :=
  Ty.induct fun k d n ks ih h => by
    rw [Ty.opn]
    split
    · simp only [Ty.ok, Ty.oks]
      exact ⟨by decide, wf_wrap64 _, by decide, by decide, trivial⟩
    · simp only [Ty.ok] at h ⊢
      refine ⟨h.1, h.2.1, h.2.2.1, by rw [Ty.opns_map, List.length_map]; exact h.2.2.2.1, Ty.oks_mk fun y hy => ?_⟩
      rw [Ty.opns_map] at hy
      obtain ⟨x, hx, rfl⟩ := List.mem_map.1 hy
      exact ih x hx (Ty.oks_mem h.2.2.2.2 x hx)
theorem openRes_ok (c f : Int) (x : Ty) (h : x.ok) : (openRes c f x).ok ∧ (openRes c f x).size ≤ 20000 := by
  unfold openRes
  split
  · exact ⟨Ty.none_ok, by decide⟩
  · rename_i hc
    have hf : (x.fault 1 20000).1 = false := by
      cases h0 : (x.fault 1 20000).1 with
      | false => rfl
      | true => exact absurd (.inl h0) hc
    exact ⟨Ty.opn_ok f x h, Nat.le_trans (Ty.opn_size f x) (Ty.good hf).2⟩
theorem walkOpen (c f : Int) (ps : List (ByteArray × Int)) (x : Ty) (hn : ps.length ≤ 140737488351232) (hp : ∀ p ∈ ps, predOk p) (ho : x.ok) (w : World) (cs : List Value) (h : Rd w (schD c ps x) cs) :
    Calls Try.prog 5 #[.agg cs.toArray, .int .i64 f] w fun e w' => e = .returned (.bool true) ∧ Below w.heap.size w w' := by
  have hr := openRes_ok c f x ho
  have hx : (schD c ps x).bulk ≤ 1048576 → x.enc.bulk ≤ 1048576 := fun hb => by rw [sch_bulk] at hb; omega
  exact lawFnExactOpen (schD c ps x) f (openRes c f x).enc (by simp only [schD, D.n, D.nAll, Ty.n]) (sch_sz c ps x hn hp ho) (sch_to c ps x) (sch_eq c ps x hn ho)
    (fun hb => ⟨by have := sch_tcnt_le c ps x; omega, sch_mk c ps x hn ho⟩) (Ty.n _) (Ty.eq _ hr.1)
    (fun hb => ⟨by have := Ty.tcnt_size (openRes c f x); omega, Ty.mkA _ hr.1, Ty.hdA _ hr.1⟩)
    (fun hb w cs h => specOpen c f ps x ho (hx hb) w cs h) (fun hb w cs h => implOpen c f ps x ho (hx hb) w cs h) w cs h

end Go.Proofs.Ytbbpkjcmbakfeaa
