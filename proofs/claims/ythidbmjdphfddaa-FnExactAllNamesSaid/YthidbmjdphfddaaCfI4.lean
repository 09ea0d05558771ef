/- The program's shape of a core term: let, primitives, other kinds; no condition. -/
import Derived.Test.YthidbmjdphfddaaCfI3
namespace Go.Proofs.Ythidbmjdphfddaa
open Go Go.RowKit
set_option linter.unusedVariables false
set_option linter.unusedSimpArgs false

open Go.Sort
section
variable {W0 w : World} {b off : Nat} {n : ByteArray} {m : Bool} {l : List Int} {ns : List ByteArray} {nk : Nat} {qs : List Ca} {AL AN AK AA : Option Addr} {cL cN cK cA : Nat}
set_option maxRecDepth 100000 in
set_option maxHeartbeats 1000000 in
theorem fits7 (A : At W0 b off 7 n m l.length ns.length nk qs.length AL AN AK AA cL cN cK cA) (hb : Below W0.heap.size W0 w) (hk : nk ≤ 140737488351232) (hn : ns.length ≤ 140737488351232) (hl : ∀ x ∈ ns, x.size ≤ 140737488351232) (hd : Rd W0 (.slice 1 (strs ns)) [.slice AN ns.length cN]) :
    Calls Try.prog 225 #[.agg #[.pointer (some ⟨b, off, none⟩)]] w (Says (fitP 7 n m l ns nk qs) w) := by
  have FIT : Hid (fitP 7 n m l ns nk qs ↔ (n.toList = [] ∧ 1 ≤ ns.length ∧ nk = ns.length + 1 ∧ okNames ns = true ∧ (qs.length == 0) = true ∧ (!m && l.length == 0) = true)) := by
    show _ ↔ _
    constructor
    · intro h
      simp [fitP] at h
      simp [h]
    · intro h
      simp at h
      simp [fitP, h]
  obtain ⟨W, hW⟩ : ∃ W, W = w.alloc (.cells #[.pointer (some ⟨b, off, none⟩)] 240) := ⟨_, rfl⟩
  have HC0 := Lib.hid (below_al hb hb.size (.cells #[.pointer (some ⟨b, off, none⟩)] 240))
  have HB0 := Lib.hid (below_alloc1 w (.cells #[.pointer (some ⟨b, off, none⟩)] 240))
  have BX0 := Lib.hid (blk_new w (.cells #[.pointer (some ⟨b, off, none⟩)] 240))
  rw [← hW] at HC0 HB0 BX0
  have y1 := fun d os => cell_regrown (A.c1 _ HC0.out) d os
  have y4 := fun d os => cell_regrown (A.c4 _ HC0.out) d os
  have y5 := fun d os => cell_regrown (A.c5 _ HC0.out) d os
  have z0 := fun d os => cell_regrown (show W.cell? ⟨w.heap.size, 0, none⟩ = some (.pointer (some ⟨b, off, none⟩)) from (blk_cell BX0.out 0).trans rfl) d os
  have GW : Hid (∀ d os, Below W0.heap.size W0 (grow (redrawn W d) os)) := fun d os => HC0.out.trans ((below_regrown W d os).mono HC0.out.size)
  have UNL : Hid (∀ d os, Calls Try.prog 224 #[.slice AN ns.length cN] (grow (redrawn W d) os) fun e w' => e = .returned (.bool (okNames ns)) ∧ Below (grow (redrawn W d) os).heap.size (grow (redrawn W d) os) w') := fun d os => implUnlike ns hn hl _ _ (hd.below (GW.out d os))
  have NOA : Hid (∀ z, (qs.length == 0) = z → ∀ d os, Calls Try.prog 217 #[.agg #[.pointer (some ⟨b, off, none⟩)]] (grow (redrawn W d) os) fun e w' => e = .returned (.bool z) ∧ Below (grow (redrawn W d) os).heap.size (grow (redrawn W d) os) w') := fun z hz d os => cNoAlts A (GW.out d os) z hz
  have NOB : Hid (∀ z, (!m && l.length == 0) = z → ∀ d os, Calls Try.prog 215 #[.agg #[.pointer (some ⟨b, off, none⟩)]] (grow (redrawn W d) os) fun e w' => e = .returned (.bool z) ∧ Below (grow (redrawn W d) os).heap.size (grow (redrawn W d) os) w') := fun z hz d os => cNoNumber A (GW.out d os) z hz
  obtain ⟨za, qa⟩ : ∃ z, (qs.length == 0) = z := ⟨_, rfl⟩
  obtain ⟨zb, qb⟩ : ∃ z, (!m && l.length == 0) = z := ⟨_, rfl⟩
  have NOA := Lib.hid (NOA.out za qa)
  have NOB := Lib.hid (NOB.out zb qb)
  rw [qa, qb] at FIT
  have HW := Lib.hid hW
  have s1 : IntKind.i64.wrap ((ns.length : Int) + 1) = (ns.length : Int) + 1 := IntWalk.i64_in _ (by omega)
  clear A hb hn hl hd qa qb hW
  generalize okNames ns = g at *
  have s2 : (0 : Int) ≤ (ns.length : Int) + 1 := by omega
  have CLOSE : Hid (∀ (wq : World) (r : Bool), Below W.heap.size W wq → (r = true ↔ fitP 7 n m l ns nk qs) → Says (fitP 7 n m l ns nk qs) w (.returned (.bool r)) wq) := fun wq r h1 h2 => says_of h2 (HB0.out.trans (h1.mono HB0.out.size))
  cases hn : n.toList.isEmpty
  · have F0 := Lib.hid (emp_f hn)
    go_enter Try.func225, Try.ntmps225
    go_wp2_with fail
    simp only [← HW.out]
    refine wp_region_quiet_below (by kernel_rfl) (by kernel_rfl) ?_
    repeat (first | go_big_quiet_skip | quiet_step (first | (go_at_call 224; exact Calls.regrown_of (UNL.out _ _)) | (go_at_call 217; exact Calls.regrown_of (NOA.out _ _)) | (go_at_call 215; exact Calls.regrown_of (NOB.out _ _))))
    refine wpQuiet_nil ?_
    intro _ hw'
    obtain ⟨⟨dq, osq⟩, hw''⟩ := hw'
    subst hw''
    have HBQ := Lib.hid (below_regrown W dq osq)
    clear y1 y4 y5 z0 s1 s2
    generalize grow (redrawn W dq) osq = wq at *
    go_wp2
    go_ret
    refine CLOSE.out _ _ HBQ.out ?_
    rw [FIT.out]
    simp [F0.out]
  · have F0 := Lib.hid (emp_t hn)
    by_cases hc : 1 ≤ ns.length
    · have F1 := Lib.hid hc
      have h1 : (0 : Int) < (ns.length : Int) := by omega
      have h1' : 0 < ns.length := by omega
      clear hc
      by_cases hc : nk = ns.length + 1
      · have F2 := Lib.hid hc
        have h2 : ((nk : Int) == (ns.length : Int) + 1) = true := by rw [beq_iff_eq]; omega
        clear hc
        cases g
        · go_enter Try.func225, Try.ntmps225
          go_wp2_with fail
          simp only [← HW.out]
          refine wp_region_quiet_below (by kernel_rfl) (by kernel_rfl) ?_
          repeat (first | go_big_quiet_skip | quiet_step (first | (go_at_call 224; exact Calls.regrown_of (UNL.out _ _)) | (go_at_call 217; exact Calls.regrown_of (NOA.out _ _)) | (go_at_call 215; exact Calls.regrown_of (NOB.out _ _))))
          refine wpQuiet_nil ?_
          intro _ hw'
          obtain ⟨⟨dq, osq⟩, hw''⟩ := hw'
          subst hw''
          have HBQ := Lib.hid (below_regrown W dq osq)
          clear y1 y4 y5 z0 s1 s2
          generalize grow (redrawn W dq) osq = wq at *
          go_wp2
          go_ret
          refine CLOSE.out _ _ HBQ.out ?_
          rw [FIT.out]
          simp
        · cases za
          · go_enter Try.func225, Try.ntmps225
            go_wp2_with fail
            simp only [← HW.out]
            refine wp_region_quiet_below (by kernel_rfl) (by kernel_rfl) ?_
            repeat (first | go_big_quiet_skip | quiet_step (first | (go_at_call 224; exact Calls.regrown_of (UNL.out _ _)) | (go_at_call 217; exact Calls.regrown_of (NOA.out _ _)) | (go_at_call 215; exact Calls.regrown_of (NOB.out _ _))))
            refine wpQuiet_nil ?_
            intro _ hw'
            obtain ⟨⟨dq, osq⟩, hw''⟩ := hw'
            subst hw''
            have HBQ := Lib.hid (below_regrown W dq osq)
            clear y1 y4 y5 z0 s1 s2
            generalize grow (redrawn W dq) osq = wq at *
            go_wp2
            go_ret
            refine CLOSE.out _ _ HBQ.out ?_
            rw [FIT.out]
            simp
          · cases zb
            · go_enter Try.func225, Try.ntmps225
              go_wp2_with fail
              simp only [← HW.out]
              refine wp_region_quiet_below (by kernel_rfl) (by kernel_rfl) ?_
              repeat (first | go_big_quiet_skip | quiet_step (first | (go_at_call 224; exact Calls.regrown_of (UNL.out _ _)) | (go_at_call 217; exact Calls.regrown_of (NOA.out _ _)) | (go_at_call 215; exact Calls.regrown_of (NOB.out _ _))))
              refine wpQuiet_nil ?_
              intro _ hw'
              obtain ⟨⟨dq, osq⟩, hw''⟩ := hw'
              subst hw''
              have HBQ := Lib.hid (below_regrown W dq osq)
              clear y1 y4 y5 z0 s1 s2
              generalize grow (redrawn W dq) osq = wq at *
              go_wp2
              go_ret
              refine CLOSE.out _ _ HBQ.out ?_
              rw [FIT.out]
              simp
            · go_enter Try.func225, Try.ntmps225
              go_wp2_with fail
              simp only [← HW.out]
              refine wp_region_quiet_below (by kernel_rfl) (by kernel_rfl) ?_
              repeat (first | go_big_quiet_skip | quiet_step (first | (go_at_call 224; exact Calls.regrown_of (UNL.out _ _)) | (go_at_call 217; exact Calls.regrown_of (NOA.out _ _)) | (go_at_call 215; exact Calls.regrown_of (NOB.out _ _))))
              refine wpQuiet_nil ?_
              intro _ hw'
              obtain ⟨⟨dq, osq⟩, hw''⟩ := hw'
              subst hw''
              have HBQ := Lib.hid (below_regrown W dq osq)
              clear y1 y4 y5 z0 s1 s2
              generalize grow (redrawn W dq) osq = wq at *
              go_wp2
              go_ret
              refine CLOSE.out _ _ HBQ.out ?_
              rw [FIT.out]
              have f0 := F0.out
              have f1 := F1.out
              have f2 := F2.out
              simp [f0, f2]
              try omega
      · have F2 := Lib.hid hc
        have h2 : ((nk : Int) == (ns.length : Int) + 1) = false := by rw [beq_eq_false_iff_ne]; omega
        clear hc
        go_enter Try.func225, Try.ntmps225
        go_wp2_with fail
        simp only [← HW.out]
        refine wp_region_quiet_below (by kernel_rfl) (by kernel_rfl) ?_
        repeat (first | go_big_quiet_skip | quiet_step (first | (go_at_call 224; exact Calls.regrown_of (UNL.out _ _)) | (go_at_call 217; exact Calls.regrown_of (NOA.out _ _)) | (go_at_call 215; exact Calls.regrown_of (NOB.out _ _))))
        refine wpQuiet_nil ?_
        intro _ hw'
        obtain ⟨⟨dq, osq⟩, hw''⟩ := hw'
        subst hw''
        have HBQ := Lib.hid (below_regrown W dq osq)
        clear y1 y4 y5 z0 s1 s2
        generalize grow (redrawn W dq) osq = wq at *
        go_wp2
        go_ret
        refine CLOSE.out _ _ HBQ.out ?_
        rw [FIT.out]
        simp [F2.out]
    · have F1 := Lib.hid hc
      have h1 : ns.length = 0 := by omega
      generalize ns.length = z at *
      subst h1
      clear hc
      go_enter Try.func225, Try.ntmps225
      go_wp2_with fail
      simp only [← HW.out]
      refine wp_region_quiet_below (by kernel_rfl) (by kernel_rfl) ?_
      repeat (first | go_big_quiet_skip | quiet_step (first | (go_at_call 224; exact Calls.regrown_of (UNL.out _ _)) | (go_at_call 217; exact Calls.regrown_of (NOA.out _ _)) | (go_at_call 215; exact Calls.regrown_of (NOB.out _ _))))
      refine wpQuiet_nil ?_
      intro _ hw'
      obtain ⟨⟨dq, osq⟩, hw''⟩ := hw'
      subst hw''
      have HBQ := Lib.hid (below_regrown W dq osq)
      clear y1 y4 y5 z0 s1 s2
      generalize grow (redrawn W dq) osq = wq at *
      go_wp2
      go_ret
      refine CLOSE.out _ _ HBQ.out ?_
      rw [FIT.out]
      simp
end
end Go.Proofs.Ythidbmjdphfddaa
