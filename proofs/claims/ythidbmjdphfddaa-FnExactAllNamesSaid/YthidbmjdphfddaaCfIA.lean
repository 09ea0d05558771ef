/- The program's 'CoreFault', whole; no condition. -/
import Derived.Test.YthidbmjdphfddaaCfI9
namespace Go.Proofs.Ythidbmjdphfddaa
open Go Go.RowKit Go.Sort
set_option linter.unusedVariables false
set_option linter.unusedSimpArgs false

set_option maxRecDepth 100000 in
theorem implCoreFault (x : Cr) (hx : x.ok) (hb : x.enc.bulk ≤ 1048576) (w : World) (cs : List Value) (h : Rd w x.enc cs) :
    Calls Try.prog 63 #[.agg cs.toArray] w (Verdict x.good w) := by
  obtain ⟨u0, u1, u2, u3, u4, u5, u6, rfl⟩ := cells7 (h.len.trans x.n)
  have B1 := below_alloc1 w (.cells #[u0, u1, u2, u3, u4, u5, u6] 36)
  have hbk := blk_new w (.cells #[u0, u1, u2, u3, u4, u5, u6] 36)
  have hs : (w.alloc (.cells #[u0, u1, u2, u3, u4, u5, u6] 36)).heap.size = w.heap.size + 1 := by simp
  have hcell : CellsAt (w.alloc (.cells #[u0, u1, u2, u3, u4, u5, u6] 36)) w.heap.size 0 [u0, u1, u2, u3, u4, u5, u6] := fun i u hi => by
    have := blk_cell hbk (0 + i)
    rw [this]
    simpa using hi
  have CT1 : Hid (∀ W, W = w.alloc (.cells #[u0, u1, u2, u3, u4, u5, u6] 36) → Calls Try.prog 121 #[.pointer (some ⟨w.heap.size, 0, none⟩), .int .i64 1, .func (.func 122) #[] #[.pointer (some ⟨w.heap.size + 1, 0, none⟩), .pointer (some ⟨w.heap.size + 1 + 1, 0, none⟩)]] ((W.alloc (.cells #[.int .i64 0] 3)).alloc (.cells #[.int .i64 0] 3)) (CntA W (0 + (x.wti : Int) ≤ 20000 ∧ x.okd 1) (0 + x.wti))) := by
    rintro W rfl
    have ht : Tc (w.alloc (.cells #[u0, u1, u2, u3, u4, u5, u6] 36)) 0 0 (((w.alloc (.cells #[u0, u1, u2, u3, u4, u5, u6] 36)).alloc (.cells #[.int .i64 0] 3)).alloc (.cells #[.int .i64 0] 3)) :=
      ⟨(below_alloc1 _ _).alloc (by simp) _, blk_old (blk_new _ _) _, by have := blk_new ((w.alloc (.cells #[u0, u1, u2, u3, u4, u5, u6] 36)).alloc (.cells #[.int .i64 0] 3)) (.cells #[.int .i64 0] 3); simpa using this⟩
    have := EachC_all x hx hb _ _ _ w.heap.size 0 0 0 1 (h.below B1) hcell ht (by omega) (by omega) (by omega) (by omega) (by omega) (by omega)
    rw [hs] at this
    exact this
  have CT2 : Hid (∀ W, W = w.alloc (.cells #[u0, u1, u2, u3, u4, u5, u6] 36) → ∀ w1, Below W.heap.size W w1 → Calls Try.prog 121 #[.pointer (some ⟨w.heap.size, 0, none⟩), .int .i64 1, .func (.func 123) #[] #[]] w1 (Says x.shp w1)) := by
    rintro W rfl w1 h1
    exact EachF_all x hx hb _ w1 _ w.heap.size 0 1 (h.below B1) hcell h1
  have HB1 := Lib.hid B1
  have HS := Lib.hid hs
  clear h B1 hbk hs hcell
  go_enter Try.func63, Try.ntmps63
  go_wp2_with fail
  have CT := Lib.hid (CT1.out _ rfl)
  have CF := Lib.hid (CT2.out _ rfl)
  generalize hW : w.alloc (.cells #[u0, u1, u2, u3, u4, u5, u6] 36) = W at *
  clear hW CT1 CT2
  refine CT.out.mono ?_
  rintro e w1 ⟨r, c', m', rfl, tc, h1, h2, h3⟩
  have T := Lib.hid tc
  have H1 := Lib.hid h1
  have H2 := Lib.hid h2
  have H3 := Lib.hid h3
  have g0 : World.cell? w1 ⟨w.heap.size + 1, 0, none⟩ = some (.int .i64 c') := by rw [← HS.out]; exact tc.c0
  have g1 : World.cell? w1 ⟨w.heap.size + 1 + 1, 0, none⟩ = some (.int .i64 m') := by rw [← HS.out]; exact tc.c1
  have B2 := Lib.hid (HB1.out.trans (tc.below.mono (by rw [HS.out]; omega)))
  clear tc h1 h2 h3 CT
  cases r
  · have NG : Hid (¬ x.good) := by
      show ¬ _
      rw [Cr.good_i]
      rintro ⟨a1, a2, _⟩
      have := H1.out.2 ⟨by omega, a2⟩
      cases this
    have h3 := H3.out (by first | rfl | trivial)
    by_cases hc : 20000 < c'
    · clear h3
      go_wp2_with fail
      go_ret
      exact ⟨1, rfl, iff_of_false (by decide) NG.out, B2.out⟩
    · have hm : 1000 < m' := by omega
      clear h3
      go_wp2_with fail
      go_ret
      exact ⟨1, rfl, iff_of_false (by decide) NG.out, B2.out⟩
  · obtain ⟨e1, e2, e3, e4, e5⟩ := H2.out (by first | rfl | trivial)
    have G1 := Lib.hid (H1.out.1 (by first | rfl | trivial))
    have CF3 := Lib.hid (CF.out w1 T.out.below)
    have E1 := Lib.hid e1
    have n1 : ¬ 20000 < c' := by omega
    have n2 : ¬ 1000 < m' := by omega
    clear CF e1 H1 H2 H3
    go_wp2_with fail
    refine CF3.out.mono ?_
    rintro e w2 ⟨r, rfl, h3, hb3⟩
    have H3 := Lib.hid h3
    have B3 := Lib.hid (B2.out.trans (hb3.mono B2.out.size))
    clear h3 hb3 CF3
    cases r
    · go_wp2_with fail
      go_ret
      refine ⟨2, rfl, iff_of_false (by decide) fun hg => ?_, B3.out⟩
      have h3 := H3.out.2 hg.2.2
      cases h3
    · go_wp2_with fail
      go_ret
      refine ⟨0, rfl, iff_of_true rfl ?_, B3.out⟩
      rw [Cr.good_i]
      have g1 := G1.out
      exact ⟨by omega, g1.2, H3.out.1 (by first | rfl | trivial)⟩

end Go.Proofs.Ythidbmjdphfddaa
