/- The laws' drawn number, walked over the printed drawing; no condition. -/
import Derived.Test.YtajmeeppigdjnaaRingB
namespace Go.Proofs.Ytajmeeppigdjnaa
open Go.RowKit Go.Proofs.Ytajmeeppigdjnaa.Own Go.Proofs.YtajmeeppigdjnaaW.PrintWords Go.Proofs.YtajmeeppigdjnaaW.PrintMore Go.Proofs.Ytajmeeppigdjnaa.PFnBigText
set_option linter.unusedVariables false
set_option linter.unusedSimpArgs false

theorem infoU8' : (Try.prog.info? 5).map (fun i => (i.zero, i.size, i.bytes)) = some (some (.int .u8 0), 1, 1) := by kernel_rfl
/-- A row is as it was where a variable is stored. -/
theorem R_set2 {W : World} {g i B : Nat} {ok : Nat → Prop} {cs : Array Value} {u x : Value} {l : List Int} (h : Kd.R (Kd.int .u32) 62 W B ok x l) (hbk : W.heap[g]? = some (.cells cs 24 (0, 0))) : Kd.R (Kd.int .u32) 62 (W.setCell ⟨g, i, none⟩ u) B ok x l :=
  Kd.R_mono (Kd.R_step (Kd.R_types h hbk (by decide)) (fun k hk _ => Below.heap_setCell W ⟨g, i, none⟩ u k hk.2)) (fun k hk => hk.1)
set_option maxRecDepth 100000 in
set_option maxHeartbeats 8000000 in
theorem ringDraw (s : List Int) (hs : s.length ≤ 1048576) (hb : ∀ x ∈ s, 0 ≤ x ∧ x ≤ 255) (i : Int) (h0 : 0 ≤ i) (h1 : i < 900) : ∃ m l, Good m l ∧ ∀ (W : World) (A : Option Addr) (c : Nat), Kd.C (Kd.int .u8) W A s.length s → s.length ≤ c →
    Calls Try.prog 45 #[.slice A s.length c, .int .i64 i] W fun e w' => ∃ A2 c2, e = .returned (.agg #[.bool m, .slice A2 l.length c2]) ∧ Num w' m A2 l c2 ∧ Below W.heap.size W w' := by
  obtain ⟨v1, hv1, a0, a1⟩ := st_at s (by omega) hb i 256 h0 (by omega) (by omega) (by omega)
  obtain ⟨v2, hv2, b0, b1⟩ := st_at s (by omega) hb (i + 1) 256 (by omega) (by omega) (by omega) (by omega)
  obtain ⟨m, o, m', o', q1, q2, hE⟩ := st_add ([v1, v2] ++ s) (by simp; omega) (fun x hx => by
    rcases List.mem_append.1 hx with hx | hx
    · simp only [List.mem_cons, List.not_mem_nil, or_false] at hx
      rcases hx with rfl | rfl <;> omega
    · exact hb x hx)
  obtain ⟨k, hk⟩ := hE.rounds
  have HK := Lib.hid hk
  have HV1 := Lib.hid hv1
  have HV2 := Lib.hid hv2
  have Q1 := Lib.hid q1
  have Q2 := Lib.hid q2
  have HS := Lib.hid hs
  clear hk hE hv1 hv2 q1 q2 hb
  have hi := And.intro h0 h1
  suffices H : ∀ (m2 : Bool) (l2 : List Int), (bgFault m o = true → m2 = false ∧ l2 = []) → (bgFault m o = false → m2 = m ∧ l2 = o) → ∀ (W : World) (A : Option Addr) (c : Nat), Kd.C (Kd.int .u8) W A s.length s → s.length ≤ c →
      Calls Try.prog 45 #[.slice A s.length c, .int .i64 i] W fun e w' => ∃ A2 c2, e = .returned (.agg #[.bool m2, .slice A2 l2.length c2]) ∧ Num w' m2 A2 l2 c2 ∧ Below W.heap.size W w' from by
    cases hf : bgFault m o
    · exact ⟨m, o, ⟨Q1.out, hf⟩, H m o (fun h => by rw [hf] at h; cases h) (fun _ => ⟨rfl, rfl⟩)⟩
    · exact ⟨false, [], good_nil, H false [] (fun _ => ⟨rfl, rfl⟩) (fun h => by rw [hf] at h; cases h)⟩
  intro m2 l2 hm1 hm2
  have HM1 := Lib.hid hm1
  have HM2 := Lib.hid hm2
  clear hm1 hm2
  intro W A c hC hc
  have HC := Lib.hid hC
  have Hc := Lib.hid hc
  clear hC hc
  have D : Hid (Below W.heap.size W (W.alloc (.cells #[.bool false, .slice none 0 0] 24))) := Lib.hid (below_old W _)
  have B4 := Lib.hid (blk_new W (.cells #[.bool false, .slice none 0 0] 24))
  have CT := Lib.hid (laws_lwAt.calls A c s i 256 v1 (W.alloc (.cells #[.bool false, .slice none 0 0] 24)) (Kd.C_below HC.out D.out) Hc.out HV1.out)
  go_enter Try.func45, Try.ntmps45
  go_wp2_with fail
  refine CT.out.mono ?_
  clear CT
  rintro e w1 ⟨rfl, hd⟩
  have hb1 : Below (W.alloc (.cells #[.bool false, .slice none 0 0] 24)).heap.size (W.alloc (.cells #[.bool false, .slice none 0 0] 24)) w1 := by obtain ⟨nd, rfl⟩ := hd; exact pw_below_drewN (Below.refl _ _) nd
  replace B4 := Lib.hid (blk_below B4.out hb1)
  replace D := Lib.hid (D.out.trans (hb1.mono D.out.size))
  clear hd hb1
  have CT := Lib.hid (laws_lwAt.calls A c s (i + 1) 256 v2 w1 (Kd.C_below HC.out D.out) Hc.out HV2.out)
  go_wp2_with fail
  refine CT.out.mono ?_
  clear CT
  rintro e w2 ⟨rfl, hd⟩
  have hb2 : Below w1.heap.size w1 w2 := by obtain ⟨nd, rfl⟩ := hd; exact pw_below_drewN (Below.refl _ _) nd
  replace B4 := Lib.hid (blk_below B4.out hb2)
  replace D := Lib.hid (D.out.trans (hb2.mono D.out.size))
  clear hd hb2
  have hs20 : s.length ≤ 1048576 := HS.out
  go_wp2_with (first
    | ((with_reducible refine gate_dst (N := 17) rfl ?_); refine Kd.R_lit (Kd.int .u8) (w0 := W) W.heap.size 5 rfl (N := 17) rfl (xs := [v1, v2]) (inner := [.int .u8 (v1), .int .u8 (v2)]) (ok := fun _ => True) (okp := fun _ => True) (by first | (go_simp; done) | (go_simp; rfl)) (reps_ints_mk [v1, v2]) (fun _ hk => hk) trivial D.out D.out.size (by simp) ?_; intro u1 w3 ho hb hg _; have HO := Lib.hid ho; replace B4 := Lib.hid (blk_grown B4.out hg (by simp)); replace D := Lib.hid hb; clear ho hb hg)
    | (at_builtin; refine Kd.R_append_rows (Kd.int .u8) (w0 := W) W.heap.size rfl (.tmp 17) (.tmp 18) 52 5 (.int .u8 0) 1 rfl Try.underlying52 infoU8' rfl (by decide) (by omega) u1 [v1, v2] s _ _ _ (fun _ => True) (fun _ => False) rfl rfl HO.out (Kd.C_below HC.out D.out) (fun _ _ h => h) (fun _ h => h.elim) (fun _ _ => trivial) D.out D.out.size (by simp only [List.length_cons, List.length_nil]; omega) ?_; intro u2 w4 ho hb hg _; have HO2 := Lib.hid ho; replace B4 := Lib.hid (blk_grown B4.out hg (Kd.R_ne HO.out B4.out (by decide))); replace D := Lib.hid hb; clear ho hb hg))
  obtain ⟨A3, c3, rfl⟩ := Kd.R_slice HO2.out
  have hC3 := Kd.R_reads' HO2.out
  refine (spec_DrawBigAdd.calls k A3 c3 _ m o m' o' w4 hC3.2.2 hC3.2.1 HK.out).mono ?_
  rintro e w5 ⟨vq, vr, rfl, hvq, hvr, hb⟩
  obtain ⟨A5, c5, rfl⟩ := Kd.R_slice hvq
  obtain ⟨A6, c6, rfl⟩ := Kd.R_slice hvr
  replace B4 := Lib.hid (blk_below B4.out hb)
  replace D := Lib.hid (D.out.trans (hb.mono D.out.size))
  have hq := Kd.R_reads' hvq
  have HQ := Lib.hid hvq
  have HQc := Lib.hid hq.2.1
  clear hvq hvr hb hC3 hq HO HO2
  go_wp2_with fail
  have B5 := Lib.hid (blk_old (blk_new w5 (.cells #[.bool m, .slice A5 o.length c5] 24)) (.cells #[.bool m', .slice A6 o'.length c6] 24))
  replace B4 := Lib.hid (blk_old (blk_old B4.out (.cells #[.bool m, .slice A5 o.length c5] 24)) (.cells #[.bool m', .slice A6 o'.length c6] 24))
  have h45 := (Array.getElem?_eq_some_iff.1 B4.out).1
  replace D := Lib.hid ((D.out.alloc D.out.size (.cells #[.bool m, .slice A5 o.length c5] 24)).alloc (by have := D.out.size; simp; omega) (.cells #[.bool m', .slice A6 o'.length c6] 24))
  replace HQ := Lib.hid (Kd.R_below (Kd.R_below HQ.out (below_old w5 (.cells #[.bool m, .slice A5 o.length c5] 24))) (below_old _ (.cells #[.bool m', .slice A6 o'.length c6] 24)))
  have CT := Lib.hid (spec_BigFault.calls m A5 c5 o (bgFault m o) _ (Kd.R_reads' HQ.out).2.2 HQc.out (st_fault m o (by have := Q2.out; omega)))
  refine CT.out.mono ?_
  clear CT
  rintro e w7 ⟨rfl, hb⟩
  replace B4 := Lib.hid (blk_below B4.out hb)
  replace B5 := Lib.hid (blk_below B5.out hb)
  replace D := Lib.hid (D.out.trans (hb.mono D.out.size))
  replace HQ := Lib.hid (Kd.R_below HQ.out hb)
  have z40 := (blk_cell B4.out 0).trans (rfl : (_ : Option Value) = some (.bool false))
  have z41 := (blk_cell B4.out 1).trans (rfl : (_ : Option Value) = some (.slice none 0 0))
  have f40 := blk_frozen B4.out 0
  have f41 := blk_frozen B4.out 1
  have z50 := (blk_cell B5.out 0).trans (rfl : (_ : Option Value) = some (.bool m))
  have z51 := (blk_cell B5.out 1).trans (rfl : (_ : Option Value) = some (.slice A5 o.length c5))
  clear hb h45
  cases hf : bgFault m o
  · obtain ⟨e1, e2⟩ := HM2.out hf
    have HF := Lib.hid hf
    clear hf
    go_wp2_with fail
    subst e1 e2
    have hset := blk_setCells [.bool m2, .slice A5 l2.length c5] 0 B4.out (by rfl)
    have q0 := blk_cell hset 0
    have q1 := blk_cell hset 1
    simp [World.setCells] at q0 q1
    refine bodyPost_ret (v := .agg #[.bool m2, .slice A5 l2.length c5]) (by simp [results, Try.results45, go_sem, q0, q1]) rfl ⟨_, _, rfl, ⟨(Kd.R_reads' (R_set2 (R_set2 HQ.out B4.out) (blk_set B4.out 0 _))).2.2, HQc.out, ⟨Q1.out, HF.out⟩⟩, ?_⟩
    exact (D.out.setCell (by simp) _).setCell (by simp) _
  · obtain ⟨e1, e2⟩ := HM1.out hf
    clear hf
    go_wp2_with fail
    subst e1 e2
    have hset := blk_setCells [.bool false, .slice none 0 0] 0 B4.out (by rfl)
    have q0 := blk_cell hset 0
    have q1 := blk_cell hset 1
    simp [World.setCells] at q0 q1
    refine bodyPost_ret (v := .agg #[.bool false, .slice none 0 0]) (by simp [results, Try.results45, go_sem, q0, q1]) rfl ⟨none, 0, rfl, ⟨(Kd.R_reads' (Kd.R_nil (Kd.int .u32) 62 _ 0 (fun _ => True))).2.2, Nat.le_refl _, good_nil⟩, ?_⟩
    exact (D.out.setCell (by simp) _).setCell (by simp) _

end Go.Proofs.Ytajmeeppigdjnaa
