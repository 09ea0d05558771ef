/- The program's 'BigOf' walked: what they answer, told as a number; no condition. -/
import Derived.Test.YtajmeeppigdjnaaRingB
import Derived.Deep.RegionHeld3
namespace Go.Proofs.Ytajmeeppigdjnaa
open Go.RowKit Go.Proofs.Ytajmeeppigdjnaa.Own Go.Proofs.YtajmeeppigdjnaaW.PrintWords Go.Proofs.YtajmeeppigdjnaaW.PrintMore Go.Proofs.Ytajmeeppigdjnaa.PFnBigText
set_option linter.unusedVariables false
set_option linter.unusedSimpArgs false

def bgOf (v : Int) : Bool × List Int := (sgn v, lims v)
theorem bgOf_1 (v : Int) : (decide (v < 0) && decide (0 < (lims v).length)) = (bgOf v).1 := by
  unfold bgOf sgn
  by_cases h : v < 0
  · rw [decide_eq_true h, Bool.true_and, decide_eq_true]
    refine Nat.pos_of_ne_zero fun h0 => ?_
    have e := List.eq_nil_of_length_eq_zero h0
    unfold lims at e
    rw [if_pos h] at e
    exact absurd ((lim_eq_nil (show (0 : Int) ≤ -v by omega)).1 e) (by omega)
  · rw [decide_eq_false h, Bool.false_and]
def ofLimbs (v : Int) : List Int := if v < 0 then [(IntKind.u64.wrap (-(IntKind.u64.wrap (v)))) % 4294967296, ((IntKind.u64.wrap (-(IntKind.u64.wrap (v)))) / 4294967296) % 4294967296] else [(IntKind.u64.wrap (v)) % 4294967296, ((IntKind.u64.wrap (v)) / 4294967296) % 4294967296]
theorem pair_val {s : Int} (h : 0 ≤ s) (h2 : s < 18446744073709551616) : Us [s % 4294967296, s / 4294967296 % 4294967296] ∧ val [s % 4294967296, s / 4294967296 % 4294967296] = s := by
  refine ⟨fun x hx => ?_, ?_⟩
  · simp at hx
    omega
  · rw [val_cons, val_cons, val_nil]
    omega
theorem wrap_abs {v : Int} (h1 : -9223372036854775808 ≤ v) (h2 : v < 9223372036854775808) : (if v < 0 then IntKind.u64.wrap (-(IntKind.u64.wrap v)) else IntKind.u64.wrap v) = (if v < 0 then -v else v) := by
  split
  · have e : IntKind.u64.wrap v = v + 18446744073709551616 := by simp [IntKind.wrap, IntKind.signed, IntKind.bits]; omega
    rw [e]
    simp [IntKind.wrap, IntKind.signed, IntKind.bits]
    omega
  · rw [u64_in (by omega) (by omega)]
theorem of_val {v : Int} (h1 : -9223372036854775808 ≤ v) (h2 : v < 9223372036854775808) : Us (ofLimbs v) ∧ val (ofLimbs v) = (if v < 0 then -v else v) ∧ (ofLimbs v).length = 2 := by
  have h := wrap_abs h1 h2
  unfold ofLimbs
  split
  next c =>
    rw [if_pos c, if_pos c] at h
    rw [h]
    have := pair_val (s := -v) (by omega) (by omega)
    exact ⟨this.1, this.2, rfl⟩
  next c =>
    rw [if_neg c, if_neg c] at h
    rw [h]
    have := pair_val (s := v) (by omega) (by omega)
    exact ⟨this.1, this.2, rfl⟩

set_option maxRecDepth 100000 in
set_option maxHeartbeats 4000000 in
theorem implBigOf (v : Int) (h1 : -9223372036854775808 ≤ v) (h2 : v < 9223372036854775808) (w : World) :
    Calls Try.prog 16 #[.int .i64 v] w fun e w' => ∃ u, e = .returned (.agg #[.bool (bgOf v).1, u]) ∧ Kd.R (Kd.int .u32) 62 w' w.heap.size (fun _ => True) u (lims v) ∧ Below w.heap.size w w' := by
  obtain ⟨xs, hxs⟩ : ∃ xs, xs = ofLimbs v := ⟨_, rfl⟩
  have hov := of_val h1 h2
  rw [← hxs] at hov
  obtain ⟨k, hk⟩ := (impl_makeBig_is (decide (v < 0)) hov.1 (by rw [hov.2.2]; decide)).rounds
  have HK : Hid (impl_makeBig.f k (decide (v < 0)) xs = some ((bgOf v).1, lims v)) := by
    show _ = _
    rw [hk, hov.2.1, ← bgOf_1]
    rfl
  clear hk
  unfold ofLimbs at hxs
  clear hov h1 h2
  have B0 : Hid ((w.alloc (.cells #[.bool false, .slice none 0 0] 24)).heap[w.heap.size]? = some (.cells #[.bool false, .slice none 0 0] 24 (0, 0))) := by exact blk_new w _
  have HB : Hid (Below w.heap.size w (w.alloc (.cells #[.bool false, .slice none 0 0] 24))) := by exact (Below.refl _ _).alloc (Nat.le_refl _) _
  by_cases c : v < 0
  · have HXS : Hid (xs = [(IntKind.u64.wrap (-(IntKind.u64.wrap (v)))) % 4294967296, ((IntKind.u64.wrap (-(IntKind.u64.wrap (v)))) / 4294967296) % 4294967296]) := by show _ = _; rw [hxs, if_pos c]
    have c2b : decide (v < 0) = true := decide_eq_true c
    have HK := Lib.hid (show impl_makeBig.f k true xs = some ((bgOf v).1, lims v) from c2b ▸ HK.out)
    have HD := Lib.hid (show (true && decide (0 < (lims v).length)) = (bgOf v).1 from c2b ▸ bgOf_1 v)
    clear hxs c
    go_enter Try.func16, Try.ntmps16
    go_wp2_with (first
      | ((with_reducible refine gate_dst (N := 17) rfl ?_); refine Kd.R_lit (Kd.int .u32) _ 62 rfl (N := 17) rfl (xs := ([(IntKind.u64.wrap (-(IntKind.u64.wrap (v)))) % 4294967296, ((IntKind.u64.wrap (-(IntKind.u64.wrap (v)))) / 4294967296) % 4294967296] : List Int)) (inner := [.int .u32 ((IntKind.u64.wrap (-(IntKind.u64.wrap (v)))) % 4294967296), .int .u32 (((IntKind.u64.wrap (-(IntKind.u64.wrap (v)))) / 4294967296) % 4294967296)]) (ok := fun _ => True) (okp := fun _ => True) (by first | (go_simp; done) | (go_simp; rfl)) (Reps.one (show Kd.M (Kd.int .u32) _ _ _ ((IntKind.u64.wrap (-(IntKind.u64.wrap (v)))) % 4294967296) [.int .u32 ((IntKind.u64.wrap (-(IntKind.u64.wrap (v)))) % 4294967296)] from rfl) (Reps.one (show Kd.M (Kd.int .u32) _ _ _ (((IntKind.u64.wrap (-(IntKind.u64.wrap (v)))) / 4294967296) % 4294967296) [.int .u32 (((IntKind.u64.wrap (-(IntKind.u64.wrap (v)))) / 4294967296) % 4294967296)] from rfl) (Reps.none _ _))) (fun _ hk => hk) trivial (Below.refl _ _) (Nat.le_refl _) (by simp) ?_; intro v1 w1 ho hb _ _; rw [← HXS.out] at ho; have HO := Lib.hid (Kd.R_lower ho HB.out.size); have B0 := Lib.hid (blk_below B0.out hb); have HB := Lib.hid (HB.out.trans (hb.mono HB.out.size)); clear ho hb; obtain ⟨A1, c1, rfl⟩ := Kd.R_slice HO.out))
    (with_reducible refine (impl_makeBig.calls k true A1 c1 xs (bgOf v).1 (lims v) w1 (Kd.R_reads' HO.out).2.2 (Kd.R_reads' HO.out).2.1 HK.out).mono ?_)
    rintro e w2 ⟨v2, rfl, hv2, hb⟩
    have HO3 := Lib.hid (Kd.R_lower hv2 HB.out.size)
    have B0 := Lib.hid (blk_below B0.out hb)
    have HB := Lib.hid (HB.out.trans (hb.mono HB.out.size))
    clear hv2 hb
    obtain ⟨A2, c2, rfl⟩ := Kd.R_slice HO3.out
    have z0 := (blk_cell B0.out 0).trans (rfl : (_ : Option Value) = some (.bool false))
    have z1 := (blk_cell B0.out 1).trans (rfl : (_ : Option Value) = some (.slice none 0 0))
    have f0 := blk_frozen B0.out 0
    have f1 := blk_frozen B0.out 1
    go_wp2_with fail
    have hset := (blk_setCells [.bool (bgOf v).1, .slice A2 (lims v).length c2] 0 B0.out (by rfl))
    have q0 := blk_cell hset 0
    have q1 := blk_cell hset 1
    simp [World.setCells] at q0 q1
    have ht := touch_setCells [.bool (bgOf v).1, .slice A2 (lims v).length c2] 0 (touch_refl (w.heap.size) (w.heap.size + 1) w2)
    have HR := Kd.R_mono (Kd.R_step (Kd.R_types HO3.out B0.out (by decide)) (fun k hk hlt => ht.block k hlt (by omega))) (fun _ _ => trivial)
    refine bodyPost_ret (v := .agg #[.bool (bgOf v).1, .slice A2 (lims v).length c2]) (by simp [results, Try.results16, go_sem, q0, q1]) rfl ⟨_, by rfl, HR, ?_⟩
    exact (HB.out.setCell (by simp) _).setCell (by simp) _
  · have HXS : Hid (xs = [(IntKind.u64.wrap (v)) % 4294967296, ((IntKind.u64.wrap (v)) / 4294967296) % 4294967296]) := by show _ = _; rw [hxs, if_neg c]
    have c2b : decide (v < 0) = false := decide_eq_false c
    have HK := Lib.hid (show impl_makeBig.f k false xs = some ((bgOf v).1, lims v) from c2b ▸ HK.out)
    have HD := Lib.hid (show (false && decide (0 < (lims v).length)) = (bgOf v).1 from c2b ▸ bgOf_1 v)
    clear hxs c
    go_enter Try.func16, Try.ntmps16
    go_wp2_with (first
      | ((with_reducible refine gate_dst (N := 17) rfl ?_); refine Kd.R_lit (Kd.int .u32) _ 62 rfl (N := 17) rfl (xs := ([(IntKind.u64.wrap (v)) % 4294967296, ((IntKind.u64.wrap (v)) / 4294967296) % 4294967296] : List Int)) (inner := [.int .u32 ((IntKind.u64.wrap (v)) % 4294967296), .int .u32 (((IntKind.u64.wrap (v)) / 4294967296) % 4294967296)]) (ok := fun _ => True) (okp := fun _ => True) (by first | (go_simp; done) | (go_simp; rfl)) (Reps.one (show Kd.M (Kd.int .u32) _ _ _ ((IntKind.u64.wrap (v)) % 4294967296) [.int .u32 ((IntKind.u64.wrap (v)) % 4294967296)] from rfl) (Reps.one (show Kd.M (Kd.int .u32) _ _ _ (((IntKind.u64.wrap (v)) / 4294967296) % 4294967296) [.int .u32 (((IntKind.u64.wrap (v)) / 4294967296) % 4294967296)] from rfl) (Reps.none _ _))) (fun _ hk => hk) trivial (Below.refl _ _) (Nat.le_refl _) (by simp) ?_; intro v1 w1 ho hb _ _; rw [← HXS.out] at ho; have HO := Lib.hid (Kd.R_lower ho HB.out.size); have B0 := Lib.hid (blk_below B0.out hb); have HB := Lib.hid (HB.out.trans (hb.mono HB.out.size)); clear ho hb; obtain ⟨A1, c1, rfl⟩ := Kd.R_slice HO.out))
    (with_reducible refine (impl_makeBig.calls k false A1 c1 xs (bgOf v).1 (lims v) w1 (Kd.R_reads' HO.out).2.2 (Kd.R_reads' HO.out).2.1 HK.out).mono ?_)
    rintro e w2 ⟨v2, rfl, hv2, hb⟩
    have HO3 := Lib.hid (Kd.R_lower hv2 HB.out.size)
    have B0 := Lib.hid (blk_below B0.out hb)
    have HB := Lib.hid (HB.out.trans (hb.mono HB.out.size))
    clear hv2 hb
    obtain ⟨A2, c2, rfl⟩ := Kd.R_slice HO3.out
    have z0 := (blk_cell B0.out 0).trans (rfl : (_ : Option Value) = some (.bool false))
    have z1 := (blk_cell B0.out 1).trans (rfl : (_ : Option Value) = some (.slice none 0 0))
    have f0 := blk_frozen B0.out 0
    have f1 := blk_frozen B0.out 1
    go_wp2_with fail
    have hset := (blk_setCells [.bool (bgOf v).1, .slice A2 (lims v).length c2] 0 B0.out (by rfl))
    have q0 := blk_cell hset 0
    have q1 := blk_cell hset 1
    simp [World.setCells] at q0 q1
    have ht := touch_setCells [.bool (bgOf v).1, .slice A2 (lims v).length c2] 0 (touch_refl (w.heap.size) (w.heap.size + 1) w2)
    have HR := Kd.R_mono (Kd.R_step (Kd.R_types HO3.out B0.out (by decide)) (fun k hk hlt => ht.block k hlt (by omega))) (fun _ _ => trivial)
    refine bodyPost_ret (v := .agg #[.bool (bgOf v).1, .slice A2 (lims v).length c2]) (by simp [results, Try.results16, go_sem, q0, q1]) rfl ⟨_, by rfl, HR, ?_⟩
    exact (HB.out.setCell (by simp) _).setCell (by simp) _

end Go.Proofs.Ytajmeeppigdjnaa
