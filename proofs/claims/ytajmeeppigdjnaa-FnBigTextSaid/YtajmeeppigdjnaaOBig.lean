/- Own contracts, in the print's form: limbs trimmed, compared; answers told as numbers' limbs; no condition. -/
import Derived.Test.YtajmeeppigdjnaaKd
import Derived.Test.YtajmeeppigdjnaaBigN
import Derived.Test.YtajmeeppigdjnaaProg
namespace Go.Proofs.Ytajmeeppigdjnaa.Own
open Go.RowKit Go.Proofs.Ytajmeeppigdjnaa Go.Proofs.YtajmeeppigdjnaaW.PrintWords Go.Proofs.YtajmeeppigdjnaaW.PrintMore
set_option linter.unusedVariables false
set_option linter.unusedSimpArgs false

instance (l : List Int) : Decidable (Us l) := by unfold Us; infer_instance
theorem infoU32 : (Try.prog.info? 62).map (fun i => (i.zero, i.size, i.bytes)) = some (some (.int .u32 0), 1, 4) := by kernel_rfl
theorem run_take_u32 (A : Option Addr) (c : Nat) (xs : List Int) (j : Nat) (hm : j ≤ xs.length) (hc : xs.length ≤ c) (W : World) :
    (Instr.slice 22 (.slice A xs.length c) none (some (.int .i64 j)) none).run Try.prog W = .ok (.slice A (xs.take j).length c) W := by
  obtain ⟨i0, hi, hz0, hz1, hz2⟩ := info_parts infoU32
  have h := (print_take_int (k := .u32) 22 62 Try.underlying22 hi hz1 A c xs j (by omega) (by omega) hc).1 W
  simpa using h

def spec_l1Trim.f (k : Nat) (l0 : List Int) : Option (List Int) := if l0.length ≤ 35184372088831 ∧ Us l0 then some (lim (val l0)) else none
theorem spec_l1Trim.mono : ∀ a0 k, LeO (spec_l1Trim.f k a0) (spec_l1Trim.f (k + 1) a0) := fun _ _ => LeO.refl _
theorem trim_step {l : List Int} {j : Nat} (h : val l = vt l (j + 1)) (hz : lmb l j = 0) : val l = vt l j := by rw [h]; simp [vt, hz]
theorem trim_end {l : List Int} {j : Nat} (hu : Us l) (hj : j ≤ l.length) (h : val l = vt l j) (ht : 0 < j → lmb l (j - 1) ≠ 0) : l.take j = lim (val l) := by
  have hlen : (l.take j).length = j := by rw [List.length_take]; omega
  have hv : val (l.take j) = val l := by
    rw [h]
    unfold val
    rw [hlen]
    exact vt_congr (fun i hi => by simp [lmb, List.getD_eq_getElem?_getD, List.getElem?_take, hi])
  rw [← hv]
  refine (lim_val (hu.take j) (fun hp => ?_)).symm
  rw [hlen] at hp ⊢
  have := ht hp
  simpa [lmb, List.getD_eq_getElem?_getD, List.getElem?_take, show j - 1 < j by omega] using this

set_option maxHeartbeats 2000000 in
set_option maxRecDepth 100000 in
theorem spec_l1Trim.calls (k : Nat) (A0 : Option Addr) (c0 : Nat) (l0 : List Int) (r : List Int) (w : World) (hr0 : Kd.C (Kd.int .u32) w A0 l0.length l0) (hc0 : l0.length ≤ c0) (h : spec_l1Trim.f k l0 = some r) :
    Calls Try.prog 52 #[.slice A0 l0.length c0] w fun e w' => ∃ v0_ : Value, e = .returned (v0_) ∧ Kd.R (Kd.int .u32) 62 w' w.heap.size (fun _ => True) v0_ r ∧ Below w.heap.size w w' := by
  unfold spec_l1Trim.f at h
  split at h
  next hh =>
    obtain ⟨hl, hu⟩ := hh
    obtain rfl := Option.some.inj h
    have HU := Lib.hid hu
    have HR := Lib.hid hr0
    have HC0 := Lib.hid hc0
    clear h hu hr0 hc0
    go_enter Try.func52, Try.ntmps52
    go_wp2_with fail
    go_loop [3] (fun n => ∃ j : Nat, j ≤ l0.length ∧ n = .int .i64 j ∧ Hid (val l0 = vt l0 j)) (fun n => (intOf n).toNat)
    case atStart => exact ⟨l0.length, Nat.le_refl _, rfl, rfl⟩
    case round =>
      obtain ⟨j, hj, rfl, hv⟩ := hrel
      have HV := Lib.hid hv.out
      clear hv
      by_cases hlast : 0 < j → lmb l0 (j - 1) ≠ 0
      · have TE := Lib.hid (trim_end HU.out hj HV.out hlast)
        have RT := run_take_u32 A0 c0 l0 j hj HC0.out
        have HRT : Hid (Kd.C (Kd.int .u32) w A0 j (l0.take j)) := by
          have h := Kd.C_take HR.out hj
          rwa [List.length_take, Nat.min_eq_left hj] at h
        have HLT : Hid (j ≤ 35184372088831) := by show _ ≤ _; omega
        cases j with
        | zero =>
          clear hlast
          go_wp2_with (first
            | ((with_reducible refine gate_dst (N := 18) rfl ?_); refine Kd.R_lit (Kd.int .u32) (w0 := w) w.heap.size 62 rfl (N := 18) rfl (xs := ([] : List Int)) (inner := []) (ok := fun _ => True) (okp := fun _ => True) (by first | (go_simp; done) | (go_simp; rfl)) (Reps.none _ _) (fun _ hk => hk) trivial (Below.refl _ _) (Nat.le_refl _) (by simp) ?_; intro v1 w1 ho hb _ _; have HO := Lib.hid ho; have HB := Lib.hid hb; clear ho hb)
            | (at_builtin; refine Kd.R_append_rows (Kd.int .u32) (w0 := w) w.heap.size rfl (.tmp 18) (.tmp 21) 22 62 (.int .u32 0) 4 rfl Try.underlying22 infoU32 rfl (by decide) (by omega) v1 [] (l0.take 0) _ _ _ (fun _ => True) (fun _ => False) rfl rfl HO.out (Kd.C_below HRT.out HB.out) (fun _ _ h => h) (fun _ h => h.elim) (fun _ _ => trivial) HB.out HB.out.size (by have := HLT.out; simp) ?_; intro v2 w2 ho hb _ _; have HO2 := Lib.hid ho; have HB2 := Lib.hid hb; clear ho hb))
          go_ret
          exact ⟨_, rfl, by rw [← TE.out]; simpa using HO2.out, HB2.out⟩
        | succ j =>
          have hlast := hlast (by omega)
          simp only [Nat.add_sub_cancel] at hlast
          obtain ⟨b, off, rfl, _, hc⟩ := kdC_cell HR.out (by omega)
          have z0 := hc j _ (List.getElem?_eq_getElem (show j < l0.length by omega))
          rw [← lmb_at (show j < l0.length by omega)] at z0
          have hx : (lmb l0 j == 0) = false := by simpa using hlast
          clear hc hlast
          simp only [Int.natCast_add, Int.natCast_one] at RT
          generalize lmb l0 j = x at *
          go_wp2_with (first
            | ((with_reducible refine gate_dst (N := 18) rfl ?_); refine Kd.R_lit (Kd.int .u32) (w0 := w) w.heap.size 62 rfl (N := 18) rfl (xs := ([] : List Int)) (inner := []) (ok := fun _ => True) (okp := fun _ => True) (by first | (go_simp; done) | (go_simp; rfl)) (Reps.none _ _) (fun _ hk => hk) trivial (Below.refl _ _) (Nat.le_refl _) (by simp) ?_; intro v1 w1 ho hb _ _; have HO := Lib.hid ho; have HB := Lib.hid hb; clear ho hb)
            | (at_builtin; refine Kd.R_append_rows (Kd.int .u32) (w0 := w) w.heap.size rfl (.tmp 18) (.tmp 21) 22 62 (.int .u32 0) 4 rfl Try.underlying22 infoU32 rfl (by decide) (by omega) v1 [] (l0.take (j + 1)) _ _ _ (fun _ => True) (fun _ => False) rfl rfl HO.out (Kd.C_below HRT.out HB.out) (fun _ _ h => h) (fun _ h => h.elim) (fun _ _ => trivial) HB.out HB.out.size (by have := HLT.out; simp only [List.length_nil]; omega) ?_; intro v2 w2 ho hb _ _; have HO2 := Lib.hid ho; have HB2 := Lib.hid hb; clear ho hb))
          go_ret
          exact ⟨_, rfl, by rw [← TE.out]; simpa using HO2.out, HB2.out⟩
      · obtain ⟨hp, hz⟩ : 0 < j ∧ lmb l0 (j - 1) = 0 := by
          by_cases hp : 0 < j
          · exact ⟨hp, Classical.byContradiction fun h => hlast fun _ => h⟩
          · exact (hlast fun h => absurd h hp).elim
        obtain ⟨j, rfl⟩ : ∃ i, j = i + 1 := ⟨j - 1, by omega⟩
        simp only [Nat.add_sub_cancel] at hz
        have HN := Lib.hid (trim_step HV.out hz)
        obtain ⟨b, off, rfl, _, hc⟩ := kdC_cell HR.out (by omega)
        have z0 := hc j _ (List.getElem?_eq_getElem (show j < l0.length by omega))
        rw [← lmb_at (show j < l0.length by omega), hz] at z0
        clear hc hlast hz hp
        go_wp2_with fail
        go_round
        case rel => exact ⟨j, by omega, by go_num, HN.out⟩
        case measure => simp [intOf]
  next => cases h

end Go.Proofs.Ytajmeeppigdjnaa.Own
