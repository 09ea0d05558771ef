/- Own contracts: the program's trimming of limbs; no condition. -/
import Derived.Test.YtajmeeppigdjnaaOBig
namespace Go.Proofs.Ytajmeeppigdjnaa
open Go.RowKit Go.Proofs.Ytajmeeppigdjnaa.Own Go.Proofs.YtajmeeppigdjnaaW.PrintWords Go.Proofs.YtajmeeppigdjnaaW.PrintMore
set_option linter.unusedVariables false
set_option linter.unusedSimpArgs false

theorem run_cut_u32 (A : Option Addr) (n c j : Nat) (hm : j ≤ n) (hc : n ≤ c) (W : World) :
    (Instr.slice 22 (.slice A n c) none (some (.int .i64 j)) none).run Try.prog W = .ok (.slice A j c) W := by
  have h := run_take_u32 A c (List.replicate n 0) j (by simpa using hm) (by simpa using hc) W
  simpa [Nat.min_eq_left hm] using h
set_option maxHeartbeats 2000000 in
set_option maxRecDepth 100000 in
theorem implTrim (l0 : List Int) (hl : l0.length ≤ 35184372088831) (hu : Us l0) (A0 : Option Addr) (c0 : Nat) (w : World) (hr0 : Kd.C (Kd.int .u32) w A0 l0.length l0) (hc0 : l0.length ≤ c0) :
    Calls Try.prog 64 #[.slice A0 l0.length c0] w fun e w' => e = .returned (.slice A0 (lim (val l0)).length c0) ∧ Below w.heap.size w w' := by
  have HU := Lib.hid hu
  have HR := Lib.hid hr0
  have HC0 := Lib.hid hc0
  clear hu hr0 hc0
  go_enter Try.func64, Try.ntmps64
  go_wp2_with fail
  go_loop [0] (fun v => ∃ j : Nat, j ≤ l0.length ∧ v = .slice A0 j c0 ∧ Hid (val l0 = vt l0 j)) (fun v => match v with | .slice _ n _ => n | _ => 0)
  case atStart => exact ⟨l0.length, Nat.le_refl _, rfl, rfl⟩
  case round =>
    obtain ⟨j, hj, rfl, hv⟩ := hrel
    have HV := Lib.hid hv.out
    clear hv
    by_cases hlast : 0 < j → lmb l0 (j - 1) ≠ 0
    · have TE := Lib.hid (trim_end HU.out hj HV.out hlast)
      cases j with
      | zero =>
        clear hlast
        go_wp2_with fail
        go_ret
        exact ⟨by rw [← TE.out]; simp, Below.refl _ _⟩
      | succ j =>
        have hlast := hlast (by omega)
        simp only [Nat.add_sub_cancel] at hlast
        obtain ⟨b, off, rfl, _, hc⟩ := kdC_cell HR.out (by omega)
        have z0 := hc j _ (List.getElem?_eq_getElem (show j < l0.length by omega))
        rw [← lmb_at (show j < l0.length by omega)] at z0
        have hx : (lmb l0 j == 0) = false := by simpa using hlast
        clear hc hlast
        generalize lmb l0 j = x at *
        go_wp2_with fail
        go_ret
        exact ⟨by rw [← TE.out, List.length_take, Nat.min_eq_left hj]; rfl, Below.refl _ _⟩
    · obtain ⟨hp, hz⟩ : 0 < j ∧ lmb l0 (j - 1) = 0 := by
        by_cases hp : 0 < j
        · exact ⟨hp, Classical.byContradiction fun h => hlast fun _ => h⟩
        · exact (hlast fun h => absurd h hp).elim
      obtain ⟨j, rfl⟩ : ∃ i, j = i + 1 := ⟨j - 1, by omega⟩
      simp only [Nat.add_sub_cancel] at hz
      have HN := Lib.hid (trim_step HV.out hz)
      obtain ⟨b, off, rfl, _, hc⟩ := kdC_cell HR.out (by omega)
      have z0 := hc j _ (List.getElem?_eq_getElem (show j < l0.length by omega))
      rw [← lmb_at (show j < l0.length by omega), hz] at z0
      clear hc hlast hz hp
      have RC := run_cut_u32 (some ⟨b, off, none⟩) (j + 1) c0 j (by omega) (by have := HC0.out; omega)
      go_wp2_with fail
      go_round
      case rel => exact ⟨j, by omega, by go_num, HN.out⟩
      case measure => simp

end Go.Proofs.Ytajmeeppigdjnaa
