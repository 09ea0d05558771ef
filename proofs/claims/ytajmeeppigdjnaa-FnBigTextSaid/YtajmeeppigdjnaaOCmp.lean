/- Own contracts, in the print's form: limbs compared, in the reference; answers told as numbers compared; no condition. -/
import Derived.Test.YtajmeeppigdjnaaOBig
namespace Go.Proofs.Ytajmeeppigdjnaa.Own
open Go.RowKit Go.Proofs.Ytajmeeppigdjnaa Go.Proofs.YtajmeeppigdjnaaW.PrintWords Go.Proofs.YtajmeeppigdjnaaW.PrintMore
set_option linter.unusedVariables false
set_option linter.unusedSimpArgs false

theorem limbCall (l : List Int) (hl : l.length ≤ 140737488351232) (hu : Us l) (i : Nat) (hi : i ≤ 140737488351232) (A : Option Addr) (c : Nat) (w : World) (hr : Kd.C (Kd.int .u32) w A l.length l) :
    Calls Try.prog 58 #[.slice A l.length c, .int .i64 i] w fun e w' => e = .returned (.int .u64 (lmb l i)) ∧ w' = w := by
  have hb := lmb_range hu i
  by_cases h : i < l.length
  · obtain ⟨b, off, rfl, _, hc⟩ := kdC_cell hr (by omega)
    have z0 := hc i l[i] (List.getElem?_eq_getElem h)
    rw [lmb_at h] at hb ⊢
    clear hc hr hu
    generalize l[i] = x at *
    go_enter Try.func58, Try.ntmps58
    go_wp2
    go_ret
    exact ⟨by simp <;> omega, rfl⟩
  · rw [lmb_over (show l.length ≤ i by omega)]
    clear hb hr hu
    go_enter Try.func58, Try.ntmps58
    go_wp2
    go_ret
    exact ⟨rfl, rfl⟩

set_option maxRecDepth 100000 in
set_option maxHeartbeats 2000000 in
theorem specCmp (l l' : List Int) (hl : l.length ≤ 140737488351232) (hl' : l'.length ≤ 140737488351232) (hu0 : Us l) (hu0' : Us l') (A A' : Option Addr) (c c' : Nat) (w : World) (hr0 : Kd.C (Kd.int .u32) w A l.length l) (hr0' : Kd.C (Kd.int .u32) w A' l'.length l') :
    Calls Try.prog 60 #[.slice A l.length c, .slice A' l'.length c'] w fun e w' => e = .returned (.int .i64 (cmpL l l' (max l.length l'.length))) ∧ w' = w := by
  have hu := Lib.hid hu0
  have hu' := Lib.hid hu0'
  have hr := Lib.hid hr0
  have hr' := Lib.hid hr0'
  clear hu0 hu0' hr0 hr0'
  by_cases hg : l.length < l'.length
  · obtain ⟨n, hn⟩ : ∃ n, n = l'.length := ⟨_, rfl⟩
    rw [show max l.length l'.length = n by omega]
    have HN := Lib.hid hn
    have hn2 : n ≤ 140737488351232 := by omega
    go_enter Try.func60, Try.ntmps60
    go_wp2_with fail
    rw [← HN.out]
    clear hn
    go_loopw [6] (fun i wr => wr = w ∧ ∃ j : Nat, j ≤ n ∧ i = .int .i64 ((j : Int) - 1) ∧ Hid (cmpL l l' n = cmpL l l' j)) (fun i _ => (intOf i + 1).toNat)
    case atStart => exact ⟨by first | rfl | trivial, n, Nat.le_refl _, rfl, rfl⟩
    case round =>
      obtain ⟨rfl, j, hj, rfl, hf⟩ := hrel
      cases j with
      | zero =>
        have HF := Lib.hid hf
        clear hf
        go_wp2_with fail
        go_ret
        exact ⟨by rw [HF.out.out]; rfl, rfl⟩
      | succ j =>
        have e1 : ((j + 1 : Nat) : Int) - 1 = (j : Int) := by omega
        rw [e1]
        have CA := Lib.hid (limbCall l hl hu.out j (by omega) A c wr hr.out)
        have CB := Lib.hid (limbCall l' hl' hu'.out j (by omega) A' c' wr hr'.out)
        rw [← HN.out] at CB
        have HF : Hid (cmpL l l' n = if lmb l j < lmb l' j then -1 else if lmb l' j < lmb l j then 1 else cmpL l l' j) := hf.out
        clear hf e1
        generalize lmb l j = x at *
        generalize lmb l' j = y at *
        go_wp2_with fail
        refine CA.out.mono ?_
        rintro e w1 ⟨rfl, rfl⟩
        go_wp2_with fail
        refine CB.out.mono ?_
        rintro e w2 ⟨rfl, rfl⟩
        clear CA CB
        by_cases h1 : x < y
        · have F1 : Hid (cmpL l l' n = -1) := by have := HF.out; rw [if_pos h1] at this; exact this
          clear HF
          go_wp2
          go_ret
          exact ⟨by rw [F1.out]; rfl, rfl⟩
        · by_cases h2 : y < x
          · have F1 : Hid (cmpL l l' n = 1) := by have := HF.out; rw [if_neg h1, if_pos h2] at this; exact this
            clear HF
            go_wp2
            go_ret
            exact ⟨by rw [F1.out]; rfl, rfl⟩
          · have F1 : Hid (cmpL l l' n = cmpL l l' j) := by have := HF.out; rw [if_neg h1, if_neg h2] at this; exact this
            clear HF
            go_wp2
            go_roundw
            case rel => exact ⟨by first | rfl | trivial, j, by omega, by go_num, F1.out⟩
            case measure => simp [intOf]
  · obtain ⟨n, hn⟩ : ∃ n, n = l.length := ⟨_, rfl⟩
    rw [show max l.length l'.length = n by omega]
    have HN := Lib.hid hn
    have hn2 : n ≤ 140737488351232 := by omega
    go_enter Try.func60, Try.ntmps60
    go_wp2_with fail
    rw [← HN.out]
    clear hn
    go_loopw [6] (fun i wr => wr = w ∧ ∃ j : Nat, j ≤ n ∧ i = .int .i64 ((j : Int) - 1) ∧ Hid (cmpL l l' n = cmpL l l' j)) (fun i _ => (intOf i + 1).toNat)
    case atStart => exact ⟨by first | rfl | trivial, n, Nat.le_refl _, rfl, rfl⟩
    case round =>
      obtain ⟨rfl, j, hj, rfl, hf⟩ := hrel
      cases j with
      | zero =>
        have HF := Lib.hid hf
        clear hf
        go_wp2_with fail
        go_ret
        exact ⟨by rw [HF.out.out]; rfl, rfl⟩
      | succ j =>
        have e1 : ((j + 1 : Nat) : Int) - 1 = (j : Int) := by omega
        rw [e1]
        have CA := Lib.hid (limbCall l hl hu.out j (by omega) A c wr hr.out)
        have CB := Lib.hid (limbCall l' hl' hu'.out j (by omega) A' c' wr hr'.out)
        rw [← HN.out] at CA
        have HF : Hid (cmpL l l' n = if lmb l j < lmb l' j then -1 else if lmb l' j < lmb l j then 1 else cmpL l l' j) := hf.out
        clear hf e1
        generalize lmb l j = x at *
        generalize lmb l' j = y at *
        go_wp2_with fail
        refine CA.out.mono ?_
        rintro e w1 ⟨rfl, rfl⟩
        go_wp2_with fail
        refine CB.out.mono ?_
        rintro e w2 ⟨rfl, rfl⟩
        clear CA CB
        by_cases h1 : x < y
        · have F1 : Hid (cmpL l l' n = -1) := by have := HF.out; rw [if_pos h1] at this; exact this
          clear HF
          go_wp2
          go_ret
          exact ⟨by rw [F1.out]; rfl, rfl⟩
        · by_cases h2 : y < x
          · have F1 : Hid (cmpL l l' n = 1) := by have := HF.out; rw [if_neg h1, if_pos h2] at this; exact this
            clear HF
            go_wp2
            go_ret
            exact ⟨by rw [F1.out]; rfl, rfl⟩
          · have F1 : Hid (cmpL l l' n = cmpL l l' j) := by have := HF.out; rw [if_neg h1, if_neg h2] at this; exact this
            clear HF
            go_wp2
            go_roundw
            case rel => exact ⟨by first | rfl | trivial, j, by omega, by go_num, F1.out⟩
            case measure => simp [intOf]

def spec_l1Cmp.f (k : Nat) (l0 : List Int) (l1 : List Int) : Option Int := if l0.length ≤ 140737488351232 ∧ l1.length ≤ 140737488351232 ∧ Us l0 ∧ Us l1 then some (cmpI (val l0) (val l1)) else none
theorem spec_l1Cmp.mono : ∀ a0 a1 k, LeO (spec_l1Cmp.f k a0 a1) (spec_l1Cmp.f (k + 1) a0 a1) := fun _ _ _ => LeO.refl _
theorem spec_l1Cmp.calls (k : Nat) (A0 : Option Addr) (c0 : Nat) (l0 : List Int) (A1 : Option Addr) (c1 : Nat) (l1 : List Int) (r : Int) (w : World) (hr0 : Kd.C (Kd.int .u32) w A0 l0.length l0) (hc0 : l0.length ≤ c0) (hr1 : Kd.C (Kd.int .u32) w A1 l1.length l1) (hc1 : l1.length ≤ c1) (h : spec_l1Cmp.f k l0 l1 = some r) :
    Calls Try.prog 60 #[.slice A0 l0.length c0, .slice A1 l1.length c1] w fun e w' => e = .returned (.int .i64 r) ∧ Drawn0 w w' := by
  unfold spec_l1Cmp.f at h
  split at h
  next hh =>
    obtain ⟨hl0, hl1, hu0, hu1⟩ := hh
    obtain rfl := Option.some.inj h
    refine (specCmp l0 l1 hl0 hl1 hu0 hu1 A0 A1 c0 c1 w hr0 hr1).mono ?_
    rintro e w' ⟨rfl, rfl⟩
    refine ⟨?_, Drawn0.refl _⟩
    rw [cmpL_vt hu0 hu1, vt_val (l := l0) (by omega), vt_val (l := l1) (by omega)]
  next => cases h

end Go.Proofs.Ytajmeeppigdjnaa.Own
