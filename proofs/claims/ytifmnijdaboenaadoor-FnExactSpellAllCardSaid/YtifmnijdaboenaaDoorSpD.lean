/- The reference's 'SpellAll' walked; no condition. -/
import Derived.Test.YtifmnijdaboenaaDoorSpC
namespace Go.Proofs.YtifmnijdaboenaaDoor
open Go.RowKit
set_option linter.unusedVariables false
set_option linter.unusedSimpArgs false

def tkP (y : Tk) : Int × ByteArray := (y.k, y.x)
theorem spR_len {k : Int} {x : ByteArray} (h : tfR k x = false) : (spR k x).data.toList.length ≤ 120003 := by
  have hx : x.size ≤ 60000 := by
    by_cases hb : 60000 < x.size
    · rw [tf_big hb] at h; cases h
    · omega
  have h1 := esc_len2 34 x.data.toList
  have h2 := esc_len2 39 x.data.toList
  rw [size_data] at h1 h2
  unfold spR
  split
  · show (escL 34 x.data.toList).length ≤ _
    omega
  · split
    · show (escL 39 x.data.toList).length ≤ _
      omega
    · rw [size_data]; omega
theorem spAll_bad {p : Int × ByteArray} {ps : List (Int × ByteArray)} {out : List UInt8} (h : tfR p.1 p.2 = true) : spAll out (p :: ps) = spAll out ps := by rw [spAll, if_pos h]
theorem spAll_first {p : Int × ByteArray} {ps : List (Int × ByteArray)} {out : List UInt8} (h : tfR p.1 p.2 = false) (h0 : out.length = 0) : spAll out (p :: ps) = spAll (out ++ (spR p.1 p.2).data.toList) ps := by
  rw [spAll, if_neg (by rw [h]; decide), if_neg (by omega)]
theorem spAll_more {p : Int × ByteArray} {ps : List (Int × ByteArray)} {out : List UInt8} (h : tfR p.1 p.2 = false) (h0 : 0 < out.length) : spAll out (p :: ps) = spAll (out ++ [32] ++ (spR p.1 p.2).data.toList) ps := by
  rw [spAll, if_neg (by rw [h]; decide), if_pos h0]

theorem step_le {a b j K : Nat} (h : a ≤ j * K) (h2 : b ≤ a + K) : b ≤ (j + 1) * K := by rw [Nat.add_mul, Nat.one_mul]; omega
theorem cap_le {a j K M : Nat} (h : a ≤ j * K) (hj : j ≤ 1048576) (hM : 1048576 * K = M) : a ≤ M := Nat.le_trans h (by rw [← hM]; exact Nat.mul_le_mul_right _ hj)
theorem By.mv {B : Nat} {w0 w w1 : World} {v : Value} {l : List UInt8} (h : By B w0 w v l) (hb : Below w.heap.size w w1) (hB : B ≤ w0.heap.size) : By B w0 w1 v l :=
  ⟨h.below.trans (hb.mono (Nat.le_trans hB h.below.size)), h.row.kept (grownBy_below hb none) (by cases v.ownBlock <;> simp)⟩
theorem By.form {B : Nat} {w0 w : World} {v : Value} {l : List UInt8} (h : By B w0 w v l) : ∃ A c, v = .slice A l.length c := by
  obtain ⟨A, c, hv, _, _, _⟩ := h.grow.form
  exact ⟨A, c, by rw [bD_len] at hv; exact hv⟩

set_option maxRecDepth 100000 in
set_option maxHeartbeats 4000000 in
theorem specSpellAll (ts : List Tk) (A : Option Addr) (cap : Nat) (hn : ts.length ≤ 1048576) (hx : ∀ y ∈ ts, y.x.size ≤ 1048576) (w : World) (hr : RdRow w 4 A (ts.map Tk.d)) :
    Calls Tryd.prog 19 #[.slice A ts.length cap] w fun e w' => e = .returned (.string ⟨(spAll [] (ts.map tkP)).toArray⟩) ∧ Below w.heap.size w w' := by
  have B0 : Hid (By w.heap.size w (w.alloc (.cells #[] 5)) (.slice (some ⟨w.heap.size, 0, none⟩) 0 0) []) := by_new w [] (by simp)
  have HR := Lib.hid hr
  have HX := Lib.hid hx
  obtain ⟨R, hR⟩ : ∃ R, R = spAll [] (ts.map tkP) := ⟨_, rfl⟩
  rw [← hR]
  have HRR := Lib.hid hR
  clear hr hx hR
  go_enter Tryd.func19, Tryd.ntmps19
  go_wp2_with fail
  go_loopw [3, 4] (fun o i wr => ∃ j : Nat, i = .int .i64 j ∧ j ≤ ts.length ∧ Hid (∃ out : List UInt8, By w.heap.size w wr o out ∧ out.length ≤ j * 120004 ∧ spAll [] (ts.map tkP) = spAll out ((ts.map tkP).drop j))) (fun _ i _ => ts.length - (intOf i).toNat)
  case atStart => exact ⟨0, rfl, Nat.zero_le _, Lib.hid ⟨[], B0.out, Nat.zero_le _, rfl⟩⟩
  case round =>
    obtain ⟨j, rfl, hj, hrel⟩ := hrel
    obtain ⟨out, hby, hlen, hsp⟩ := hrel.out
    clear hrel B0
    obtain ⟨Ao, co, rfl⟩ := hby.form
    have HBY := Lib.hid hby
    have HLEN := Lib.hid hlen
    have HSP := Lib.hid hsp
    have HCAP := Lib.hid (cap_le (M := 125833314304) hlen (by omega) rfl)
    clear hby hlen hsp
    by_cases hlt : j < ts.length
    · have hwj : IntKind.i64.wrap ((j : Int) + 1) = (j : Int) + 1 := i64_in (by omega) (by omega)
      have HG := Lib.hid (List.getElem?_eq_getElem hlt)
      have HM := Lib.hid (HX.out _ (List.getElem_mem hlt))
      have HD : Hid ((ts.map tkP).drop j = tkP ts[j] :: (ts.map tkP).drop (j + 1)) := by
        show _ = _
        rw [List.drop_eq_getElem_cons (by rw [List.length_map]; exact hlt), List.getElem_map]
      generalize ts[j] = y at *
      obtain ⟨b, off, rfl, q0, q1, q2, q3⟩ := tkrow_parts (HR.out.below (by decide) HBY.out.below) HG.out
      have CT := Lib.hid (specTokenFault y.k y.x y.l y.c HM.out)
      have CS := Lib.hid (specSpell y.k y.x y.l y.c HM.out)
      cases ht : tfR y.k y.x
      · have HS := Lib.hid (sp_false ht)
        have HSL := Lib.hid (spR_len ht)
        obtain ⟨z, hz⟩ : ∃ z, z = spR y.k y.x := ⟨_, rfl⟩
        rw [← hz] at HS HSL
        by_cases h0 : out.length = 0
        · have HQ := Lib.hid (HSP.out.trans ((congrArg (spAll out) HD.out).trans (spAll_first (p := tkP y) ht h0)))
          have HQ2 : Hid (spAll [] (ts.map tkP) = spAll (out ++ z.data.toList) ((ts.map tkP).drop (j + 1))) := by show _ = _; rw [hz]; exact HQ.out
          have h0i : ¬ (0 : Int) < (out.length : Int) := by omega
          clear HQ hz h0
          go_wp2_with (first | (go_at_call 13; refine (CT.out _).mono ?_; rintro e w1 ⟨rfl, hb⟩; have HBY := Lib.hid (HBY.out.mv (hb.mono (Nat.le_refl _)) (Nat.le_refl _)); clear hb q0 q1 q2 q3; obtain ⟨b', off', hA, q0, q1, q2, q3⟩ := tkrow_parts (HR.out.below (by decide) HBY.out.below) HG.out; injection hA with hA; injection hA with hA1 hA2; subst hA1 hA2; rw [ht]) | (go_at_call 16; refine (CS.out _).mono ?_; rintro e w2 ⟨rfl, hb⟩; have HBY2 := Lib.hid (HBY.out.mv (hb.mono (Nat.le_refl _)) (Nat.le_refl _)); clear hb q0 q1 q2 q3; rw [HS.out]) | (at_builtin; refine wpl_byS rfl _ _ rfl w.heap.size _ out rfl HBY2.out (Nat.le_refl _) z rfl (by have := HCAP.out; have := HSL.out; rw [size_data] at this; omega) ?_; intro v' w3 hb3; have HB3 := Lib.hid hb3; clear hb3))
          go_roundw
          case rel => exact ⟨j + 1, by go_num, by omega, Lib.hid ⟨_, HB3.out, step_le HLEN.out (by have := HSL.out; rw [List.length_append]; omega), HQ2.out⟩⟩
          case measure => simp [intOf]; omega
        · have HQ := Lib.hid (HSP.out.trans ((congrArg (spAll out) HD.out).trans (spAll_more (p := tkP y) ht (by omega))))
          have HQ2 : Hid (spAll [] (ts.map tkP) = spAll (out ++ [32] ++ z.data.toList) ((ts.map tkP).drop (j + 1))) := by show _ = _; rw [hz]; exact HQ.out
          have h0i : (0 : Int) < (out.length : Int) := by omega
          have HCE : Hid ((#[.int .u8 32] : Array Value) = (Lib.byteCells [32]).toArray) := Lib.hid rfl
          clear HQ hz h0
          go_wp2_with (first | (go_at_call 13; refine (CT.out _).mono ?_; rintro e w1 ⟨rfl, hb⟩; have HBY := Lib.hid (HBY.out.mv (hb.mono (Nat.le_refl _)) (Nat.le_refl _)); clear hb q0 q1 q2 q3; rw [ht]) | (go_at_call 16; refine (CS.out _).mono ?_; rintro e w2 ⟨rfl, hb⟩; have HBY2 := Lib.hid (HBP.out.mv (hb.mono (Nat.le_refl _)) (Nat.le_refl _)); clear hb q0 q1 q2 q3; rw [HS.out]) | (at_builtin; refine wpl_by rfl _ _ rfl w.heap.size _ out rfl HBY.out (Nat.le_refl _) [32] _ rfl (by have := HCAP.out; simp; omega) HCE.out ?_; intro v1 w1b hbp; obtain ⟨Ap, cp, hv1⟩ := hbp.form; replace hv1 : v1 = .slice Ap (out.length + 1) cp := (by simpa using hv1); subst hv1; have HBP := Lib.hid hbp; clear hbp; obtain ⟨b', off', hA, q0, q1, q2, q3⟩ := tkrow_parts (HR.out.below (by decide) HBP.out.below) HG.out; injection hA with hA; injection hA with hA1 hA2; subst hA1 hA2) | (at_builtin; refine wpl_byS rfl _ _ rfl w.heap.size _ (out ++ [32]) rfl HBY2.out (Nat.le_refl _) z rfl (by have := HCAP.out; have := HSL.out; rw [size_data] at this; simp; omega) ?_; intro v' w3 hb3; have HB3 := Lib.hid hb3; clear hb3))
          go_roundw
          case rel => exact ⟨j + 1, by go_num, by omega, Lib.hid ⟨_, HB3.out, step_le HLEN.out (by have := HSL.out; rw [List.length_append, List.length_append]; simp only [List.length_cons, List.length_nil]; omega), HQ2.out⟩⟩
          case measure => simp [intOf]; omega
      · have HQ := Lib.hid (HSP.out.trans ((congrArg (spAll out) HD.out).trans (spAll_bad (p := tkP y) ht)))
        go_wp2_with (go_at_call 13; refine (CT.out _).mono ?_; rintro e w1 ⟨rfl, hb⟩; have HBY := Lib.hid (HBY.out.mv (hb.mono (Nat.le_refl _)) (Nat.le_refl _)); clear hb q0 q1 q2 q3; rw [ht])
        go_roundw
        case rel => exact ⟨j + 1, by go_num, by omega, Lib.hid ⟨_, HBY.out, step_le HLEN.out (by omega), HQ.out⟩⟩
        case measure => simp [intOf]; omega
    · have HE : Hid (R = out) := by
        show _ = _
        rw [HRR.out, HSP.out, List.drop_of_length_le (by rw [List.length_map]; omega)]
        rfl
      have hcv : (convert 54 9 (.slice Ao out.length co)).run Tryd.prog wr = .ok (.string ⟨R.toArray⟩) wr := by rw [HE.out]; exact HBY.out.conv
      clear HE
      go_wp2
      go_ret
      exact ⟨rfl, HBY.out.below⟩

end Go.Proofs.YtifmnijdaboenaaDoor
