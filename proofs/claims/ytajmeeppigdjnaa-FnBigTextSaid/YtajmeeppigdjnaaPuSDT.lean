/- Written by a program of this session (wip/mkpp.py, wip/extract.py, after the way of the kit's print): Go functions as Lean functions, and that the Go code comes to their answers. No condition. -/
import Derived.Test.YtajmeeppigdjnaaEB0
import Derived.Test.YtajmeeppigdjnaaOBig
import Derived.Test.YtajmeeppigdjnaaBigM
namespace Go.Proofs.Ytajmeeppigdjnaa.Own
end Go.Proofs.Ytajmeeppigdjnaa.Own
namespace Go.Proofs.Ytajmeeppigdjnaa.PFnSD
open Go.RowKit Go.Proofs.YtajmeeppigdjnaaW.PrintWords Go.Proofs.YtajmeeppigdjnaaW.PrintLast Go.Proofs.YtajmeeppigdjnaaW.PrintMore Go.Proofs.Ytajmeeppigdjnaa.Own
attribute [local go_sem] max2_int min2_int max_two min_two max_three min_three max_four min_four   -- for this text's walks alone
set_option linter.unusedVariables false
set_option linter.unusedSimpArgs false

/-! ### impl_shortDiv: function 63 -/
def impl_shortDiv.l0 : Nat → List Int → Int → Int → Int → Option (Int × List Int)
  | 0, _, _, _, _ => none
  | k + 1, x0, x1, x5, x6 => if x6 ≥ 0 then (if 0 ≤ x6 then (if x6 < (x0.length : Int) then (if (IntKind.u64.wrap (x1)) = 0 then (none) else (impl_shortDiv.l0 k (x0.set (x6 : Int).toNat ((IntKind.u64.wrap (Int.tdiv (Go.bits .or .u64 (IntKind.u64.wrap (x5 * 4294967296)) (IntKind.u64.wrap (rd x0 x6))) (IntKind.u64.wrap (x1)))) % 4294967296)) x1 (Int.tmod (Go.bits .or .u64 (IntKind.u64.wrap (x5 * 4294967296)) (IntKind.u64.wrap (rd x0 x6))) (IntKind.u64.wrap (x1))) (wrap64 (x6 - 1)))) else (none)) else (none)) else (some ((x5) % 4294967296, x0))
def impl_shortDiv.f (k : Nat) (l0 : List Int) (a1 : Int) : Option (Int × List Int) := impl_shortDiv.l0 k l0 a1 0 (wrap64 ((l0.length : Int) - 1))
theorem impl_shortDiv.mono_l : ∀ k, (∀ y0 y1 y2 y3, LeO (impl_shortDiv.l0 k y0 y1 y2 y3) (impl_shortDiv.l0 (k + 1) y0 y1 y2 y3))
  | 0 => fun _ _ _ _ r h => by simp [impl_shortDiv.l0] at h
  | k + 1 => by
    have ih0 := impl_shortDiv.mono_l k
    · intro y0 y1 y2 y3
      unfold impl_shortDiv.l0
      repeat' first
      | (with_reducible exact ih0 _ _ _ _)
      | (with_reducible exact LeO.refl _)
      | (with_reducible exact LeO.none _)
      | (with_reducible refine LeO.ite ?_ ?_)
      | (with_reducible refine LeO.bind ?_ (fun _ => ?_))
      | exact ih0 _ _ _ _
      | exact LeO.none _
      | refine LeO.ite ?_ ?_
      | refine LeO.bind ?_ (fun _ => ?_)
theorem impl_shortDiv.mono : ∀ a0 a1 k, LeO (impl_shortDiv.f k a0 a1) (impl_shortDiv.f (k + 1) a0 a1) := by
  intro a0 a1 k
  have ih0 := impl_shortDiv.mono_l k
  unfold impl_shortDiv.f
  repeat' first
      | (with_reducible exact ih0 _ _ _ _)
      | (with_reducible exact LeO.refl _)
      | (with_reducible exact LeO.none _)
      | (with_reducible refine LeO.ite ?_ ?_)
      | (with_reducible refine LeO.bind ?_ (fun _ => ?_))
      | exact ih0 _ _ _ _
      | exact LeO.none _
      | refine LeO.ite ?_ ?_
      | refine LeO.bind ?_ (fun _ => ?_)
set_option maxHeartbeats 8000000 in
set_option maxRecDepth 100000 in
theorem impl_shortDiv.calls (k : Nat) (P0_ : Nat → Prop) (u9000_ : Value) (l0 : List Int) (a1 : Int) (r1 : Int) (r2 : List Int) (w0 w : World) (hB : Below w0.heap.size w0 w) (ho0 : Kd.R (Kd.int .u32) 62 w w0.heap.size P0_ u9000_ l0) (h : impl_shortDiv.f k l0 a1 = some (r1, r2)) :
    Calls Try.prog 63 #[u9000_, .int .u32 a1] w fun e w' => e = .returned (.int .u32 r1) ∧ Kd.R (Kd.int .u32) 62 w' w0.heap.size (fun k_ => (P0_ k_ ∨ w.heap.size ≤ k_)) u9000_ r2 ∧ Below w0.heap.size w0 w' ∧ Kept w w' (fun k_ => P0_ k_) := by
  have HO0 := Aside0.mk (show Kd.R (Kd.int .u32) 62 w w0.heap.size (fun k_ => (P0_ k_ ∨ w.heap.size ≤ k_)) u9000_ l0 from Kd.R_mono ho0 (fun k_ hk => (.inl hk)))
  have HK := Aside0.mk (Kept.refl w (fun k_ => P0_ k_))
  have HW0 := Aside0.mk hB.size
  have HB := Aside0.mk hB
  clear hB
  have H : (impl_shortDiv.l0 k l0 a1 0 (wrap64 ((l0.length : Int) - 1))) = some (r1, r2) := h
  clear h
  have H' := Aside0.mk H
  clear H
  obtain ⟨Ao3, co3, eo3⟩ := Kd.R_slice HO0.out
  subst eo3
  go_enter Try.func63, Try.ntmps63
  go_wp2
  go_loopg [5, 6] k (fun kq v5 v6 w' => ∃ (x0_1 : List Int) (x5_1 : Int) (x6_1 : Int), v5 = .int .u64 x5_1 ∧ v6 = .int .i64 x6_1 ∧ Aside0 (impl_shortDiv.l0 kq x0_1 a1 x5_1 x6_1 = some (r1, r2)) ∧ Aside0 (kq ≤ k) ∧ Aside0 (Kd.R (Kd.int .u32) 62 w' w0.heap.size (fun k_ => (P0_ k_ ∨ w.heap.size ≤ k_)) (.slice Ao3 l0.length co3) x0_1) ∧ Aside0 (Kept w w' (fun k_ => P0_ k_)) ∧ Aside0 (Below w0.heap.size w0 w'))
  case atStart => exact ⟨(l0), (0), (wrap64 ((l0.length : Int) - 1)), (by first | rfl | (simp; done) | (simp [*]; done)), (by first | rfl | (simp; done) | (simp [*]; done)), H', ⟨Nat.le_refl _⟩, ⟨by (with_reducible repeat (first | apply Kd.R_alloc | apply Kd.R_drewN | apply Kd.R_drew)); exact HO0.out⟩, ⟨by repeat (first | (with_reducible first | exact HK.out | apply Kept.alloc | apply Kept.drewN | apply Kept.drew) | exact HK.out)⟩, ⟨by repeat (first | (with_reducible first | exact HB.out | apply below_alloc | apply pw_below_drewN | apply below_drew1) | exact HB.out)⟩⟩
  case round =>
    clear H'
    try clear p2
    obtain ⟨x0_1, x5_1, x6_1, rfl, rfl, HA, HK1, HO_0, HK, HB⟩ := hrel
    have hl0_1 := (Kd.R_reads' HO_0.out).1
    rw [hl0_1] at HO_0
    (try simp only [hl0_1])
    cases gk with
    | zero => exact absurd HA.out (by simp [impl_shortDiv.l0])
    | succ k1 =>
      have H := HA.out
      clear HA
      simp only [impl_shortDiv.l0] at H
      by_cases c4 : x6_1 ≥ 0
      · rw [if_pos c4] at H
        have c4b0 : decide (0 ≤ x6_1) = true := decide_eq_true c4
        clear c4
        by_cases c5 : 0 ≤ x6_1
        · rw [if_pos c5] at H
          have c5b0 : decide (0 ≤ x6_1) = true := decide_eq_true c5
          clear c5
          by_cases c6 : x6_1 < (x0_1.length : Int)
          · rw [if_pos c6] at H
            have c6b0 : decide (x6_1 < (x0_1.length : Int)) = true := decide_eq_true c6
            clear c6
            by_cases c7 : (IntKind.u64.wrap (a1)) = 0
            · rw [if_pos c7] at H
              exact absurd H (by simp)
            · rw [if_neg c7] at H
              have c7b0 : ((IntKind.u64.wrap (a1)) == 0) = false := beq_eq_false_iff_ne.mpr c7
              have c7b1 : ((IntKind.u64.wrap (a1)) != 0) = true := bne_iff_ne.mpr c7
              obtain ⟨y154, hy154⟩ : ∃ y_ : List Int, y_ = (x0_1.set (x6_1 : Int).toNat ((IntKind.u64.wrap (Int.tdiv (Go.bits .or .u64 (IntKind.u64.wrap (x5_1 * 4294967296)) (IntKind.u64.wrap (rd x0_1 x6_1))) (IntKind.u64.wrap (a1)))) % 4294967296)) := ⟨_, rfl⟩
              replace H : (impl_shortDiv.l0 k1 y154 a1 (Int.tmod (Go.bits .or .u64 (IntKind.u64.wrap (x5_1 * 4294967296)) (IntKind.u64.wrap (rd x0_1 x6_1))) (IntKind.u64.wrap (a1))) (wrap64 (x6_1 - 1))) = some (r1, r2) := by first | (rw [hy154]; with_reducible exact H) | (have H2_ := (Option.bind_some _ _).symm.trans H; rw [hy154]; with_reducible exact H2_) | (have H2_ := (Option.bind_some _ _).symm.trans H; with_reducible exact H2_) | with_reducible exact H | (rw [hy154]; exact H) | exact H
              have Ny154 := Aside0.mk hy154
              clear hy154
              have H' := Aside0.mk H
              clear H
              have p153 : 0 ≤ (x6_1 : Int) := of_decide_eq_true (by first | (with_reducible assumption) | assumption)
              have q153 : x6_1 < (x0_1.length : Int) := of_decide_eq_true (by first | (with_reducible assumption) | assumption)
              obtain ⟨ad153, e153, hx153_0⟩ := Kd.at_int (Kd.R_reads' HO_0.out).2.2 x6_1 p153 q153
              cases e153
              replace p153 := eq_true p153
              replace q153 := eq_true q153
              have p8 : 0 ≤ (x6_1 : Int) := of_decide_eq_true (by first | (with_reducible assumption) | assumption)
              have q8 : (x6_1 : Int) < ((x0_1.length : Int) : Int) := of_decide_eq_true (by first | (with_reducible assumption) | assumption)
              obtain ⟨go8, co8, eo8, gb8, gl8, cl8, HG8⟩ := Kd.R_form HO_0.out (by omega)
              (first | cases eo8 | (injection eo8 with ea_ en_ ec_; (first | subst ea_ | (injection ea_ with ea_; subst ea_)); subst ec_; clear en_))
              have GB8 := Aside0.mk gb8
              have GG8 := Aside0.mk HG8
              clear gb8 gl8 HG8
              have HMgo8 := Aside0.mk (show (P0_ go8 ∨ w.heap.size ≤ go8) from (HO_0.out.1 _ rfl))
              (first | simp only [add_plain] at hx153_0 | skip)
              obtain ⟨hx8_0, hf8_0⟩ := Kd.R_celln 0 HO_0.out (x6_1 : Int) p8 q8
              replace p8 := eq_true p8
              replace q8 := eq_true q8
              have HP9 := Kd.R_putg HO_0.out (x6_1 : Int) ((IntKind.u64.wrap (Int.tdiv (Go.bits .or .u64 (IntKind.u64.wrap (x5_1 * 4294967296)) (IntKind.u64.wrap (rd x0_1 x6_1))) (IntKind.u64.wrap (a1)))) % 4294967296)
              go_wp2_with (first | ((with_reducible refine gate_store (t := 62) (p := 30) rfl ?_); refine store_event (t := 62) (p := 30) (v := ?vo_w10) (w1 := (wr.setCell ⟨go8, (x6_1 : Int).toNat, none⟩ (.int .u32 ((IntKind.u64.wrap (Int.tdiv (Go.bits .or .u64 (IntKind.u64.wrap (x5_1 * 4294967296)) (IntKind.u64.wrap (rd x0_1 x6_1))) (IntKind.u64.wrap (a1)))) % 4294967296)))) ?hg ?ho ?hn ?hr ?_; (case ho => rfl); (case hg => rfl); (case hn => rfl); (case hr => first | (go_simp; done) | (go_simp; rfl)); intro w10 hw; have hg : wr.grownBy w10 (some go8) := (by rw [hw]; exact HP9.2); have hp_ : Kd.R (Kd.int .u32) 62 w10 w0.heap.size (fun k_ => (P0_ k_ ∨ w.heap.size ≤ k_)) (.slice (some ⟨go8, 0, none⟩) x0_1.length co3) y154 := (by rw [hw, Ny154.out]; exact HP9.1); clear HP9; have n0_ := Aside0.mk (hp_); have n1_ := Aside0.mk ((by rw [hw]; exact below_set (HB.out) GB8.out : Below w0.heap.size w0 w10)); have n2_ := Aside0.mk (Kept.of_grown (S := (fun k_ => P0_ k_)) hg (by repeat (first | (with_reducible first | exact HK.out | apply Kept.alloc | apply Kept.drewN | apply Kept.drew) | exact HK.out)) (fun k_ e_ => (HO_0.out.1 k_ e_))); clear HO_0; clear HB; clear HK; have HO_0 := n0_; have HB := n1_; have HK := n2_; clear n0_ n1_ n2_; clear hg hw hp_))
              (try simp only [← hl0_1])
              go_roundg k1
              case measure => have := HK1.out; omega
              case rel => exact ⟨(y154), (Int.tmod (Go.bits .or .u64 (IntKind.u64.wrap (x5_1 * 4294967296)) (IntKind.u64.wrap (rd x0_1 x6_1))) (IntKind.u64.wrap (a1))), (wrap64 (x6_1 - 1)), (by first | rfl | (simp; done) | (simp [*]; done)), (by first | rfl | (simp; done) | (simp [*]; done)), H', ⟨by have := HK1.out; omega⟩, ⟨by (try simp only [hl0_1]); (with_reducible repeat (first | apply Kd.R_alloc | apply Kd.R_drewN | apply Kd.R_drew)); exact HO_0.out⟩, ⟨by repeat (first | (with_reducible first | exact HK.out | apply Kept.alloc | apply Kept.drewN | apply Kept.drew) | exact HK.out)⟩, ⟨by repeat (first | (with_reducible first | exact HB.out | apply below_alloc | apply pw_below_drewN | apply below_drew1) | exact HB.out)⟩⟩
          · rw [if_neg c6] at H
            exact absurd H (by simp)
        · rw [if_neg c5] at H
          exact absurd H (by simp)
      · rw [if_neg c4] at H
        have c4b0 : decide (0 ≤ x6_1) = false := decide_eq_false c4
        clear c4
        simp only [Option.some.injEq, Prod.mk.injEq] at H
        obtain ⟨rfl, rfl⟩ := H
        go_wp2
        go_ret
        exact ⟨by first | rfl | (simp [errW_none, errW_some] <;> rfl) | (simp [*, errW_none, errW_some] <;> rfl), (by first | exact (by (with_reducible repeat (first | apply Kd.R_alloc | apply Kd.R_drewN | apply Kd.R_drew)); exact HO_0.out) | (simp only [hl0_1]; exact (by (with_reducible repeat (first | apply Kd.R_alloc | apply Kd.R_drewN | apply Kd.R_drew)); exact HO_0.out))), by repeat (first | (with_reducible first | exact HB.out | apply below_alloc | apply pw_below_drewN | apply below_drew1) | exact HB.out), by repeat (first | (with_reducible first | exact HK.out | apply Kept.alloc | apply Kept.drewN | apply Kept.drew) | exact HK.out)⟩


open Go.Proofs.Ytajmeeppigdjnaa
theorem or_high {a b : Int} (a0 : 0 ≤ a) (a1 : a < 4294967296) (b0 : 0 ≤ b) (b1 : b < 4294967296) : Go.bits .or .u64 (b * 4294967296) a = b * 4294967296 + a := by
  have h := or_join a0 a1 b0 b1
  have hc : Go.bits .or .u64 a (b * 4294967296) = Go.bits .or .u64 (b * 4294967296) a := by simp only [Go.bits]; rw [BitVec.or_comm]
  rw [← hc, h]
  omega
theorem div_place {a o : List Int} {i : Nat} {r d : Int} (hi : i < o.length) (hz : lmb o i = lmb a i) (hv : val a - vt a (i + 1) = (val o - vt o (i + 1)) * d + r * PW (i + 1)) :
    val a - vt a i = (val (o.set i ((r * 4294967296 + lmb a i) / d)) - vt (o.set i ((r * 4294967296 + lmb a i) / d)) i) * d + (r * 4294967296 + lmb a i) % d * PW i := by
  rw [val_set hi, vt_set hi, if_neg (by omega), hz]
  simp only [vt] at hv
  rw [PW_succ, hz] at hv
  generalize lmb a i = x at *
  generalize PW i = P at *
  have e : r * 4294967296 + x = d * ((r * 4294967296 + x) / d) + (r * 4294967296 + x) % d := (Int.mul_ediv_add_emod _ _).symm
  generalize (r * 4294967296 + x) / d = q at *
  generalize (r * 4294967296 + x) % d = s at *
  have e2 : (r * 4294967296 + x) * P = (d * q + s) * P := by rw [← e]
  rw [Int.add_mul, Int.add_mul, Int.mul_assoc r] at e2
  have e3 : (val o + (q - x) * P - vt o i) * d = (val o - (vt o i + x * P)) * d + d * q * P := by
    rw [Int.sub_mul q x P, show val o + (q * P - x * P) - vt o i = (val o - (vt o i + x * P)) + q * P by omega, Int.add_mul]
    congr 1
    rw [Int.mul_comm (q * P) d, Int.mul_assoc]
  rw [e3]
  omega

theorem impl_shortDiv_l {a : List Int} {d : Int} (hu : Us a) (hla : a.length ≤ 1048576) (hd0 : 0 < d) (hd1 : d < 4294967296) : ∀ (i : Nat), i ≤ a.length → ∀ (o : List Int) (r : Int), o.length = a.length → Us o → (∀ j, j < i → lmb o j = lmb a j) → 0 ≤ r → r < d → val a - vt a i = (val o - vt o i) * d + r * PW i →
    ∃ o' : List Int, o'.length = a.length ∧ Us o' ∧ val o' = val a / d ∧ Ev (fun k => impl_shortDiv.l0 k o d r ((i : Int) - 1)) (val a % d, o')
  | 0, hi, o, r, ho, huo, hz, hr0, hr1, hv => by
    simp only [vt, PW_zero, Int.sub_zero, Int.mul_one] at hv
    have h1 : val a / d = val o := by
      rw [hv, Int.add_comm, Int.add_mul_ediv_right _ _ (by omega), Int.ediv_eq_zero_of_lt hr0 hr1, Int.zero_add]
    have h2 : val a % d = r := by
      rw [hv, Int.add_comm, Int.add_mul_emod_self_right, Int.emod_eq_of_lt hr0 hr1]
    refine ⟨o, ho, huo, h1.symm, ?_⟩
    rw [h2]
    refine Ev.step (f := fun _ => some (r, o)) (fun k => ?_) (Ev.now _)
    rw [impl_shortDiv.l0, if_neg (by omega), Int.emod_eq_of_lt hr0 (by omega)]
  | i + 1, hi, o, r, ho, huo, hz, hr0, hr1, hv => by
    have hx := lmb_range hu i
    have hs := div_place (a := a) (o := o) (i := i) (r := r) (d := d) (by omega) (hz i (by omega)) hv
    have hq0 : 0 ≤ (r * 4294967296 + lmb a i) / d := Int.ediv_nonneg (by omega) (by omega)
    have hq1 : (r * 4294967296 + lmb a i) / d < 4294967296 := Int.ediv_lt_of_lt_mul hd0 (by omega)
    have hm0 : 0 ≤ (r * 4294967296 + lmb a i) % d := Int.emod_nonneg _ (by omega)
    have hm1 : (r * 4294967296 + lmb a i) % d < d := Int.emod_lt_of_pos _ hd0
    obtain ⟨o', h1, h2, h3, ih⟩ := impl_shortDiv_l hu hla hd0 hd1 i (by omega) (o.set i ((r * 4294967296 + lmb a i) / d)) ((r * 4294967296 + lmb a i) % d) (by rw [List.length_set]; exact ho) (huo.set i hq0 hq1) (fun j hj => by rw [lmb_set_other (by omega)]; exact hz j (by omega)) hm0 hm1 hs
    refine ⟨o', h1, h2, h3, Ev.step (fun k => ?_) ih⟩
    have e1 : ((i + 1 : Nat) : Int) - 1 = (i : Int) := by omega
    have ed : IntKind.u64.wrap d = d := u64_in (by omega) (by omega)
    rw [e1, impl_shortDiv.l0, if_pos (by omega), if_pos (by omega), if_pos (by omega), ed, if_neg (by omega), rd_nat, hz i (by omega), u64_in (x := r * 4294967296) (by omega) (by omega), u64_in (x := lmb a i) hx.1 (by omega), or_high hx.1 hx.2 hr0 (by omega), Int.tdiv_eq_ediv_of_nonneg (by omega), Int.tmod_eq_emod_of_nonneg (by omega), u64_in hq0 (by omega), Int.toNat_natCast, w64_in (by omega) (by omega), Int.emod_eq_of_lt hq0 hq1]

theorem shortDiv_is {a : List Int} {d : Int} (hu : Us a) (hla : a.length ≤ 1048576) (hd0 : 0 < d) (hd1 : d < 4294967296) :
    ∃ (o : List Int) (k : Nat), o.length = a.length ∧ Us o ∧ val o = val a / d ∧ impl_shortDiv.f k a d = some (val a % d, o) := by
  obtain ⟨o, h1, h2, h3, h4⟩ := impl_shortDiv_l hu hla hd0 hd1 a.length (Nat.le_refl _) a 0 rfl hu (fun _ _ => rfl) (Int.le_refl _) hd0 (by rw [vt_val (Nat.le_refl _)]; omega)
  obtain ⟨k, hk⟩ := h4.rounds
  refine ⟨o, k, h1, h2, h3, ?_⟩
  unfold impl_shortDiv.f
  rw [w64_in (by omega) (by omega)]
  exact hk


end Go.Proofs.Ytajmeeppigdjnaa.PFnSD
