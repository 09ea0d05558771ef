/- The law 'FnBigText' walked over drawn numbers; no condition. -/
import Derived.Test.YtajmeeppigdjnaaRingT
import Derived.Test.YtajmeeppigdjnaaLwBig
import Derived.Deep.RegionHeld3
import Derived.Lib.QuietBelow
import Derived.BigQuiet
import Derived.Deep.QuietTactic
namespace Go.Proofs.Ytajmeeppigdjnaa
open Go.RowKit Go.Proofs.YtajmeeppigdjnaaW.PrintWords Go.Proofs.YtajmeeppigdjnaaW.PrintMore Go.Proofs.Ytajmeeppigdjnaa.PFnBigText
set_option linter.unusedVariables false
set_option linter.unusedSimpArgs false

set_option maxRecDepth 100000 in
set_option maxHeartbeats 8000000 in
theorem lawFnBigText (s : List Int) (hs0 : s.length ≤ 140737488351232) (hb : ∀ x ∈ s, 0 ≤ x ∧ x ≤ 255) (A : Option Addr) (c : Nat) (hc : s.length ≤ c) (w : World) (hC : Kd.C (Kd.int .u8) w A s.length s) :
    Calls Try.prog 14 #[.slice A s.length c] w fun e w' => e = .returned (.bool true) ∧ Below w.heap.size w w' := by
  go_enter Try.func14, Try.ntmps14
  by_cases hs : s.length ≤ 1048576
  rotate_left
  · have hsb : decide ((1048576 : Int) < (s.length : Int)) = true := by simp; omega
    go_wp2_with fail
    go_ret
    exact ⟨rfl, Below.refl _ _⟩
  have hsb : decide ((1048576 : Int) < (s.length : Int)) = false := by simp; omega
  have HC := Lib.hid hC
  have HB := Lib.hid (Below.refl w.heap.size w)
  obtain ⟨ma, la, ga, DA⟩ := ringDraw s hs hb 0 (by omega) (by omega)
  have GA := Lib.hid ga
  have DA := Lib.hid DA
  clear ga hC
  have CT := Lib.hid (DA.out _ A c HC.out hc)
  go_wp2_with fail
  refine CT.out.mono ?_
  clear CT
  rintro e w1 ⟨Aa, ca, rfl, hn, hb⟩
  replace HC := Lib.hid (Kd.C_below HC.out hb)
  replace HB := Lib.hid (HB.out.trans (hb.mono HB.out.size))
  replace HC := Lib.hid (Kd.C_below HC.out (below_old _ (.cells #[.bool ma, .slice Aa la.length ca] 24)))
  replace HB := Lib.hid (HB.out.alloc HB.out.size (.cells #[.bool ma, .slice Aa la.length ca] 24))
  have Ba := Lib.hid (BigAt.new hn)
  clear hn hb
  clear DA
  obtain ⟨t, ht⟩ : ∃ t, bgText ma la = t := ⟨_, rfl⟩
  have TX := ringText Ba.out.num
  rw [ht] at TX
  have TS : t.size ≤ 401 := by rw [← ht]; exact text_size GA.out
  have TR := text_read GA.out
  have TN := text_nought GA.out
  have TB := text_blank GA.out
  have TE := text_ne GA.out
  rw [ht] at TR TN TB TE
  clear ht
  replace TR := Lib.hid TR
  replace TN := Lib.hid TN
  replace TB := Lib.hid TB
  replace TX := Lib.hid TX
  have za0 := Ba.out.c0
  have za1 := Ba.out.c1
  have CT := Lib.hid (TX.out)
  go_wp2_with fail
  refine CT.out.mono ?_
  clear CT
  clear za0 za1
  rintro e w2 ⟨rfl, hb⟩
  replace Ba := Lib.hid (Ba.out.below hb)
  replace HC := Lib.hid (Kd.C_below HC.out hb)
  replace HB := Lib.hid (HB.out.trans (hb.mono HB.out.size))
  clear hb
  clear TX
  have CT := Lib.hid (ringRead w2 t (by omega) TR.out)
  go_wp2_with fail
  refine CT.out.mono ?_
  clear CT
  rintro e w3 ⟨Ar, cr, rfl, hn, hb⟩
  replace Ba := Lib.hid (Ba.out.below hb)
  replace HC := Lib.hid (Kd.C_below HC.out hb)
  replace HB := Lib.hid (HB.out.trans (hb.mono HB.out.size))
  replace Ba := Lib.hid (Ba.out.old (.cells #[.int .i64 0, .bool ma, .slice Ar la.length cr] 41))
  replace HC := Lib.hid (Kd.C_below HC.out (below_old _ (.cells #[.int .i64 0, .bool ma, .slice Ar la.length cr] 41)))
  replace HB := Lib.hid (HB.out.alloc HB.out.size (.cells #[.int .i64 0, .bool ma, .slice Ar la.length cr] 41))
  have Br := Lib.hid (ResAt.new 0 hn)
  clear hn hb
  have za0 := Ba.out.c0
  have za1 := Ba.out.c1
  have zr0 := Br.out.c0
  have zr1 := Br.out.c1
  have zr2 := Br.out.c2
  have CT := Lib.hid (ringSame Br.out.num Ba.out.num)
  go_wp2_with fail
  refine CT.out.mono ?_
  clear CT
  clear za0 za1 zr0 zr1 zr2
  rintro e w4 ⟨rfl, hb⟩
  replace Ba := Lib.hid (Ba.out.below hb)
  replace Br := Lib.hid (Br.out.below hb)
  replace HC := Lib.hid (Kd.C_below HC.out hb)
  replace HB := Lib.hid (HB.out.trans (hb.mono HB.out.size))
  clear hb
  have S0 : ((⟨#[48]⟩ : ByteArray) ++ t).size ≤ 1048576 := by rw [ByteArray.size_append]; have : (⟨#[48]⟩ : ByteArray).size = 1 := rfl; omega
  have S1 : (t ++ (⟨#[32]⟩ : ByteArray)).size ≤ 1048576 := by rw [ByteArray.size_append]; have : (⟨#[32]⟩ : ByteArray).size = 1 := rfl; omega
  have FL0 := run_field0
  have za0 := Ba.out.c0
  have za1 := Ba.out.c1
  have CT := Lib.hid (ringRead w4 ((⟨#[48]⟩ : ByteArray) ++ t) S0 TN.out)
  go_wp2_with fail
  refine CT.out.mono ?_
  clear CT
  clear za0 za1
  rintro e w5 ⟨Ap, cp, rfl, hn, hb⟩
  replace Ba := Lib.hid (Ba.out.below hb)
  replace HC := Lib.hid (Kd.C_below HC.out hb)
  replace HB := Lib.hid (HB.out.trans (hb.mono HB.out.size))
  have Np := Lib.hid hn
  clear hn hb
  have za0 := Ba.out.c0
  have za1 := Ba.out.c1
  have CT := Lib.hid (ringRead w5 (t ++ (⟨#[32]⟩ : ByteArray)) S1 TB.out)
  go_wp2_with fail
  refine CT.out.mono ?_
  clear CT
  clear za0 za1
  rintro e w6 ⟨Aq, cq, rfl, hn, hb⟩
  replace Ba := Lib.hid (Ba.out.below hb)
  replace HC := Lib.hid (Kd.C_below HC.out hb)
  replace HB := Lib.hid (HB.out.trans (hb.mono HB.out.size))
  replace Np := Lib.hid (Np.out.below hb)
  have Nq := Lib.hid hn
  clear hn hb
  clear Np Nq
  obtain ⟨vx, hvx, x0, x1⟩ := st_at s (by omega) hb 6 100000 (by omega) (by omega) (by omega) (by omega)
  have HVx := Lib.hid hvx
  clear hvx
  have CT := Lib.hid (laws_lwAt.calls A c s 6 100000 vx w6 HC.out hc HVx.out)
  go_wp2_with fail
  refine CT.out.mono ?_
  clear CT
  rintro e w7 ⟨rfl, hd⟩
  have hb2 : Below w6.heap.size w6 w7 := by obtain ⟨nd, rfl⟩ := hd; exact pw_below_drewN (Below.refl _ _) nd
  replace Ba := Lib.hid (Ba.out.below hb2)
  replace HC := Lib.hid (Kd.C_below HC.out hb2)
  replace HB := Lib.hid (HB.out.trans (hb2.mono HB.out.size))
  clear hd hb2
  obtain ⟨vy, hvy, y0, y1⟩ := st_at s (by omega) hb 8 100000 (by omega) (by omega) (by omega) (by omega)
  have HVy := Lib.hid hvy
  clear hvy
  have CT := Lib.hid (laws_lwAt.calls A c s 8 100000 vy w7 HC.out hc HVy.out)
  go_wp2_with fail
  refine CT.out.mono ?_
  clear CT
  rintro e w8 ⟨rfl, hd⟩
  have hb2 : Below w7.heap.size w7 w8 := by obtain ⟨nd, rfl⟩ := hd; exact pw_below_drewN (Below.refl _ _) nd
  replace Ba := Lib.hid (Ba.out.below hb2)
  replace HC := Lib.hid (Kd.C_below HC.out hb2)
  replace HB := Lib.hid (HB.out.trans (hb2.mono HB.out.size))
  clear hd hb2
  clear HC HVx HVy
  have hxy : -2500000000 ≤ (vx - 50000) * (vy - 50000) ∧ (vx - 50000) * (vy - 50000) ≤ 2500000000 := prod_small (by omega) (by omega) (by omega) (by omega)
  have HS := Lib.hid (show bgRes (big (sgn (vx - 50000)) (lims (vx - 50000)) + big (sgn (vy - 50000)) (lims (vy - 50000))) = (0, sgn ((vx - 50000) + (vy - 50000)), lims ((vx - 50000) + (vy - 50000))) by rw [big_lims, big_lims]; exact small_res (by omega) (by omega))
  have HP := Lib.hid (show bgRes (big (sgn (vx - 50000)) (lims (vx - 50000)) * big (sgn (vy - 50000)) (lims (vy - 50000))) = (0, sgn ((vx - 50000) * (vy - 50000)), lims ((vx - 50000) * (vy - 50000))) by rw [big_lims, big_lims]; exact small_res (by omega) (by omega))
  have za0 := Ba.out.c0
  have za1 := Ba.out.c1
  have CT := Lib.hid (ringOf w8 (vx - 50000) (by omega) (by omega))
  go_wp2_with fail
  refine CT.out.mono ?_
  clear CT
  clear za0 za1
  rintro e w9 ⟨Aus, cus, rfl, hn, hb⟩
  replace Ba := Lib.hid (Ba.out.below hb)
  replace HB := Lib.hid (HB.out.trans (hb.mono HB.out.size))
  have Nus := Lib.hid hn
  clear hn hb
  have za0 := Ba.out.c0
  have za1 := Ba.out.c1
  have CT := Lib.hid (ringOf w9 (vy - 50000) (by omega) (by omega))
  go_wp2_with fail
  refine CT.out.mono ?_
  clear CT
  clear za0 za1
  rintro e w10 ⟨Avs, cvs, rfl, hn, hb⟩
  replace Ba := Lib.hid (Ba.out.below hb)
  replace HB := Lib.hid (HB.out.trans (hb.mono HB.out.size))
  replace Nus := Lib.hid (Nus.out.below hb)
  have Nvs := Lib.hid hn
  clear hn hb
  have za0 := Ba.out.c0
  have za1 := Ba.out.c1
  have CT := Lib.hid (ringAdd Nus.out Nvs.out HS.out)
  go_wp2_with fail
  refine CT.out.mono ?_
  clear CT
  clear za0 za1
  rintro e w11 ⟨As, cs, rfl, hn, hb⟩
  replace Ba := Lib.hid (Ba.out.below hb)
  replace HB := Lib.hid (HB.out.trans (hb.mono HB.out.size))
  replace Ba := Lib.hid (Ba.out.old (.cells #[.int .i64 0, .bool (sgn ((vx - 50000) + (vy - 50000))), .slice As (lims ((vx - 50000) + (vy - 50000))).length cs] 41))
  replace HB := Lib.hid (HB.out.alloc HB.out.size (.cells #[.int .i64 0, .bool (sgn ((vx - 50000) + (vy - 50000))), .slice As (lims ((vx - 50000) + (vy - 50000))).length cs] 41))
  have Bs := Lib.hid (ResAt.new 0 hn)
  clear hn hb
  clear Nus Nvs
  have za0 := Ba.out.c0
  have za1 := Ba.out.c1
  have CT := Lib.hid (ringOf (w11.alloc (.cells #[.int .i64 0, .bool (sgn ((vx - 50000) + (vy - 50000))), .slice As (lims ((vx - 50000) + (vy - 50000))).length cs] 41)) (vx - 50000) (by omega) (by omega))
  go_wp2_with fail
  refine CT.out.mono ?_
  clear CT
  clear za0 za1
  rintro e w12 ⟨Aum, cum, rfl, hn, hb⟩
  replace Ba := Lib.hid (Ba.out.below hb)
  replace Bs := Lib.hid (Bs.out.below hb)
  replace HB := Lib.hid (HB.out.trans (hb.mono HB.out.size))
  have Num := Lib.hid hn
  clear hn hb
  have za0 := Ba.out.c0
  have za1 := Ba.out.c1
  have CT := Lib.hid (ringOf w12 (vy - 50000) (by omega) (by omega))
  go_wp2_with fail
  refine CT.out.mono ?_
  clear CT
  clear za0 za1
  rintro e w13 ⟨Avm, cvm, rfl, hn, hb⟩
  replace Ba := Lib.hid (Ba.out.below hb)
  replace Bs := Lib.hid (Bs.out.below hb)
  replace HB := Lib.hid (HB.out.trans (hb.mono HB.out.size))
  replace Num := Lib.hid (Num.out.below hb)
  have Nvm := Lib.hid hn
  clear hn hb
  have za0 := Ba.out.c0
  have za1 := Ba.out.c1
  have CT := Lib.hid (ringMul Num.out Nvm.out HP.out)
  go_wp2_with fail
  refine CT.out.mono ?_
  clear CT
  clear za0 za1
  rintro e w14 ⟨Am, cm, rfl, hn, hb⟩
  replace Ba := Lib.hid (Ba.out.below hb)
  replace Bs := Lib.hid (Bs.out.below hb)
  replace HB := Lib.hid (HB.out.trans (hb.mono HB.out.size))
  replace Ba := Lib.hid (Ba.out.old (.cells #[.int .i64 0, .bool (sgn ((vx - 50000) * (vy - 50000))), .slice Am (lims ((vx - 50000) * (vy - 50000))).length cm] 41))
  replace Bs := Lib.hid (Bs.out.old (.cells #[.int .i64 0, .bool (sgn ((vx - 50000) * (vy - 50000))), .slice Am (lims ((vx - 50000) * (vy - 50000))).length cm] 41))
  replace HB := Lib.hid (HB.out.alloc HB.out.size (.cells #[.int .i64 0, .bool (sgn ((vx - 50000) * (vy - 50000))), .slice Am (lims ((vx - 50000) * (vy - 50000))).length cm] 41))
  have Bm := Lib.hid (ResAt.new 0 hn)
  clear hn hb
  clear Num Nvm
  clear HS HP
  obtain ⟨sb, sv, hsm⟩ : ∃ b v, bgSmall ma la = (b, v) := ⟨_, _, rfl⟩
  have KS := ringSmall Ba.out.num
  have HSM := Lib.hid hsm
  rw [hsm] at KS
  clear hsm
  replace KS := Lib.hid KS
  have za0 := Ba.out.c0
  have za1 := Ba.out.c1
  have CT := Lib.hid (KS.out)
  go_wp2_with fail
  refine CT.out.mono ?_
  clear CT
  clear za0 za1
  rintro e w15 ⟨rfl, hb⟩
  replace Ba := Lib.hid (Ba.out.below hb)
  replace Bs := Lib.hid (Bs.out.below hb)
  replace Bm := Lib.hid (Bm.out.below hb)
  replace HB := Lib.hid (HB.out.trans (hb.mono HB.out.size))
  clear hb
  clear KS
  have za0 := Ba.out.c0
  have za1 := Ba.out.c1
  have zs0 := Bs.out.c0
  have zs1 := Bs.out.c1
  have zs2 := Bs.out.c2
  have zm0 := Bm.out.c0
  have zm1 := Bm.out.c1
  have zm2 := Bm.out.c2
  go_wp2_with fail
  clear za0 za1 zs0 zs1 zs2 zm0 zm1 zm2
  replace Ba := Lib.hid (Ba.out.old (.cells #[.bool sb, .int .i64 sv] 32))
  replace Bs := Lib.hid (Bs.out.old (.cells #[.bool sb, .int .i64 sv] 32))
  replace Bm := Lib.hid (Bm.out.old (.cells #[.bool sb, .int .i64 sv] 32))
  replace HB := Lib.hid (HB.out.alloc HB.out.size (.cells #[.bool sb, .int .i64 sv] 32))
  have Bq := Lib.hid (SmallAt.new w15 sb sv)
  generalize w15.alloc (.cells #[.bool sb, .int .i64 sv] 32) = W9 at *
  have HS2 : bgSmall (sgn (vx - 50000 + (vy - 50000))) (lims (vx - 50000 + (vy - 50000))) = (true, vx - 50000 + (vy - 50000)) := small_lims (by omega) (by omega)
  have HP2 : bgSmall (sgn ((vx - 50000) * (vy - 50000))) (lims ((vx - 50000) * (vy - 50000))) = (true, (vx - 50000) * (vy - 50000)) := small_lims (by omega) (by omega)
  replace HS2 := Lib.hid HS2
  replace HP2 := Lib.hid HP2
  have wS : IntKind.i64.wrap (vx - 50000 + (vy - 50000)) = vx - 50000 + (vy - 50000) := i64_in (by omega) (by omega)
  have wP : IntKind.i64.wrap ((vx - 50000) * (vy - 50000)) = (vx - 50000) * (vy - 50000) := i64_in (by omega) (by omega)
  have SB := Lib.hid (small_big (v := sv) GA.out)
  clear hxy FL0 S0 S1 x0 x1 y0 y1 TR TN TB TS TE Br hsb hs hs0 hb hc DA
  generalize vx - 50000 = X at *
  generalize vy - 50000 = Y at *
  cases sb
  · have FLX := 0
    have zs0 := fun d os => cell_regrown Bs.out.c0 d os
    have zs1 := fun d os => cell_regrown Bs.out.c1 d os
    have zs2 := fun d os => cell_regrown Bs.out.c2 d os
    have zm0 := fun d os => cell_regrown Bm.out.c0 d os
    have zm1 := fun d os => cell_regrown Bm.out.c1 d os
    have zm2 := fun d os => cell_regrown Bm.out.c2 d os
    have za0 := fun d os => cell_regrown Ba.out.c0 d os
    have za1 := fun d os => cell_regrown Ba.out.c1 d os
    have zq0 := fun d os => cell_regrown Bq.out.c0 d os
    have zq1 := fun d os => cell_regrown Bq.out.c1 d os
    have FLD := run_fieldS
    refine wp_region_quiet_below (by kernel_rfl) (by kernel_rfl) ?_
    repeat (first | go_big_quiet_skip | quiet_step (first | (go_at_call 23; exact Calls.regrown_of (ringSmallV (Bs.out.num.below (below_regrown W9 _ _)) HS2.out)) | (go_at_call 23; exact Calls.regrown_of (ringSmallV (Bm.out.num.below (below_regrown W9 _ _)) HP2.out)) | (go_at_call 21; exact Calls.regrown_of (ringSmallSV (Ba.out.num.below (below_regrown W9 _ _)) HSM.out))))
    refine wpQuiet_nil ?_
    intro _ hw'
    obtain ⟨⟨dq, osq⟩, hw''⟩ := hw'
    subst hw''
    have hbq := below_regrown W9 dq osq
    clear zs0 zs1 zs2 zm0 zm1 zm2 za0 za1 zq0 zq1
    replace HB := Lib.hid (HB.out.trans (hbq.mono HB.out.size))
    clear hbq
    generalize Go.Sort.grow (redrawn W9 dq) osq = wq at *
    go_wp2_with fail; go_ret; exact ⟨rfl, HB.out⟩
  · have hv := SB.out HSM.out
    have HV : Hid (sv = big ma la) := Lib.hid hv.1
    have hv2 := hv.2
    have KO := fun W => ringOf W sv hv2.1 hv2.2
    rw [show sgn sv = ma by rw [hv.1]; exact sgn_big GA.out, show lims sv = la by rw [hv.1]; exact lims_big GA.out] at KO
    replace KO := Lib.hid KO
    clear hv
    have FLD := run_fieldS
    have zs0 := (Bs.out.below (Below.refl _ _).drew).c0
    have zs1 := (Bs.out.below (Below.refl _ _).drew).c1
    have zs2 := (Bs.out.below (Below.refl _ _).drew).c2
    have zm0 := (Bm.out.below (Below.refl _ _).drew).c0
    have zm1 := (Bm.out.below (Below.refl _ _).drew).c1
    have zm2 := (Bm.out.below (Below.refl _ _).drew).c2
    have za0 := (Ba.out.below (Below.refl _ _).drew).c0
    have za1 := (Ba.out.below (Below.refl _ _).drew).c1
    have zq0 := (Bq.out.below (Below.refl _ _).drew).c0
    have zq1 := (Bq.out.below (Below.refl _ _).drew).c1
    first | (go_region_held3 (fun w' => w'.cell? ⟨w11.heap.size, 0, none⟩ = some (.int .i64 0) ∧ w'.cell? ⟨w11.heap.size, 1, none⟩ = some (.bool (sgn (X + Y))) ∧ w'.cell? ⟨w11.heap.size, 2, none⟩ = some (.slice As (lims (X + Y)).length cs) ∧ w'.cell? ⟨w14.heap.size, 0, none⟩ = some (.int .i64 0) ∧ w'.cell? ⟨w14.heap.size, 1, none⟩ = some (.bool (sgn (X * Y))) ∧ w'.cell? ⟨w14.heap.size, 2, none⟩ = some (.slice Am (lims (X * Y)).length cm) ∧ w'.cell? ⟨w1.heap.size, 0, none⟩ = some (.bool ma) ∧ w'.cell? ⟨w1.heap.size, 1, none⟩ = some (.slice Aa la.length ca) ∧ w'.cell? ⟨w15.heap.size, 0, none⟩ = some (.bool true) ∧ w'.cell? ⟨w15.heap.size, 1, none⟩ = some (.int .i64 sv))
      (first | (with_reducible exact ⟨zs0, zs1, zs2, zm0, zm1, zm2, za0, za1, zq0, zq1⟩) | (with_reducible exact ⟨y0s0, y0s1, y0s2, y0m0, y0m1, y0m2, y0a0, y0a1, y0q0, y0q1⟩) | (with_reducible exact ⟨y1s0, y1s1, y1s2, y1m0, y1m1, y1m2, y1a0, y1a1, y1q0, y1q1⟩) | (with_reducible exact ⟨y2s0, y2s1, y2s2, y2m0, y2m1, y2m2, y2a0, y2a1, y2q0, y2q1⟩) | (with_reducible exact ⟨y3s0, y3s1, y3s2, y3m0, y3m1, y3m2, y3a0, y3a1, y3q0, y3q1⟩) | (with_reducible exact ⟨y4s0, y4s1, y4s2, y4m0, y4m1, y4m2, y4a0, y4a1, y4q0, y4q1⟩) | fail)
      (first | (go_at_call 23; replace Ba := Lib.hid (Ba.out.below (Below.refl _ _).drew); replace Bs := Lib.hid (Bs.out.below (Below.refl _ _).drew); replace Bm := Lib.hid (Bm.out.below (Below.refl _ _).drew); replace Bq := Lib.hid (Bq.out.below (Below.refl _ _).drew); replace HB := Lib.hid HB.out.drew; have CT := ringSmallV Bs.out.num HS2.out; (with_reducible refine CT.mono ?_); clear CT; rintro e w16 ⟨rfl, hb⟩; replace Ba := Lib.hid (Ba.out.below hb); replace Bs := Lib.hid (Bs.out.below hb); replace Bm := Lib.hid (Bm.out.below hb); replace Bq := Lib.hid (Bq.out.below hb); replace HB := Lib.hid (HB.out.trans (hb.mono HB.out.size)); clear hb; have y0s0 := Bs.out.c0; have y0s1 := Bs.out.c1; have y0s2 := Bs.out.c2; have y0m0 := Bm.out.c0; have y0m1 := Bm.out.c1; have y0m2 := Bm.out.c2; have y0a0 := Ba.out.c0; have y0a1 := Ba.out.c1; have y0q0 := Bq.out.c0; have y0q1 := Bq.out.c1)
                        | (go_at_call 23; have CT := ringSmallV Bm.out.num HP2.out; (with_reducible refine CT.mono ?_); clear CT; rintro e w17 ⟨rfl, hb⟩; replace Ba := Lib.hid (Ba.out.below hb); replace Bs := Lib.hid (Bs.out.below hb); replace Bm := Lib.hid (Bm.out.below hb); replace Bq := Lib.hid (Bq.out.below hb); replace HB := Lib.hid (HB.out.trans (hb.mono HB.out.size)); clear hb; have y1s0 := Bs.out.c0; have y1s1 := Bs.out.c1; have y1s2 := Bs.out.c2; have y1m0 := Bm.out.c0; have y1m1 := Bm.out.c1; have y1m2 := Bm.out.c2; have y1a0 := Ba.out.c0; have y1a1 := Ba.out.c1; have y1q0 := Bq.out.c0; have y1q1 := Bq.out.c1)
                        | (go_at_call 16; (with_reducible refine (KO.out _).mono ?_); rintro e w18 ⟨Ao, co, rfl, hn, hb⟩; replace Ba := Lib.hid (Ba.out.below hb); replace Bs := Lib.hid (Bs.out.below hb); replace Bm := Lib.hid (Bm.out.below hb); replace Bq := Lib.hid (Bq.out.below hb); replace HB := Lib.hid (HB.out.trans (hb.mono HB.out.size)); have No := Lib.hid hn; clear hb hn; have y2s0 := Bs.out.c0; have y2s1 := Bs.out.c1; have y2s2 := Bs.out.c2; have y2m0 := Bm.out.c0; have y2m1 := Bm.out.c1; have y2m2 := Bm.out.c2; have y2a0 := Ba.out.c0; have y2a1 := Ba.out.c1; have y2q0 := Bq.out.c0; have y2q1 := Bq.out.c1)
                        | (go_at_call 47; have CT := ringSame No.out Ba.out.num; (with_reducible refine CT.mono ?_); clear CT; rintro e w19 ⟨rfl, hb⟩; replace Ba := Lib.hid (Ba.out.below hb); replace Bs := Lib.hid (Bs.out.below hb); replace Bm := Lib.hid (Bm.out.below hb); replace Bq := Lib.hid (Bq.out.below hb); replace No := Lib.hid (No.out.below hb); replace HB := Lib.hid (HB.out.trans (hb.mono HB.out.size)); clear hb; have y3s0 := Bs.out.c0; have y3s1 := Bs.out.c1; have y3s2 := Bs.out.c2; have y3m0 := Bm.out.c0; have y3m1 := Bm.out.c1; have y3m2 := Bm.out.c2; have y3a0 := Ba.out.c0; have y3a1 := Ba.out.c1; have y3q0 := Bq.out.c0; have y3q1 := Bq.out.c1)
                        | (go_at_call 21; have CT := ringSmallSV Ba.out.num HSM.out; (with_reducible refine CT.mono ?_); clear CT; rintro e w20 ⟨rfl, hb⟩; replace Ba := Lib.hid (Ba.out.below hb); replace Bs := Lib.hid (Bs.out.below hb); replace Bm := Lib.hid (Bm.out.below hb); replace Bq := Lib.hid (Bq.out.below hb); replace No := Lib.hid (No.out.below hb); replace HB := Lib.hid (HB.out.trans (hb.mono HB.out.size)); clear hb; have y4s0 := Bs.out.c0; have y4s1 := Bs.out.c1; have y4s2 := Bs.out.c2; have y4m0 := Bm.out.c0; have y4m1 := Bm.out.c1; have y4m2 := Bm.out.c2; have y4a0 := Ba.out.c0; have y4a1 := Ba.out.c1; have y4q0 := Bq.out.c0; have y4q1 := Bq.out.c1))) | fail "the region"
    go_wp2_with fail
    go_ret
    exact ⟨rfl, HB.out⟩

end Go.Proofs.Ytajmeeppigdjnaa
