/- The law 'FnRing' walked over drawn numbers; no condition. -/
import Derived.Test.YtajmeeppigdjnaaRingC
import Derived.Deep.RegionHeld3
import Derived.Lib.QuietBelow
import Derived.BigQuiet
import Derived.Deep.QuietTactic
namespace Go.Proofs.Ytajmeeppigdjnaa
open Go.RowKit Go.Proofs.YtajmeeppigdjnaaW.PrintWords Go.Proofs.YtajmeeppigdjnaaW.PrintMore
set_option linter.unusedVariables false
set_option linter.unusedSimpArgs false

set_option maxRecDepth 100000 in
set_option maxHeartbeats 8000000 in
theorem lawFnRing (s : List Int) (hs0 : s.length ≤ 140737488351232) (hb : ∀ x ∈ s, 0 ≤ x ∧ x ≤ 255) (A : Option Addr) (c : Nat) (hc : s.length ≤ c) (w : World) (hC : Kd.C (Kd.int .u8) w A s.length s) :
    Calls Try.prog 12 #[.slice A s.length c] w fun e w' => e = .returned (.bool true) ∧ Below w.heap.size w w' := by
  go_enter Try.func12, Try.ntmps12
  by_cases hs : s.length ≤ 1048576
  rotate_left
  · have hsb : decide ((1048576 : Int) < (s.length : Int)) = true := by simp; omega
    go_wp2_with fail
    go_ret
    exact ⟨rfl, Below.refl _ _⟩
  have hsb : decide ((1048576 : Int) < (s.length : Int)) = false := by simp; omega
  have HC := Lib.hid hC
  have HB := Lib.hid (Below.refl w.heap.size w)
  obtain ⟨ma, la, ga, DA⟩ := ringDraw s hs hb 0 (by omega) (by omega)
  obtain ⟨mb, lb, gb, DB⟩ := ringDraw s hs hb 2 (by omega) (by omega)
  obtain ⟨mc, lc, gc, DC⟩ := ringDraw s hs hb 4 (by omega) (by omega)
  have GA := Lib.hid ga
  have GB := Lib.hid gb
  have GC := Lib.hid gc
  have DA := Lib.hid DA
  have DB := Lib.hid DB
  have DC := Lib.hid DC
  clear ga gb gc hC
  have CT := Lib.hid (DA.out _ A c HC.out hc)
  go_wp2_with fail
  refine CT.out.mono ?_
  clear CT
  rintro e w1 ⟨Aa, ca, rfl, hn, hb⟩
  replace HC := Lib.hid (Kd.C_below HC.out hb)
  replace HB := Lib.hid (HB.out.trans (hb.mono HB.out.size))
  replace HC := Lib.hid (Kd.C_below HC.out (below_old _ (.cells #[.bool ma, .slice Aa la.length ca] 24)))
  replace HB := Lib.hid (HB.out.alloc HB.out.size (.cells #[.bool ma, .slice Aa la.length ca] 24))
  have Ba := Lib.hid (BigAt.new hn)
  clear hn hb
  have CT := Lib.hid (DB.out _ A c HC.out hc)
  go_wp2_with fail
  refine CT.out.mono ?_
  clear CT
  rintro e w2 ⟨Ab, cb, rfl, hn, hb⟩
  replace Ba := Lib.hid (Ba.out.below hb)
  replace HC := Lib.hid (Kd.C_below HC.out hb)
  replace HB := Lib.hid (HB.out.trans (hb.mono HB.out.size))
  replace Ba := Lib.hid (Ba.out.old (.cells #[.bool mb, .slice Ab lb.length cb] 24))
  replace HC := Lib.hid (Kd.C_below HC.out (below_old _ (.cells #[.bool mb, .slice Ab lb.length cb] 24)))
  replace HB := Lib.hid (HB.out.alloc HB.out.size (.cells #[.bool mb, .slice Ab lb.length cb] 24))
  have Bb := Lib.hid (BigAt.new hn)
  clear hn hb
  have CT := Lib.hid (DC.out _ A c HC.out hc)
  go_wp2_with fail
  refine CT.out.mono ?_
  clear CT
  rintro e w3 ⟨Ac, cc, rfl, hn, hb⟩
  replace Ba := Lib.hid (Ba.out.below hb)
  replace Bb := Lib.hid (Bb.out.below hb)
  replace HC := Lib.hid (Kd.C_below HC.out hb)
  replace HB := Lib.hid (HB.out.trans (hb.mono HB.out.size))
  replace Ba := Lib.hid (Ba.out.old (.cells #[.bool mc, .slice Ac lc.length cc] 24))
  replace Bb := Lib.hid (Bb.out.old (.cells #[.bool mc, .slice Ac lc.length cc] 24))
  replace HC := Lib.hid (Kd.C_below HC.out (below_old _ (.cells #[.bool mc, .slice Ac lc.length cc] 24)))
  replace HB := Lib.hid (HB.out.alloc HB.out.size (.cells #[.bool mc, .slice Ac lc.length cc] 24))
  have Bc := Lib.hid (BigAt.new hn)
  clear hn hb
  clear HC DA DB DC
  obtain ⟨rs, ms, ls, hrs⟩ : ∃ r m l, bgRes (big ma la + big mb lb) = (r, m, l) := ⟨_, _, _, rfl⟩
  have HRS := Lib.hid hrs
  clear hrs
  have za0 := Ba.out.c0
  have za1 := Ba.out.c1
  have zb0 := Bb.out.c0
  have zb1 := Bb.out.c1
  have CT := Lib.hid (ringAdd Ba.out.num Bb.out.num HRS.out)
  go_wp2_with fail
  refine CT.out.mono ?_
  clear CT
  clear za0 za1 zb0 zb1
  rintro e w4 ⟨As, cs, rfl, hn, hb⟩
  replace Ba := Lib.hid (Ba.out.below hb)
  replace Bb := Lib.hid (Bb.out.below hb)
  replace Bc := Lib.hid (Bc.out.below hb)
  replace HB := Lib.hid (HB.out.trans (hb.mono HB.out.size))
  replace Ba := Lib.hid (Ba.out.old (.cells #[.int .i64 rs, .bool ms, .slice As ls.length cs] 41))
  replace Bb := Lib.hid (Bb.out.old (.cells #[.int .i64 rs, .bool ms, .slice As ls.length cs] 41))
  replace Bc := Lib.hid (Bc.out.old (.cells #[.int .i64 rs, .bool ms, .slice As ls.length cs] 41))
  replace HB := Lib.hid (HB.out.alloc HB.out.size (.cells #[.int .i64 rs, .bool ms, .slice As ls.length cs] 41))
  have Bs := Lib.hid (ResAt.new rs hn)
  clear hn hb
  have zs0 := Bs.out.c0
  have zs1 := Bs.out.c1
  have zs2 := Bs.out.c2
  go_upto_if 29 with fail
  generalize (w4.alloc (.cells #[.int .i64 rs, .bool ms, .slice As ls.length cs] 41)) = W4 at *
  go_cut [7, 8, 9, 10] from 30 (fun _ _ _ _ wx => Hid (BigAt wx w1.heap.size ma Aa la ca ∧ BigAt wx w2.heap.size mb Ab lb cb ∧ Below w.heap.size w wx))
  case first =>
    clear zs0 zs1 zs2
    rcases res_cases (big ma la + big mb lb) with ⟨hov, hrs⟩ | ⟨hfit, ms, ls, hrs, gs, es, sgs, lis⟩
    rotate_left
    · obtain ⟨rfl, rfl, rfl⟩ : rs = 0 ∧ _ = ms ∧ _ = ls := by have h := HRS.out; rw [hrs] at h; injection h with h1 h2; injection h2 with h2 h3; exact ⟨h1.symm, h2.symm, h3.symm⟩
      have GS := Lib.hid gs
      have ES := Lib.hid es
      clear hrs gs es sgs lis hfit
      have HRK := Lib.hid (show bgRes (big ms ls - big mb lb) = (0, ma, la) by rw [ES.out, show big ma la + big mb lb - big mb lb = big ma la by omega]; exact bgRes_big GA.out)
      have zs0 := Bs.out.c0
      have zs1 := Bs.out.c1
      have zs2 := Bs.out.c2
      have zb0 := Bb.out.c0
      have zb1 := Bb.out.c1
      have CT := Lib.hid (ringSub Bs.out.num Bb.out.num HRK.out)
      go_wp2_with fail
      refine CT.out.mono ?_
      clear CT
      clear zs0 zs1 zs2 zb0 zb1
      rintro e w5 ⟨Ak, ck, rfl, hn, hb⟩
      replace Ba := Lib.hid (Ba.out.below hb)
      replace Bb := Lib.hid (Bb.out.below hb)
      replace Bc := Lib.hid (Bc.out.below hb)
      replace Bs := Lib.hid (Bs.out.below hb)
      replace HB := Lib.hid (HB.out.trans (hb.mono HB.out.size))
      replace Ba := Lib.hid (Ba.out.old (.cells #[.int .i64 0, .bool ma, .slice Ak la.length ck] 41))
      replace Bb := Lib.hid (Bb.out.old (.cells #[.int .i64 0, .bool ma, .slice Ak la.length ck] 41))
      replace Bc := Lib.hid (Bc.out.old (.cells #[.int .i64 0, .bool ma, .slice Ak la.length ck] 41))
      replace Bs := Lib.hid (Bs.out.old (.cells #[.int .i64 0, .bool ma, .slice Ak la.length ck] 41))
      replace HB := Lib.hid (HB.out.alloc HB.out.size (.cells #[.int .i64 0, .bool ma, .slice Ak la.length ck] 41))
      have Bk := Lib.hid (ResAt.new 0 hn)
      clear hn hb
      have HRC := Lib.hid (show bgRes (big mb lb + big ma la) = (0, ms, ls) by rw [Int.add_comm]; exact HRS.out)
      go_wp2_with fail
      have FLD := run_field1
      have zs0 := (Bs.out.below (Below.refl _ _).drew).c0
      have zs1 := (Bs.out.below (Below.refl _ _).drew).c1
      have zs2 := (Bs.out.below (Below.refl _ _).drew).c2
      have zk0 := (Bk.out.below (Below.refl _ _).drew).c0
      have zk1 := (Bk.out.below (Below.refl _ _).drew).c1
      have zk2 := (Bk.out.below (Below.refl _ _).drew).c2
      have za0 := (Ba.out.below (Below.refl _ _).drew).c0
      have za1 := (Ba.out.below (Below.refl _ _).drew).c1
      have zb0 := (Bb.out.below (Below.refl _ _).drew).c0
      have zb1 := (Bb.out.below (Below.refl _ _).drew).c1
      go_region_held3 (fun w' => w'.cell? ⟨w4.heap.size, 0, none⟩ = some (.int .i64 0) ∧ w'.cell? ⟨w4.heap.size, 1, none⟩ = some (.bool ms) ∧ w'.cell? ⟨w4.heap.size, 2, none⟩ = some (.slice As ls.length cs) ∧ w'.cell? ⟨w5.heap.size, 0, none⟩ = some (.int .i64 0) ∧ w'.cell? ⟨w5.heap.size, 1, none⟩ = some (.bool ma) ∧ w'.cell? ⟨w5.heap.size, 2, none⟩ = some (.slice Ak la.length ck) ∧ w'.cell? ⟨w1.heap.size, 0, none⟩ = some (.bool ma) ∧ w'.cell? ⟨w1.heap.size, 1, none⟩ = some (.slice Aa la.length ca) ∧ w'.cell? ⟨w2.heap.size, 0, none⟩ = some (.bool mb) ∧ w'.cell? ⟨w2.heap.size, 1, none⟩ = some (.slice Ab lb.length cb))
        (first | (with_reducible exact ⟨zs0, zs1, zs2, zk0, zk1, zk2, za0, za1, zb0, zb1⟩) | (with_reducible exact ⟨y0s0, y0s1, y0s2, y0k0, y0k1, y0k2, y0a0, y0a1, y0b0, y0b1⟩) | (with_reducible exact ⟨y1s0, y1s1, y1s2, y1k0, y1k1, y1k2, y1a0, y1a1, y1b0, y1b1⟩) | (with_reducible exact ⟨y2s0, y2s1, y2s2, y2k0, y2k1, y2k2, y2a0, y2a1, y2b0, y2b1⟩) | (with_reducible exact ⟨y3s0, y3s1, y3s2, y3k0, y3k1, y3k2, y3a0, y3a1, y3b0, y3b1⟩) | fail)
        (first | (go_at_call 46; replace Ba := Lib.hid (Ba.out.below (Below.refl _ _).drew); replace Bb := Lib.hid (Bb.out.below (Below.refl _ _).drew); replace Bc := Lib.hid (Bc.out.below (Below.refl _ _).drew); replace Bs := Lib.hid (Bs.out.below (Below.refl _ _).drew); replace Bk := Lib.hid (Bk.out.below (Below.refl _ _).drew); replace HB := Lib.hid HB.out.drew; have CT := ringFault Bs.out.num; (with_reducible refine CT.mono ?_); clear CT; rintro e w6 ⟨rfl, hb⟩; replace Ba := Lib.hid (Ba.out.below hb); replace Bb := Lib.hid (Bb.out.below hb); replace Bc := Lib.hid (Bc.out.below hb); replace Bs := Lib.hid (Bs.out.below hb); replace Bk := Lib.hid (Bk.out.below hb); replace HB := Lib.hid (HB.out.trans (hb.mono HB.out.size)); clear hb; have y0s0 := Bs.out.c0; have y0s1 := Bs.out.c1; have y0s2 := Bs.out.c2; have y0k0 := Bk.out.c0; have y0k1 := Bk.out.c1; have y0k2 := Bk.out.c2; have y0a0 := Ba.out.c0; have y0a1 := Ba.out.c1; have y0b0 := Bb.out.c0; have y0b1 := Bb.out.c1)
                          | (go_at_call 47; have CT := ringSame Bk.out.num Ba.out.num; (with_reducible refine CT.mono ?_); clear CT; rintro e w7 ⟨rfl, hb⟩; replace Ba := Lib.hid (Ba.out.below hb); replace Bb := Lib.hid (Bb.out.below hb); replace Bc := Lib.hid (Bc.out.below hb); replace Bs := Lib.hid (Bs.out.below hb); replace Bk := Lib.hid (Bk.out.below hb); replace HB := Lib.hid (HB.out.trans (hb.mono HB.out.size)); clear hb; have y1s0 := Bs.out.c0; have y1s1 := Bs.out.c1; have y1s2 := Bs.out.c2; have y1k0 := Bk.out.c0; have y1k1 := Bk.out.c1; have y1k2 := Bk.out.c2; have y1a0 := Ba.out.c0; have y1a1 := Ba.out.c1; have y1b0 := Bb.out.c0; have y1b1 := Bb.out.c1)
                          | (go_at_call 37; have CT := ringAdd Bb.out.num Ba.out.num HRC.out; (with_reducible refine CT.mono ?_); clear CT; rintro e w8 ⟨At, ct, rfl, hn, hb⟩; replace Ba := Lib.hid (Ba.out.below hb); replace Bb := Lib.hid (Bb.out.below hb); replace Bc := Lib.hid (Bc.out.below hb); replace Bs := Lib.hid (Bs.out.below hb); replace Bk := Lib.hid (Bk.out.below hb); replace HB := Lib.hid (HB.out.trans (hb.mono HB.out.size)); have Nt := Lib.hid hn; clear hb hn; have y2s0 := Bs.out.c0; have y2s1 := Bs.out.c1; have y2s2 := Bs.out.c2; have y2k0 := Bk.out.c0; have y2k1 := Bk.out.c1; have y2k2 := Bk.out.c2; have y2a0 := Ba.out.c0; have y2a1 := Ba.out.c1; have y2b0 := Bb.out.c0; have y2b1 := Bb.out.c1)
                          | (go_at_call 47; have CT := ringSame Nt.out Bs.out.num; (with_reducible refine CT.mono ?_); clear CT; rintro e w9 ⟨rfl, hb⟩; replace Ba := Lib.hid (Ba.out.below hb); replace Bb := Lib.hid (Bb.out.below hb); replace Bc := Lib.hid (Bc.out.below hb); replace Bs := Lib.hid (Bs.out.below hb); replace Bk := Lib.hid (Bk.out.below hb); replace Nt := Lib.hid (Nt.out.below hb); replace HB := Lib.hid (HB.out.trans (hb.mono HB.out.size)); clear hb; have y3s0 := Bs.out.c0; have y3s1 := Bs.out.c1; have y3s2 := Bs.out.c2; have y3k0 := Bk.out.c0; have y3k1 := Bk.out.c1; have y3k2 := Bk.out.c2; have y3a0 := Ba.out.c0; have y3a1 := Ba.out.c1; have y3b0 := Bb.out.c0; have y3b1 := Bb.out.c1))
      clear zs0 zs1 zs2 zk0 zk1 zk2 za0 za1 zb0 zb1 y0s0 y0s1 y0s2 y0k0 y0k1 y0k2 y0a0 y0a1 y0b0 y0b1 y1s0 y1s1 y1s2 y1k0 y1k1 y1k2 y1a0 y1a1 y1b0 y1b1 y2s0 y2s1 y2s2 y2k0 y2k1 y2k2 y2a0 y2a1 y2b0 y2b1 y3s0 y3s1 y3s2 y3k0 y3k1 y3k2 y3a0 y3a1 y3b0 y3b1 FLD
      obtain ⟨rx, mx, lx, hx⟩ : ∃ r m l, bgRes (big ms ls * big mc lc) = (r, m, l) := ⟨_, _, _, rfl⟩
      obtain ⟨ry, my, ly, hy⟩ : ∃ r m l, bgRes (big ma la * big mc lc) = (r, m, l) := ⟨_, _, _, rfl⟩
      obtain ⟨rz, mz, lz, hz⟩ : ∃ r m l, bgRes (big mb lb * big mc lc) = (r, m, l) := ⟨_, _, _, rfl⟩
      have HX := Lib.hid hx
      have HY := Lib.hid hy
      have HZ := Lib.hid hz
      clear hx hy hz
      have zs0 := Bs.out.c0
      have zs1 := Bs.out.c1
      have zs2 := Bs.out.c2
      have zc0 := Bc.out.c0
      have zc1 := Bc.out.c1
      have CT := Lib.hid (ringMul Bs.out.num Bc.out.num HX.out)
      go_wp2_with fail
      refine CT.out.mono ?_
      clear CT
      clear zs0 zs1 zs2 zc0 zc1
      rintro e w10 ⟨Ax, cx, rfl, hn, hb⟩
      replace Ba := Lib.hid (Ba.out.below hb)
      replace Bb := Lib.hid (Bb.out.below hb)
      replace Bc := Lib.hid (Bc.out.below hb)
      replace Bs := Lib.hid (Bs.out.below hb)
      replace HB := Lib.hid (HB.out.trans (hb.mono HB.out.size))
      replace Ba := Lib.hid (Ba.out.old (.cells #[.int .i64 rx, .bool mx, .slice Ax lx.length cx] 41))
      replace Bb := Lib.hid (Bb.out.old (.cells #[.int .i64 rx, .bool mx, .slice Ax lx.length cx] 41))
      replace Bc := Lib.hid (Bc.out.old (.cells #[.int .i64 rx, .bool mx, .slice Ax lx.length cx] 41))
      replace Bs := Lib.hid (Bs.out.old (.cells #[.int .i64 rx, .bool mx, .slice Ax lx.length cx] 41))
      replace HB := Lib.hid (HB.out.alloc HB.out.size (.cells #[.int .i64 rx, .bool mx, .slice Ax lx.length cx] 41))
      have Bx := Lib.hid (ResAt.new rx hn)
      clear hn hb
      have za0 := Ba.out.c0
      have za1 := Ba.out.c1
      have zc0 := Bc.out.c0
      have zc1 := Bc.out.c1
      have CT := Lib.hid (ringMul Ba.out.num Bc.out.num HY.out)
      go_wp2_with fail
      refine CT.out.mono ?_
      clear CT
      clear za0 za1 zc0 zc1
      rintro e w11 ⟨Ay, cy, rfl, hn, hb⟩
      replace Ba := Lib.hid (Ba.out.below hb)
      replace Bb := Lib.hid (Bb.out.below hb)
      replace Bc := Lib.hid (Bc.out.below hb)
      replace Bx := Lib.hid (Bx.out.below hb)
      replace HB := Lib.hid (HB.out.trans (hb.mono HB.out.size))
      replace Ba := Lib.hid (Ba.out.old (.cells #[.int .i64 ry, .bool my, .slice Ay ly.length cy] 41))
      replace Bb := Lib.hid (Bb.out.old (.cells #[.int .i64 ry, .bool my, .slice Ay ly.length cy] 41))
      replace Bc := Lib.hid (Bc.out.old (.cells #[.int .i64 ry, .bool my, .slice Ay ly.length cy] 41))
      replace Bx := Lib.hid (Bx.out.old (.cells #[.int .i64 ry, .bool my, .slice Ay ly.length cy] 41))
      replace HB := Lib.hid (HB.out.alloc HB.out.size (.cells #[.int .i64 ry, .bool my, .slice Ay ly.length cy] 41))
      have By := Lib.hid (ResAt.new ry hn)
      clear hn hb
      have zb0 := Bb.out.c0
      have zb1 := Bb.out.c1
      have zc0 := Bc.out.c0
      have zc1 := Bc.out.c1
      have CT := Lib.hid (ringMul Bb.out.num Bc.out.num HZ.out)
      go_wp2_with fail
      refine CT.out.mono ?_
      clear CT
      clear zb0 zb1 zc0 zc1
      rintro e w12 ⟨Az, cz, rfl, hn, hb⟩
      replace Ba := Lib.hid (Ba.out.below hb)
      replace Bb := Lib.hid (Bb.out.below hb)
      replace Bc := Lib.hid (Bc.out.below hb)
      replace Bx := Lib.hid (Bx.out.below hb)
      replace By := Lib.hid (By.out.below hb)
      replace HB := Lib.hid (HB.out.trans (hb.mono HB.out.size))
      replace Ba := Lib.hid (Ba.out.old (.cells #[.int .i64 rz, .bool mz, .slice Az lz.length cz] 41))
      replace Bb := Lib.hid (Bb.out.old (.cells #[.int .i64 rz, .bool mz, .slice Az lz.length cz] 41))
      replace Bc := Lib.hid (Bc.out.old (.cells #[.int .i64 rz, .bool mz, .slice Az lz.length cz] 41))
      replace Bx := Lib.hid (Bx.out.old (.cells #[.int .i64 rz, .bool mz, .slice Az lz.length cz] 41))
      replace By := Lib.hid (By.out.old (.cells #[.int .i64 rz, .bool mz, .slice Az lz.length cz] 41))
      replace HB := Lib.hid (HB.out.alloc HB.out.size (.cells #[.int .i64 rz, .bool mz, .slice Az lz.length cz] 41))
      have Bz := Lib.hid (ResAt.new rz hn)
      clear hn hb
      have zx0 := Bx.out.c0
      have zx1 := Bx.out.c1
      have zx2 := Bx.out.c2
      have zy0 := By.out.c0
      have zy1 := By.out.c1
      have zy2 := By.out.c2
      have zz0 := Bz.out.c0
      have zz1 := Bz.out.c1
      have zz2 := Bz.out.c2
      go_upto_region 14 with fail
      generalize (w12.alloc (.cells #[.int .i64 rz, .bool mz, .slice Az lz.length cz] 41)) = W14 at *
      clear zx0 zx1 zx2 zy0 zy1 zy2 zz0 zz1 zz2
      rcases res_cases (big ms ls * big mc lc) with ⟨hox, hx⟩ | ⟨hfx, mx', lx', hx, gx, ex, sgx, lix⟩
      · obtain ⟨rfl, rfl, rfl⟩ : rx = 2 ∧ mx = false ∧ lx = [] := by have h := HX.out; rw [hx] at h; injection h with h1 h2; injection h2 with h2 h3; exact ⟨h1.symm, h2.symm, h3.symm⟩
        clear hox hx
        have zx0 := fun d os => cell_regrown Bx.out.c0 d os
        have zx1 := fun d os => cell_regrown Bx.out.c1 d os
        have zx2 := fun d os => cell_regrown Bx.out.c2 d os
        have zy0 := fun d os => cell_regrown By.out.c0 d os
        have zy1 := fun d os => cell_regrown By.out.c1 d os
        have zy2 := fun d os => cell_regrown By.out.c2 d os
        have zz0 := fun d os => cell_regrown Bz.out.c0 d os
        have zz1 := fun d os => cell_regrown Bz.out.c1 d os
        have zz2 := fun d os => cell_regrown Bz.out.c2 d os
        refine wp_region_quiet_below (by kernel_rfl) (by kernel_rfl) ?_
        repeat (first | go_big_quiet_skip | quiet_step (fail))
        refine wpQuiet_nil ?_
        intro _ hw'
        obtain ⟨⟨dq, osq⟩, hw''⟩ := hw'
        subst hw''
        have hbq := below_regrown W14 dq osq
        clear zx0 zx1 zx2 zy0 zy1 zy2 zz0 zz1 zz2
        replace Ba := Lib.hid (Ba.out.below hbq)
        replace Bb := Lib.hid (Bb.out.below hbq)
        replace Bx := Lib.hid (Bx.out.below hbq)
        replace By := Lib.hid (By.out.below hbq)
        replace Bz := Lib.hid (Bz.out.below hbq)
        replace HB := Lib.hid (HB.out.trans (hbq.mono HB.out.size))
        clear hbq
        generalize Go.Sort.grow (redrawn W14 dq) osq = wq at *
        go_wp2_with fail
        go_meet
        exact Lib.hid ⟨Ba.out, Bb.out, HB.out⟩
      · obtain ⟨rfl, rfl, rfl⟩ : rx = 0 ∧ mx = mx' ∧ lx = lx' := by have h := HX.out; rw [hx] at h; injection h with h1 h2; injection h2 with h2 h3; exact ⟨h1.symm, h2.symm, h3.symm⟩
        have Ex := Lib.hid ex
        clear hfx hx gx ex sgx lix
        rcases res_cases (big ma la * big mc lc) with ⟨hoy, hy⟩ | ⟨hfy, my', ly', hy, gy, ey, sgy, liy⟩
        · obtain ⟨rfl, rfl, rfl⟩ : ry = 2 ∧ my = false ∧ ly = [] := by have h := HY.out; rw [hy] at h; injection h with h1 h2; injection h2 with h2 h3; exact ⟨h1.symm, h2.symm, h3.symm⟩
          clear hoy hy
          have zx0 := fun d os => cell_regrown Bx.out.c0 d os
          have zx1 := fun d os => cell_regrown Bx.out.c1 d os
          have zx2 := fun d os => cell_regrown Bx.out.c2 d os
          have zy0 := fun d os => cell_regrown By.out.c0 d os
          have zy1 := fun d os => cell_regrown By.out.c1 d os
          have zy2 := fun d os => cell_regrown By.out.c2 d os
          have zz0 := fun d os => cell_regrown Bz.out.c0 d os
          have zz1 := fun d os => cell_regrown Bz.out.c1 d os
          have zz2 := fun d os => cell_regrown Bz.out.c2 d os
          refine wp_region_quiet_below (by kernel_rfl) (by kernel_rfl) ?_
          repeat (first | go_big_quiet_skip | quiet_step (fail))
          refine wpQuiet_nil ?_
          intro _ hw'
          obtain ⟨⟨dq, osq⟩, hw''⟩ := hw'
          subst hw''
          have hbq := below_regrown W14 dq osq
          clear zx0 zx1 zx2 zy0 zy1 zy2 zz0 zz1 zz2
          replace Ba := Lib.hid (Ba.out.below hbq)
          replace Bb := Lib.hid (Bb.out.below hbq)
          replace Bx := Lib.hid (Bx.out.below hbq)
          replace By := Lib.hid (By.out.below hbq)
          replace Bz := Lib.hid (Bz.out.below hbq)
          replace HB := Lib.hid (HB.out.trans (hbq.mono HB.out.size))
          clear hbq
          generalize Go.Sort.grow (redrawn W14 dq) osq = wq at *
          go_wp2_with fail
          go_meet
          exact Lib.hid ⟨Ba.out, Bb.out, HB.out⟩
        · obtain ⟨rfl, rfl, rfl⟩ : ry = 0 ∧ my = my' ∧ ly = ly' := by have h := HY.out; rw [hy] at h; injection h with h1 h2; injection h2 with h2 h3; exact ⟨h1.symm, h2.symm, h3.symm⟩
          have Ey := Lib.hid ey
          clear hfy hy gy ey sgy liy
          rcases res_cases (big mb lb * big mc lc) with ⟨hoz, hz⟩ | ⟨hfz, mz', lz', hz, gz, ez, sgz, liz⟩
          · obtain ⟨rfl, rfl, rfl⟩ : rz = 2 ∧ mz = false ∧ lz = [] := by have h := HZ.out; rw [hz] at h; injection h with h1 h2; injection h2 with h2 h3; exact ⟨h1.symm, h2.symm, h3.symm⟩
            clear hoz hz
            have zx0 := fun d os => cell_regrown Bx.out.c0 d os
            have zx1 := fun d os => cell_regrown Bx.out.c1 d os
            have zx2 := fun d os => cell_regrown Bx.out.c2 d os
            have zy0 := fun d os => cell_regrown By.out.c0 d os
            have zy1 := fun d os => cell_regrown By.out.c1 d os
            have zy2 := fun d os => cell_regrown By.out.c2 d os
            have zz0 := fun d os => cell_regrown Bz.out.c0 d os
            have zz1 := fun d os => cell_regrown Bz.out.c1 d os
            have zz2 := fun d os => cell_regrown Bz.out.c2 d os
            refine wp_region_quiet_below (by kernel_rfl) (by kernel_rfl) ?_
            repeat (first | go_big_quiet_skip | quiet_step (fail))
            refine wpQuiet_nil ?_
            intro _ hw'
            obtain ⟨⟨dq, osq⟩, hw''⟩ := hw'
            subst hw''
            have hbq := below_regrown W14 dq osq
            clear zx0 zx1 zx2 zy0 zy1 zy2 zz0 zz1 zz2
            replace Ba := Lib.hid (Ba.out.below hbq)
            replace Bb := Lib.hid (Bb.out.below hbq)
            replace Bx := Lib.hid (Bx.out.below hbq)
            replace By := Lib.hid (By.out.below hbq)
            replace Bz := Lib.hid (Bz.out.below hbq)
            replace HB := Lib.hid (HB.out.trans (hbq.mono HB.out.size))
            clear hbq
            generalize Go.Sort.grow (redrawn W14 dq) osq = wq at *
            go_wp2_with fail
            go_meet
            exact Lib.hid ⟨Ba.out, Bb.out, HB.out⟩
          · obtain ⟨rfl, rfl, rfl⟩ : rz = 0 ∧ mz = mz' ∧ lz = lz' := by have h := HZ.out; rw [hz] at h; injection h with h1 h2; injection h2 with h2 h3; exact ⟨h1.symm, h2.symm, h3.symm⟩
            have Ez := Lib.hid ez
            clear hfz hz gz ez sgz liz
            have HT := Lib.hid (show bgRes (big my ly + big mz lz) = (0, mx, lx) by rw [Ey.out, Ez.out, ← Int.add_mul, ← ES.out]; exact HX.out)
            have FLD := run_field1
            have zx0 := (Bx.out.below (Below.refl _ _).drew).c0
            have zx1 := (Bx.out.below (Below.refl _ _).drew).c1
            have zx2 := (Bx.out.below (Below.refl _ _).drew).c2
            have zy0 := (By.out.below (Below.refl _ _).drew).c0
            have zy1 := (By.out.below (Below.refl _ _).drew).c1
            have zy2 := (By.out.below (Below.refl _ _).drew).c2
            have zz0 := (Bz.out.below (Below.refl _ _).drew).c0
            have zz1 := (Bz.out.below (Below.refl _ _).drew).c1
            have zz2 := (Bz.out.below (Below.refl _ _).drew).c2
            go_region_held3 (fun w' => w'.cell? ⟨w10.heap.size, 0, none⟩ = some (.int .i64 0) ∧ w'.cell? ⟨w10.heap.size, 1, none⟩ = some (.bool mx) ∧ w'.cell? ⟨w10.heap.size, 2, none⟩ = some (.slice Ax lx.length cx) ∧ w'.cell? ⟨w11.heap.size, 0, none⟩ = some (.int .i64 0) ∧ w'.cell? ⟨w11.heap.size, 1, none⟩ = some (.bool my) ∧ w'.cell? ⟨w11.heap.size, 2, none⟩ = some (.slice Ay ly.length cy) ∧ w'.cell? ⟨w12.heap.size, 0, none⟩ = some (.int .i64 0) ∧ w'.cell? ⟨w12.heap.size, 1, none⟩ = some (.bool mz) ∧ w'.cell? ⟨w12.heap.size, 2, none⟩ = some (.slice Az lz.length cz))
              (first | (with_reducible exact ⟨zx0, zx1, zx2, zy0, zy1, zy2, zz0, zz1, zz2⟩) | (with_reducible exact ⟨y0x0, y0x1, y0x2, y0y0, y0y1, y0y2, y0z0, y0z1, y0z2⟩) | (with_reducible exact ⟨y1x0, y1x1, y1x2, y1y0, y1y1, y1y2, y1z0, y1z1, y1z2⟩) | fail)
              (first | (go_at_call 37; replace Ba := Lib.hid (Ba.out.below (Below.refl _ _).drew); replace Bb := Lib.hid (Bb.out.below (Below.refl _ _).drew); replace Bx := Lib.hid (Bx.out.below (Below.refl _ _).drew); replace By := Lib.hid (By.out.below (Below.refl _ _).drew); replace Bz := Lib.hid (Bz.out.below (Below.refl _ _).drew); replace HB := Lib.hid HB.out.drew; have CT := ringAdd By.out.num Bz.out.num HT.out; (with_reducible refine CT.mono ?_); clear CT; rintro e w13 ⟨At, ct, rfl, hn, hb⟩; replace Ba := Lib.hid (Ba.out.below hb); replace Bb := Lib.hid (Bb.out.below hb); replace Bx := Lib.hid (Bx.out.below hb); replace By := Lib.hid (By.out.below hb); replace Bz := Lib.hid (Bz.out.below hb); replace HB := Lib.hid (HB.out.trans (hb.mono HB.out.size)); have Nt := Lib.hid hn; clear hb hn; have y0x0 := Bx.out.c0; have y0x1 := Bx.out.c1; have y0x2 := Bx.out.c2; have y0y0 := By.out.c0; have y0y1 := By.out.c1; have y0y2 := By.out.c2; have y0z0 := Bz.out.c0; have y0z1 := Bz.out.c1; have y0z2 := Bz.out.c2)
                                | (go_at_call 47; have CT := ringSame Nt.out Bx.out.num; (with_reducible refine CT.mono ?_); clear CT; rintro e w14 ⟨rfl, hb⟩; replace Ba := Lib.hid (Ba.out.below hb); replace Bb := Lib.hid (Bb.out.below hb); replace Bx := Lib.hid (Bx.out.below hb); replace By := Lib.hid (By.out.below hb); replace Bz := Lib.hid (Bz.out.below hb); replace Nt := Lib.hid (Nt.out.below hb); replace HB := Lib.hid (HB.out.trans (hb.mono HB.out.size)); clear hb; have y1x0 := Bx.out.c0; have y1x1 := Bx.out.c1; have y1x2 := Bx.out.c2; have y1y0 := By.out.c0; have y1y1 := By.out.c1; have y1y2 := By.out.c2; have y1z0 := Bz.out.c0; have y1z1 := Bz.out.c1; have y1z2 := Bz.out.c2))
            go_wp2_with fail
            go_meet
            exact Lib.hid ⟨Ba.out, Bb.out, HB.out⟩
    · obtain ⟨rfl, rfl, rfl⟩ : rs = 2 ∧ ms = false ∧ ls = [] := by have h := HRS.out; rw [hrs] at h; injection h with h1 h2; injection h2 with h2 h3; exact ⟨h1.symm, h2.symm, h3.symm⟩
      have hno := add_over GA.out GB.out hov
      clear hov hrs
      have zs0 := Bs.out.c0
      have zs1 := Bs.out.c1
      have zs2 := Bs.out.c2
      have za0 := Ba.out.c0
      have za1 := Ba.out.c1
      have zb0 := Bb.out.c0
      have zb1 := Bb.out.c1
      by_cases h1 : la.length < 40
      · have d1 : decide ((la.length : Int) < 40) = true := by simp; omega
        have d2 : decide ((lb.length : Int) < 40) = false := by simp; omega
        go_wp2_with fail
        go_meet
        exact Lib.hid ⟨Ba.out, Bb.out, HB.out⟩
      · have d1 : decide ((la.length : Int) < 40) = false := by simp; omega
        go_wp2_with fail
        go_meet
        exact Lib.hid ⟨Ba.out, Bb.out, HB.out⟩
  case rest =>
    obtain ⟨hba, hbb, hbx⟩ := hcut.out
    clear hcut
    clear Ba Bb HB Bc Bs HRS
    have Ba := Lib.hid hba
    have Bb := Lib.hid hbb
    have HB := Lib.hid hbx
    clear hba hbb hbx
    obtain ⟨rd, md, ld, hd⟩ : ∃ r m l, bgRes (big ma la - big mb lb) = (r, m, l) := ⟨_, _, _, rfl⟩
    have HD := Lib.hid hd
    clear hd
    have za0 := Ba.out.c0
    have za1 := Ba.out.c1
    have zb0 := Bb.out.c0
    have zb1 := Bb.out.c1
    have CT := Lib.hid (ringSub Ba.out.num Bb.out.num HD.out)
    go_wp2_with fail
    refine CT.out.mono ?_
    clear CT
    clear za0 za1 zb0 zb1
    rintro e w13 ⟨Ad, cd, rfl, hn, hb⟩
    replace Ba := Lib.hid (Ba.out.below hb)
    replace Bb := Lib.hid (Bb.out.below hb)
    replace HB := Lib.hid (HB.out.trans (hb.mono HB.out.size))
    replace Ba := Lib.hid (Ba.out.old (.cells #[.int .i64 rd, .bool md, .slice Ad ld.length cd] 41))
    replace Bb := Lib.hid (Bb.out.old (.cells #[.int .i64 rd, .bool md, .slice Ad ld.length cd] 41))
    replace HB := Lib.hid (HB.out.alloc HB.out.size (.cells #[.int .i64 rd, .bool md, .slice Ad ld.length cd] 41))
    have Bd := Lib.hid (ResAt.new rd hn)
    clear hn hb
    obtain ⟨cc, hcc⟩ : ∃ cc, cmpI (big ma la) (big mb lb) = cc := ⟨_, rfl⟩
    have za0 := Ba.out.c0
    have za1 := Ba.out.c1
    have zb0 := Bb.out.c0
    have zb1 := Bb.out.c1
    have CT := ringCmp Ba.out.num Bb.out.num
    rw [hcc] at CT
    replace CT := Lib.hid CT
    have HCC := Lib.hid hcc
    clear hcc
    go_wp2_with fail
    refine CT.out.mono ?_
    clear CT
    clear za0 za1 zb0 zb1
    rintro e wd ⟨rfl, hb⟩
    replace Ba := Lib.hid (Ba.out.below hb)
    replace Bb := Lib.hid (Bb.out.below hb)
    replace Bd := Lib.hid (Bd.out.below hb)
    replace HB := Lib.hid (HB.out.trans (hb.mono HB.out.size))
    clear hb
    have za0 := Ba.out.c0
    have za1 := Ba.out.c1
    have zb0 := Bb.out.c0
    have zb1 := Bb.out.c1
    have zd0 := Bd.out.c0
    have zd1 := Bd.out.c1
    have zd2 := Bd.out.c2
    go_upto_region 20 with fail
    go_cut [143] from 115 (fun v wx => v = .bool false ∧ Hid (BigAt wx w1.heap.size ma Aa la ca ∧ BigAt wx w2.heap.size mb Ab lb cb ∧ Below w.heap.size w wx))
    case first =>
      rcases res_cases (big ma la - big mb lb) with ⟨hod, hd⟩ | ⟨hfd, md', ld', hd, gd, ed, sgd, lid⟩
      · obtain ⟨rfl, rfl, rfl⟩ : rd = 2 ∧ md = false ∧ ld = [] := by have h := HD.out; rw [hd] at h; injection h with h1 h2; injection h2 with h2 h3; exact ⟨h1.symm, h2.symm, h3.symm⟩
        clear hod hd
        go_wp2_with fail
        go_meet
        exact ⟨rfl, Lib.hid ⟨Ba.out, Bb.out, HB.out⟩⟩
      · obtain ⟨rfl, rfl, rfl⟩ : rd = 0 ∧ md = md' ∧ ld = ld' := by have h := HD.out; rw [hd] at h; injection h with h1 h2; injection h2 with h2 h3; exact ⟨h1.symm, h2.symm, h3.symm⟩
        have SD := Lib.hid ((show decide (cc < 0) = decide (cmpI (big ma la) (big mb lb) < 0) by rw [HCC.out]).trans (sub_sign (x := big ma la) (y := big mb lb)))
        have SN := Lib.hid (sub_nil (x := big ma la) (y := big mb lb))
        have SG := Lib.hid sgd
        have LI := Lib.hid lid
        have CR := cmpI_range (big ma la) (big mb lb)
        rw [HCC.out] at CR
        have CT := ringCmp Bb.out.num Ba.out.num
        rw [cmpI_flip, HCC.out] at CT
        replace CT := Lib.hid CT
        have HL : Hid (cc = 0 ↔ ld.length = 0) := by show _ ↔ _; rw [LI.out, ← SN.out, HCC.out]
        have HM : Hid (decide (cc < 0) = md) := by show _ = _; rw [SD.out, SG.out]
        clear hfd hd gd ed sgd lid
        obtain h1 | h1 | h1 : cc = -1 ∨ cc = 0 ∨ cc = 1 := by omega
        · subst h1
          have hm : md = true := by rw [← HM.out]; rfl
          subst hm
          have hl : ((ld.length : Int) == 0) = false := by have := HL.out; simp at this ⊢; exact this
          go_wp2_with fail
          refine CT.out.mono ?_
          clear CT
          rintro e we ⟨rfl, hb⟩
          replace Ba := Lib.hid (Ba.out.below hb)
          replace Bb := Lib.hid (Bb.out.below hb)
          replace HB := Lib.hid (HB.out.trans (hb.mono HB.out.size))
          go_wp2_with fail
          go_meet
          exact ⟨rfl, Lib.hid ⟨Ba.out, Bb.out, HB.out⟩⟩
        · subst h1
          have hm : md = false := by rw [← HM.out]; rfl
          subst hm
          have hl : ((ld.length : Int) == 0) = true := by have := HL.out; simp at this ⊢; exact this
          go_wp2_with fail
          refine CT.out.mono ?_
          clear CT
          rintro e we ⟨rfl, hb⟩
          replace Ba := Lib.hid (Ba.out.below hb)
          replace Bb := Lib.hid (Bb.out.below hb)
          replace HB := Lib.hid (HB.out.trans (hb.mono HB.out.size))
          go_wp2_with fail
          go_meet
          exact ⟨rfl, Lib.hid ⟨Ba.out, Bb.out, HB.out⟩⟩
        · subst h1
          have hm : md = false := by rw [← HM.out]; rfl
          subst hm
          have hl : ((ld.length : Int) == 0) = false := by have := HL.out; simp at this ⊢; exact this
          go_wp2_with fail
          refine CT.out.mono ?_
          clear CT
          rintro e we ⟨rfl, hb⟩
          replace Ba := Lib.hid (Ba.out.below hb)
          replace Bb := Lib.hid (Bb.out.below hb)
          replace HB := Lib.hid (HB.out.trans (hb.mono HB.out.size))
          go_wp2_with fail
          go_meet
          exact ⟨rfl, Lib.hid ⟨Ba.out, Bb.out, HB.out⟩⟩
    case rest =>
      obtain ⟨rfl, hcut⟩ := hcut
      obtain ⟨hba, hbb, hbx⟩ := hcut.out
      clear hcut
      clear Ba Bb HB Bd HD HCC za0 za1 zb0 zb1 zd0 zd1 zd2
      have Ba := Lib.hid hba
      have Bb := Lib.hid hbb
      have HB := Lib.hid hbx
      clear hba hbb hbx
      obtain ⟨rp, mp, lp, hp⟩ : ∃ r m l, bgRes (big ma la * big mb lb) = (r, m, l) := ⟨_, _, _, rfl⟩
      have HP := Lib.hid hp
      clear hp
      have za0 := Ba.out.c0
      have za1 := Ba.out.c1
      have zb0 := Bb.out.c0
      have zb1 := Bb.out.c1
      have CT := Lib.hid (ringMul Ba.out.num Bb.out.num HP.out)
      go_wp2_with fail
      refine CT.out.mono ?_
      clear CT
      clear za0 za1 zb0 zb1
      rintro e w14 ⟨Ap, cp, rfl, hn, hb⟩
      replace Ba := Lib.hid (Ba.out.below hb)
      replace Bb := Lib.hid (Bb.out.below hb)
      replace HB := Lib.hid (HB.out.trans (hb.mono HB.out.size))
      replace Ba := Lib.hid (Ba.out.old (.cells #[.int .i64 rp, .bool mp, .slice Ap lp.length cp] 41))
      replace Bb := Lib.hid (Bb.out.old (.cells #[.int .i64 rp, .bool mp, .slice Ap lp.length cp] 41))
      replace HB := Lib.hid (HB.out.alloc HB.out.size (.cells #[.int .i64 rp, .bool mp, .slice Ap lp.length cp] 41))
      have Bp := Lib.hid (ResAt.new rp hn)
      clear hn hb
      have za0 := Ba.out.c0
      have za1 := Ba.out.c1
      have zb0 := Bb.out.c0
      have zb1 := Bb.out.c1
      have zp0 := Bp.out.c0
      have zp1 := Bp.out.c1
      have zp2 := Bp.out.c2
      have ha40 := GA.out.len
      have hb40 := GB.out.len
      go_upto_region 24 with fail
      generalize (w14.alloc (.cells #[.int .i64 rp, .bool mp, .slice Ap lp.length cp] 41)) = W24 at *
      rcases res_cases (big ma la * big mb lb) with ⟨hop, hp⟩ | ⟨hfp, mp', lp', hp, gp, ep, sgp, lip⟩
      · obtain ⟨rfl, rfl, rfl⟩ : rp = 2 ∧ mp = false ∧ lp = [] := by have h := HP.out; rw [hp] at h; injection h with h1 h2; injection h2 with h2 h3; exact ⟨h1.symm, h2.symm, h3.symm⟩
        have hn : decide ((40 : Int) < (la.length : Int) + (lb.length : Int)) = true := by have := mul_len GA.out GB.out; simp; omega
        clear hop hp
        go_wp2_with fail
        go_ret
        exact ⟨rfl, HB.out⟩
      · obtain ⟨rfl, rfl, rfl⟩ : rp = 0 ∧ mp = mp' ∧ lp = lp' := by have h := HP.out; rw [hp] at h; injection h with h1 h2; injection h2 with h2 h3; exact ⟨h1.symm, h2.symm, h3.symm⟩
        have h1 := mul_len GA.out GB.out
        have h2 := mul_len_ge GA.out GB.out
        have h3 := mul_nil GA.out GB.out
        rw [← lip] at h1 h2 h3
        clear hfp hp gp ep sgp lip
        have d1 : decide ((lp.length : Int) ≤ (la.length : Int) + (lb.length : Int)) = true := by simp; omega
        obtain ⟨b2, e2⟩ : ∃ b, decide ((la.length : Int) + (lb.length : Int) - 1 ≤ (lp.length : Int)) = b := ⟨_, rfl⟩
        obtain ⟨b3, e3⟩ : ∃ b, (((la.length : Int) + (lb.length : Int)) == 0) = b := ⟨_, rfl⟩
        obtain ⟨b4, e4⟩ : ∃ b, ((la.length : Int) == 0) = b := ⟨_, rfl⟩
        obtain ⟨b5, e5⟩ : ∃ b, ((lb.length : Int) == 0) = b := ⟨_, rfl⟩
        obtain ⟨b6, e6⟩ : ∃ b, ((lp.length : Int) == 0) = b := ⟨_, rfl⟩
        have f4 : b4 = true ↔ la.length = 0 := by rw [← e4]; simp
        have f5 : b5 = true ↔ lb.length = 0 := by rw [← e5]; simp
        have f6 : b6 = true ↔ lp.length = 0 := by rw [← e6]; simp
        have f2 : b2 = true ↔ ((la.length : Int) + (lb.length : Int) - 1 ≤ (lp.length : Int)) := by rw [← e2]; simp
        have HF : (b2 || b4 || b5) = true := by
          by_cases za : la.length = 0
          · rw [f4.2 za]; simp
          · by_cases zb : lb.length = 0
            · rw [f5.2 zb]; simp
            · rw [f2.2 (by have := h2 za zb; omega)]; simp
        have HG : (b6 == (b4 || b5)) = true := by
          have : b6 = true ↔ (b4 || b5) = true := by rw [f6, h3, Bool.or_eq_true, f4, f5]
          cases b6 <;> cases h : (b4 || b5) <;> simp_all
        clear h1 h2 h3 f2 f4 f5 f6
        cases b2 <;> cases b3 <;> cases b4 <;> cases b5 <;> cases b6 <;> first
          | (exfalso; simp at HF; done)
          | (exfalso; simp at HG; done)
          | (go_wp2_with fail; go_ret; exact ⟨rfl, HB.out⟩)

end Go.Proofs.Ytajmeeppigdjnaa
