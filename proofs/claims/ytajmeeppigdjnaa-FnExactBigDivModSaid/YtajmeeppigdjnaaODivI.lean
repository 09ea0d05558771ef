/- The program's division, walked: by one limb in place, by more limbs bit by bit; no condition. -/
import Derived.Test.YtajmeeppigdjnaaODiv
import Derived.Test.YtajmeeppigdjnaaPuSD
namespace Go.Proofs.Ytajmeeppigdjnaa
open Go.RowKit Go.Proofs.Ytajmeeppigdjnaa.Own Go.Proofs.YtajmeeppigdjnaaW.PrintWords Go.Proofs.YtajmeeppigdjnaaW.PrintMore Go.Proofs.Ytajmeeppigdjnaa.PFnExactBigAdd
set_option linter.unusedVariables false
set_option linter.unusedSimpArgs false

/-- What holds between two steps of the program's division. -/
structure DivI (w wr : World) (Q : Nat) (R : List Int) (L : Nat) (o : List Int) (rv : Value) : Prop where
  row : QRow wr w.heap.size o
  len : o.length = L
  us : Us o
  quo : val o = (Q : Int)
  rem : RemAt wr w.heap.size w.heap.size rv R
  bel : Below w.heap.size w wr
section
variable {w wr wx : World} {Q Q' L : Nat} {R R' o : List Int} {rv v : Value}
theorem DivI.sz (h : DivI w wr Q R L o rv) : w.heap.size < wr.heap.size := (Array.getElem?_eq_some_iff.1 h.row).1
theorem DivI.below (h : DivI w wr Q R L o rv) (hb : Below wr.heap.size wr wx) : DivI w wx Q R L o rv :=
  ⟨h.row.below hb, h.len, h.us, h.quo, h.rem.below hb, h.bel.trans (hb.mono h.bel.size)⟩
theorem DivI.withRem (h : DivI w wr Q R L o rv) (h2 : RemAt wr w.heap.size w.heap.size v R') : DivI w wr Q R' L o v := ⟨h.row, h.len, h.us, h.quo, h2, h.bel⟩
theorem DivI.setBit (h : DivI w wr Q R L o rv) {j : Nat} {x : Int} (hx0 : 0 ≤ x) (hx1 : x < 4294967296) (hv : val (o.set j x) = (Q' : Int)) : DivI w (wr.setCell ⟨w.heap.size, j, none⟩ (.int .u32 x)) Q' R L (o.set j x) rv :=
  ⟨h.row.set j x, by rw [List.length_set]; exact h.len, h.us.set j hx0 hx1, hv, h.rem.put, h.bel.setCell (by simp) _⟩
theorem DivI.newRem (h : DivI w wr Q R L o rv) {w1 : World} (hb : Below wr.heap.size wr w1) (hr : Kd.R (Kd.int .u32) 62 w1 wr.heap.size (fun _ => True) v R') : RemAt w1 w.heap.size w.heap.size v R' :=
  RemAt.of hr h.bel.size h.sz
end
/-- A limb of the remainder is stored anew. -/
theorem DivI.put {w wr : World} {Q L g n cap : Nat} {R o : List Int} (h : DivI w wr Q R L o (.slice (some ⟨g, 0, none⟩) n cap)) (k : Nat) (x : Int) : DivI w (wr.setCell ⟨g, k, none⟩ (.int .u32 x)) Q (R.set k x) L o (.slice (some ⟨g, 0, none⟩) n cap) := by
  have hg : g ≠ w.heap.size := by
    obtain ⟨ho, _⟩ := h.rem
    exact ho g (by simp [Value.ownBlock])
  have hB : w.heap.size ≤ g := by
    obtain ⟨_, _, ho, _⟩ := h.rem
    exact (ownsRow_block ho (by simp [Value.ownBlock])).1
  have hp := Kd.R_putn (enc := Value.int .u32) (h1 := fun _ => rfl) h.rem (k : Int) x
  rw [Int.toNat_natCast] at hp
  exact ⟨h.row.other (fun e => hg e.symm), h.len, h.us, h.quo, hp, h.bel.setCell (by simpa using hB) _⟩
theorem DivI.cell {w wr : World} {Q L g n cap : Nat} {R o : List Int} (h : DivI w wr Q R L o (.slice (some ⟨g, 0, none⟩) n cap)) {k : Nat} (hk : k < R.length) : wr.cell? ⟨g, k, none⟩ = some (.int .u32 (lmb R k)) ∧ wr.frozen? ⟨g, k, none⟩ = false := by
  have hn := (Kd.R_reads' h.rem).1
  have hc := Kd.R_celln (enc := Value.int .u32) (h1 := fun _ => rfl) (0 : Int) h.rem (k : Int) (by omega) (by omega)
  rw [Int.toNat_natCast] at hc
  exact hc

theorem row_one (W : World) (x : Int) : Kd.C (Kd.int .u32) (W.alloc (.cells #[.int .u32 x] 62)) (some ⟨W.heap.size, 0, none⟩) ([x] : List Int).length [x] :=
  (Kd.R_reads' (QRow.R (B := 0) (o := [x]) (blk_new W (.cells #[.int .u32 x] 62)) (Nat.zero_le _) (show (1 : Nat) ≤ maxLen by decide))).2.2
theorem take_lim {l : List Int} (hu : Us l) : l.take (lim (val l)).length = lim (val l) := by
  have key : ∀ j, j ≤ l.length → val l = vt l j → ∃ i, i ≤ l.length ∧ l.take i = lim (val l) := by
    intro j
    induction j with
    | zero => exact fun hj hv => ⟨0, hj, trim_end hu hj hv (fun h => by omega)⟩
    | succ j ih =>
      intro hj hv
      by_cases hz : lmb l j = 0
      · exact ih (by omega) (trim_step hv hz)
      · exact ⟨j + 1, hj, trim_end hu hj hv (fun _ => by simpa using hz)⟩
  obtain ⟨i, hi, he⟩ := key l.length (Nat.le_refl _) rfl
  have : (lim (val l)).length = i := by rw [← he, List.length_take]; omega
  rw [this]
  exact he
set_option maxRecDepth 100000 in
set_option maxHeartbeats 8000000 in
theorem implDiv (a b : List Int) (ha : Us a) (hb : Us b) (hla : a.length ≤ 40) (hlb : b.length ≤ 40) (hd : 0 < val b) (htb : Top b) (A A' : Option Addr) (c c' : Nat) (hc : a.length ≤ c) (hc' : b.length ≤ c') (w : World) (hr : Kd.C (Kd.int .u32) w A a.length a) (hr' : Kd.C (Kd.int .u32) w A' b.length b) :
    Calls Try.prog 78 #[.slice A a.length c, .slice A' b.length c'] w fun e w' => ∃ Aq cq Ar cr, e = .returned (.tuple #[.slice Aq (lim (val a / val b)).length cq, .slice Ar (lim (val a % val b)).length cr]) ∧
      Kd.C (Kd.int .u32) w' Aq (lim (val a / val b)).length (lim (val a / val b)) ∧ (lim (val a / val b)).length ≤ cq ∧ Kd.C (Kd.int .u32) w' Ar (lim (val a % val b)).length (lim (val a % val b)) ∧ (lim (val a % val b)).length ≤ cr ∧ Below w.heap.size w w' := by
  have R0 := Lib.hid hr
  have R1 := Lib.hid hr'
  obtain ⟨n, hn⟩ : ∃ n : Nat, val a = n := ⟨(val a).toNat, by have := val_nonneg ha; omega⟩
  obtain ⟨d, hdn⟩ : ∃ d : Nat, val b = d := ⟨(val b).toNat, by omega⟩
  have hd0 : 0 < d := by omega
  obtain ⟨Lq, hLq⟩ : ∃ Lq, lim (val a / val b) = Lq := ⟨_, rfl⟩
  obtain ⟨Lr, hLr⟩ : ∃ Lr, lim (val a % val b) = Lr := ⟨_, rfl⟩
  rw [hLq, hLr]
  have HLq := Lib.hid hLq
  have HLr := Lib.hid hLr
  have HN := Lib.hid hn
  have HD := Lib.hid hdn
  clear hr hr' hn hdn hLq hLr
  have RM := print_make 22 62 .u32 4 Try.underlying22 infoU32 (by decide) a.length (by omega)
  have QR : Hid (QRow (w.alloc (.cells (madeCells #[.int .u32 0] a.length) 62)) w.heap.size (List.replicate a.length 0)) := Lib.hid ((blk_new w (.cells (madeCells #[.int .u32 0] a.length) 62)).trans (by rw [made_limbs]))
  have HB := Lib.hid (below_old w (.cells (madeCells #[.int .u32 0] a.length) 62))
  go_enter Try.func78, Try.ntmps78
  by_cases h1 : b.length = 1
  · have e1 : (((b.length : Nat) : Int) == 1) = true := by rw [h1]; rfl
    obtain ⟨x, rfl⟩ : ∃ x, b = [x] := by
      match b, h1 with
      | [x], _ => exact ⟨x, rfl⟩
    rw [val_one] at hd
    have hvx : val [x] = x := val_one x
    have hxr := hb x (by simp)
    obtain ⟨bb, ob, rfl, _, hcb⟩ := kdC_cell R1.out (by simp)
    have zb := cell_at HB.out (hcb 0 x rfl)
    have CA := Kd.C_below R0.out HB.out
    have QO := QR.out.R (B := w.heap.size) (Nat.le_refl _) (by simp; unfold maxLen; omega)
    rw [List.length_replicate] at QO
    obtain ⟨qv, hqv⟩ : ∃ v, v = Value.slice (some ⟨w.heap.size, 0, none⟩) a.length a.length := ⟨_, rfl⟩
    rw [← hqv] at QO
    have HQO := Lib.hid QO
    have HCA := Lib.hid CA
    have ZB := Lib.hid (hcb 0 x rfl)
    obtain ⟨o, k, hol, hou, hov, hk⟩ := PFnSD.shortDiv_is (a := a) (d := x) ha (by omega) hd hxr.2
    have hQL : lim (val o) = Lq := by rw [hov, ← HLq.out, hvx]
    have hRL : lim (val a % x) = Lr := by rw [← HLr.out, hvx]
    have hrx : 0 ≤ val a % x := Int.emod_nonneg _ (by omega)
    have hrx2 : val a % x < x := Int.emod_lt_of_pos _ hd
    obtain ⟨rr, hrr⟩ : ∃ rr, val a % x = rr := ⟨_, rfl⟩
    rw [hrr] at hk hRL hrx hrx2
    have HK := Lib.hid hk
    clear hcb QO CA h1 hrr hk zb hov
    go_upto_region 3 with fail
    rw [← hqv]
    have HQV := Lib.hid hqv
    clear hqv
    go_wp2_with ((with_reducible refine gate_builtin (b := .copy) (xs := #[.tmp 19, .tmp 20]) rfl ?_); refine Kd.R_copy (enc := Value.int .u32) (h1 := fun _ => rfl) (0 : Int) (w0 := w) w.heap.size rfl (.tmp 19) (.tmp 20) 22 22 62 rfl Try.underlying22 (by kernel_rfl) qv (List.replicate a.length 0) a A a.length c (fun _ => True) rfl rfl HQO.out HCA.out HB.out HB.out.size ?_; intro w3 ho hb3 hg3; rw [show a.take (min a.length (List.replicate a.length (0 : Int)).length) ++ (List.replicate a.length (0 : Int)).drop (min a.length (List.replicate a.length (0 : Int)).length) = a by simp] at ho; have HO := Lib.hid ho; have HB3 := Lib.hid hb3; have zb := cell_at hb3 ZB.out; rw [Nat.add_zero] at zb; clear ho hb3 hg3)
    refine (PFnSD.impl_shortDiv.calls k (fun _ => True) qv a x rr o w w3 HB3.out HO.out HK.out).mono ?_
    rintro e w4 ⟨rfl, hv4, hb4, _⟩
    have hqv := HQV.out
    subst hqv
    have hC4 := Kd.R_reads' hv4
    have CT1 := Lib.hid (show Calls Try.prog 64 #[.slice (some ⟨w.heap.size, 0, none⟩) a.length a.length] w4 fun e w' => e = .returned (.slice (some ⟨w.heap.size, 0, none⟩) Lq.length a.length) ∧ Below w4.heap.size w4 w' from by
      have h := implTrim o (by omega) hou (some ⟨w.heap.size, 0, none⟩) a.length w4 hC4.2.2 (by omega)
      rwa [hol, hQL] at h)
    have hT : o.take Lq.length = Lq := by rw [← hQL]; exact take_lim hou
    have HQC := Lib.hid (show Kd.C (Kd.int .u32) w4 (some ⟨w.heap.size, 0, none⟩) Lq.length Lq from by
      have h := Kd.C_take hC4.2.2 (m := Lq.length) (by rw [← hT, List.length_take]; omega)
      rw [hT] at h
      first | exact h | (rw [show Lq.length = (o.take Lq.length).length by rw [hT]]; exact h))
    have HLA := Lib.hid (show Lq.length ≤ a.length by rw [← hT, List.length_take]; omega)
    have HB4 := Lib.hid hb4
    clear hv4 hC4 hT HO HQO HB hb4
    go_wp2_with fail
    refine CT1.out.mono ?_
    clear CT1
    rintro e w5 ⟨rfl, hb5⟩
    have hur : Us [rr] := Us.cons hrx (by omega) Us.nil
    have hC1 := row_one w5 rr
    have CT2 := Lib.hid (show Calls Try.prog 64 #[.slice (some ⟨w5.heap.size, 0, none⟩) 1 1] (w5.alloc (.cells #[.int .u32 rr] 62)) fun e w' => e = .returned (.slice (some ⟨w5.heap.size, 0, none⟩) Lr.length 1) ∧ Below (w5.alloc (.cells #[.int .u32 rr] 62)).heap.size (w5.alloc (.cells #[.int .u32 rr] 62)) w' from by
      have h := implTrim [rr] (by simp) hur (some ⟨w5.heap.size, 0, none⟩) 1 _ hC1 (by simp)
      rwa [val_one, hRL] at h)
    have hT : [rr].take Lr.length = Lr := by have h := take_lim hur; rwa [val_one, hRL] at h
    have HRC := Lib.hid (show Kd.C (Kd.int .u32) (w5.alloc (.cells #[.int .u32 rr] 62)) (some ⟨w5.heap.size, 0, none⟩) Lr.length Lr from by
      have h := Kd.C_take hC1 (m := Lr.length) (by rw [← hT, List.length_take]; simp; omega)
      rw [hT] at h
      first | exact h | (rw [show Lr.length = ([rr].take Lr.length).length by rw [hT]]; exact h))
    have HLR := Lib.hid (show Lr.length ≤ 1 by rw [← hT, List.length_take]; simp; omega)
    clear hC1 hT
    go_wp2_with fail
    refine CT2.out.mono ?_
    clear CT2
    rintro e w6 ⟨rfl, hb6⟩
    have hb56 := (below_old w5 (.cells #[.int .u32 rr] 62)).trans (hb6.mono (by simp))
    have hb46 := hb5.trans (hb56.mono hb5.size)
    go_wp2_with fail
    refine bodyPost_ret (v := .tuple #[.slice (some ⟨w.heap.size, 0, none⟩) Lq.length a.length, .slice (some ⟨w5.heap.size, 0, none⟩) Lr.length 1]) (by simp [results, Try.results78, go_sem]) rfl ⟨_, _, _, _, rfl, Kd.C_below HQC.out hb46, HLA.out, Kd.C_below HRC.out hb6, HLR.out, HB4.out.trans (hb46.mono HB4.out.size)⟩
  · have e1 : (((b.length : Nat) : Int) == 1) = false := by simp; omega
    go_wp2_with fail
    generalize hW : ((w.alloc (.cells (madeCells #[.int .u32 0] a.length) 62)).alloc (.cells #[] 62)) = W0
    have START : Hid (DivI w W0 (n / 2 ^ (32 * a.length) / d * 2 ^ (32 * a.length)) (lim ((n / 2 ^ (32 * a.length) % d : Nat) : Int)) a.length (List.replicate a.length 0) (.slice (some ⟨w.heap.size + 1, 0, none⟩) 0 0)) := by
      subst hW
      have h0 := lt_two_pow ha HN.out
      refine ⟨QR.out.below (below_old _ _), by simp, Us.replicate _, ?_, ?_, ?_⟩
      · rw [h0, val_replicate]; simp
      · rw [h0]
        simp only [Nat.zero_mod]
        have : lim ((0 : Nat) : Int) = [] := lim_zero
        rw [this]
        have h := RemAt.of (B := w.heap.size) (q := w.heap.size) (kdR_lit0 (w.alloc (.cells (madeCells #[.int .u32 0] a.length) 62)) .u32 62) (by simp) (by simp)
        simpa using h
      · exact HB.out.alloc (by simp) _
    clear hW RM QR HB
    go_loopw [8, 9] (fun rv iv wr => ∃ q : Nat, q ≤ 32 * a.length ∧ iv = .int .i64 ((q : Int) - 1) ∧ Hid (∃ o, DivI w wr (n / 2 ^ q / d * 2 ^ q) (lim ((n / 2 ^ q % d : Nat) : Int)) a.length o rv)) (fun _ iv _ => (intOf iv + 1).toNat)
    case atStart => exact ⟨32 * a.length, Nat.le_refl _, by congr 1; omega, Lib.hid ⟨_, START.out⟩⟩
    case round =>
      obtain ⟨q, hq, rfl, hrel⟩ := hrel
      obtain ⟨o, hdv⟩ := hrel.out
      clear hrel START
      obtain ⟨AR, cR, rfl⟩ := Kd.R_slice hdv.rem
      have DV := Lib.hid hdv
      clear hdv
      cases q with
      | zero =>
        rw [show (((0 : Nat) : Int) - 1) = -1 by omega]
        have hdv := DV.out
        rw [Nat.pow_zero, Nat.div_one, Nat.mul_one] at hdv
        have hQL : lim (val o) = Lq := by rw [hdv.quo, ← HLq.out, HN.out, HD.out]; rfl
        have hRL : lim ((n % d : Nat) : Int) = Lr := by rw [← HLr.out, HN.out, HD.out]; rfl
        have hRv : val Lr = ((n % d : Nat) : Int) := by rw [← hRL, val_lim (by omega)]
        rw [Nat.pow_zero, Nat.div_one, hRL]
        rw [hRL] at hdv
        have hRl : Lr.length ≤ 40 := by rw [← hRL]; exact lim_small hb hlb HD.out (Nat.mod_lt _ hd0)
        have hur : Us Lr := by rw [← hRL]; exact us_lim _
        have hCr := Kd.R_reads' hdv.rem
        have hoR := hdv.row.R (B := w.heap.size) (Nat.le_refl _) (by rw [hdv.len]; unfold maxLen; omega)
        have hoC := (Kd.R_reads' hoR).2.2
        have CT1 := Lib.hid (show Calls Try.prog 64 #[.slice (some ⟨w.heap.size, 0, none⟩) a.length a.length] wr fun e w' => e = .returned (.slice (some ⟨w.heap.size, 0, none⟩) Lq.length a.length) ∧ Below wr.heap.size wr w' from by
          have h := implTrim o (by rw [hdv.len]; omega) hdv.us (some ⟨w.heap.size, 0, none⟩) o.length wr hoC (Nat.le_refl _)
          rwa [hdv.len, hQL] at h)
        have CT2 := Lib.hid (fun wx (hx : Below wr.heap.size wr wx) => show Calls Try.prog 64 #[.slice AR Lr.length cR] wx fun e w' => e = .returned (.slice AR Lr.length cR) ∧ Below wx.heap.size wx w' from by
          have h := implTrim Lr (by omega) hur AR cR wx (Kd.C_below hCr.2.2 hx) hCr.2.1
          rwa [hRv, hRL] at h)
        have hT : o.take Lq.length = Lq := by rw [← hQL]; exact take_lim hdv.us
        have HQC := Lib.hid (show Kd.C (Kd.int .u32) wr (some ⟨w.heap.size, 0, none⟩) Lq.length Lq from by
          have h := Kd.C_take hoC (m := Lq.length) (by rw [← hT, List.length_take]; omega)
          rw [hT] at h
          first | exact h | (rw [show Lq.length = (o.take Lq.length).length by rw [hT]]; exact h))
        have HRC := Lib.hid hCr.2.2
        have HRc := Lib.hid hCr.2.1
        have HBw := Lib.hid hdv.bel
        have HLA := Lib.hid (show Lq.length ≤ a.length by have h1 := hdv.len; rw [← hT, List.length_take]; omega)
        clear hdv hCr hoR hoC hQL hRL hRv hT DV
        go_wp2_with fail
        refine CT1.out.mono ?_
        clear CT1
        rintro e w4 ⟨rfl, hb4⟩
        replace CT2 := Lib.hid (CT2.out _ hb4)
        go_wp2_with fail
        refine CT2.out.mono ?_
        clear CT2
        rintro e w5 ⟨rfl, hb5⟩
        have hb45 := hb4.trans (hb5.mono hb4.size)
        go_wp2_with fail
        refine bodyPost_ret (v := .tuple #[.slice (some ⟨w.heap.size, 0, none⟩) Lq.length a.length, .slice AR Lr.length cR]) (by simp [results, Try.results78, go_sem]) rfl ⟨_, _, _, _, rfl, Kd.C_below HQC.out hb45, HLA.out, Kd.C_below HRC.out hb45, HRc.out, HBw.out.trans (hb45.mono HBw.out.size)⟩
      | succ i =>
        rw [show (((i + 1 : Nat) : Int) - 1) = (i : Int) by omega]
        have hi32 : i / 32 < a.length := by omega
        have hi : i < 32 * 40 := by omega
        obtain ⟨r, hrr⟩ : ∃ r : Nat, r = n / 2 ^ (i + 1) % d := ⟨_, rfl⟩
        have hrd : r < d := by rw [hrr]; exact Nat.mod_lt _ hd0
        have HR := Lib.hid hrr
        have hdv := DV.out
        rw [← hrr] at hdv
        have hRl := lim_small hb hlb HD.out hrd
        obtain ⟨L0, hL0⟩ : ∃ L0, lim (r : Int) = L0 := ⟨_, rfl⟩
        rw [hL0] at hdv hRl
        have HL0 := Lib.hid hL0
        have hAR := (Kd.R_reads' hdv.rem).1
        rw [← hrr, hL0]
        rw [hAR] at hdv
        replace DV := Lib.hid hdv
        clear hdv hL0 hrr hAR
        obtain ⟨ba, oa, rfl, _, hca⟩ := kdC_cell R0.out (by omega)
        have za := cell_at DV.out.bel (hca (i / 32) _ (List.getElem?_eq_getElem hi32))
        rw [← lmb_at hi32] at za
        have BIT := Lib.hid (bit_at ha HN.out i)
        have LR := lmb_range ha (i / 32)
        generalize lmb a (i / 32) = x at *
        clear hca
        obtain ⟨bt, hbt⟩ : ∃ bt : Nat, n / 2 ^ i % 2 = bt := ⟨_, rfl⟩
        have hbt2 : bt < 2 := by rw [← hbt]; exact Nat.mod_lt _ (by decide)
        have hband := (bit_and LR.1 LR.2 (i % 32)).trans BIT.out
        rw [hbt] at hband
        have HBT := Lib.hid hbt
        clear hbt LR BIT
        have t8 : 0 ≤ (i : Int) % 32 := by omega
        have t1 : Int.tdiv (i : Int) 32 = ((i / 32 : Nat) : Int) := by rw [Int.tdiv_eq_ediv_of_nonneg (by omega)]; rfl
        have t2 : Int.tmod (i : Int) 32 = ((i % 32 : Nat) : Int) := by rw [Int.tmod_eq_emod_of_nonneg (by omega)]; rfl
        have hu0 : Us L0 := by rw [← HL0.out]; exact us_lim _
        have ht0 : Top L0 := by rw [← HL0.out]; exact top_lim _
        have hv0 : val L0 = (r : Int) := by rw [← HL0.out, val_lim (by omega)]
        go_wp2_with fail
        clear za hband t1 t2 t8
        go_loopw [10, 52] (fun cv kv wx => ∃ (k : Nat) (cy : Int), k ≤ L0.length ∧ kv = .int .i64 k ∧ cv = .int .u32 cy ∧ 0 ≤ cy ∧ cy < 2 ∧ Hid (∃ l, DivI w wx (n / 2 ^ (i + 1) / d * 2 ^ (i + 1)) l a.length o (.slice AR L0.length cR) ∧ l.length = L0.length ∧ Us l ∧ (∀ j, k ≤ j → lmb l j = lmb L0 j) ∧ vt l k + cy * PW k = 2 * vt L0 k + (bt : Int))) (fun _ kv _ => L0.length - (intOf kv).toNat)
        case atStart => exact ⟨0, bt, by omega, rfl, rfl, by omega, by omega, Lib.hid ⟨L0, DV.out, rfl, hu0, fun _ _ => rfl, by simp [vt, PW_zero]⟩⟩
        case round =>
          obtain ⟨k, cy, hk, rfl, rfl, hc0, hc1, hrel⟩ := hrel
          obtain ⟨l, hdv, hll, hul, hlj, hvl⟩ := hrel.out
          clear hrel
          have DVL := Lib.hid hdv
          have HLL := Lib.hid hll
          have HUL := Lib.hid hul
          have HLJ := Lib.hid hlj
          have HVL := Lib.hid hvl
          clear hdv hll hul hlj hvl
          by_cases hkl : k < L0.length
          · have hkd : decide ((k : Int) < (L0.length : Int)) = true := by simp; omega
            obtain ⟨g, cap, hg, _⟩ := Kd.R_form DVL.out.rem (by rw [HLL.out]; omega)
            obtain ⟨rfl, rfl⟩ : AR = some ⟨g, 0, none⟩ ∧ cR = cap := by injection hg with h1 h2 h3; exact ⟨h1, h3⟩
            have hz := DVL.out.cell (k := k) (by rw [HLL.out]; omega)
            rw [HLJ.out k (Nat.le_refl _)] at hz
            have z0 := hz.1
            have f0 := hz.2
            have LX := lmb_range hu0 k
            have STEP := Lib.hid (dbl_step (L := L0) (by rw [HLL.out]; exact hkl) (HLJ.out k (Nat.le_refl _)) HVL.out)
            have OR := Lib.hid (or_carry LX.1 LX.2 hc0 hc1)
            have PUT := Lib.hid (DVL.out.put k (lmb L0 k * 2 % 4294967296 + cy))
            have hhalf := half_up (lmb L0 k)
            have HH := Lib.hid hhalf
            clear hg hz hhalf
            obtain ⟨y, hy⟩ : ∃ y, y = lmb L0 k := ⟨_, rfl⟩
            have HY := Lib.hid hy
            rw [← hy] at z0 LX
            clear hy
            go_wp2_with fail
            have hy := HY.out
            subst hy
            go_roundw
            case rel =>
              rw [OR.out]
              exact ⟨k + 1, lmb L0 k / 2147483648, by omega, by go_num, rfl, by omega, by omega, Lib.hid ⟨_, PUT.out, by rw [List.length_set]; exact HLL.out, HUL.out.set k (by omega) (by omega), fun j hj => by rw [lmb_set_other (by omega)]; exact HLJ.out j (by omega), by rw [HH.out]; exact STEP.out⟩⟩
            case measure => simp [intOf]; omega
          · obtain rfl : k = L0.length := by omega
            have hvl := HVL.out
            rw [vt_val (l := l) (by rw [HLL.out]; omega), vt_val (l := L0) (Nat.le_refl _)] at hvl
            obtain ⟨L2, hL2⟩ : ∃ L2, lim (2 * val L0 + (bt : Int)) = L2 := ⟨_, rfl⟩
            have DONE := Lib.hid (dbl_done HUL.out hu0 ht0 HLL.out hc0 (by omega) (by omega) hvl)
            rw [hL2] at DONE
            have HL2 := Lib.hid hL2
            obtain ⟨rv, hrv⟩ : ∃ v, v = Value.slice AR L0.length cR := ⟨_, rfl⟩
            have DVR := Lib.hid DVL.out
            rw [← hrv] at DVR
            clear hL2 hvl HVL HLJ
            go_upto_if 73 with fail
            rw [← hrv]
            clear hrv DVL
            go_cut [8] from 73 to 77 (fun v wx => Hid (DivI w wx (n / 2 ^ (i + 1) / d * 2 ^ (i + 1)) L2 a.length o v))
            case first =>
              by_cases hcy : 0 < cy
              · have hcd : decide ((0 : Int) < cy) = true := by simp; omega
                have LD := Lib.hid (DONE.out.1 hcy)
                go_wp2_with (at_builtin; refine Kd.R_append (Kd.int .u32) (w0 := w) w.heap.size rfl (.tmp 74) (.tmp 76) 22 62 (.int .u32 0) 4 rfl Try.underlying22 infoU32 rfl (by decide) (by omega) rv l cy [.int .u32 cy] (fun k => k ≠ w.heap.size) (fun _ => False) rfl rfl rfl (fun _ hk => hk.elim) (fun k hk => by have := DVR.out.sz; omega) DVR.out.rem DVR.out.bel DVR.out.bel.size (by have := HLL.out; omega) ?_; intro v6 w6 ho hb6 hg6 _; rw [LD.out] at ho; have FIN := Lib.hid (show DivI w w6 (n / 2 ^ (i + 1) / d * 2 ^ (i + 1)) L2 a.length o v6 from ⟨(hg6.block _ DVR.out.sz (fun e => DVR.out.rem.1 _ e.symm rfl)).trans DVR.out.row, DVR.out.len, DVR.out.us, DVR.out.quo, ho, hb6⟩))
                go_meet
                exact FIN
              · have hcd : decide ((0 : Int) < cy) = false := by simp; omega
                have LD := DONE.out.2 hcy
                rw [LD] at DVR
                go_wp2_with fail
                go_meet
                exact DVR
            case rest =>
              have hdv := hcut.out
              clear hcut DV DVR DONE HLL HUL
              obtain ⟨A2, c2, rfl⟩ := Kd.R_slice hdv.rem
              have DV := Lib.hid hdv
              clear hdv
              have hv2 : val L2 = ((2 * r + bt : Nat) : Int) := by rw [← HL2.out, hv0, val_lim (by omega)]; omega
              have hu2 : Us L2 := by rw [← HL2.out]; exact us_lim _
              have ht2 : Top L2 := by rw [← HL2.out]; exact top_lim _
              have e2 : lim ((2 * r + bt : Nat) : Int) = L2 := by rw [← HL2.out, hv0]; congr 1
              have h2L : L2.length ≤ 41 := by
                rw [← e2]
                have h1 := val_lt hb
                have h2 := PW_mono hlb
                have e41 : PW 41 = 4294967296 * PW 40 := PW_succ 40
                have := PW_pos 40
                have := HD.out
                exact lim_len_le (n := 41) (by omega) (by omega)
              have hC := Kd.R_reads' DV.out.rem
              have hCb := Kd.C_below R1.out DV.out.bel
              obtain ⟨kq, hk⟩ := (impl_compareLimbs_is (l := L2) (l' := b) (by omega) (by omega) hu2 hb ht2 htb).rounds
              obtain ⟨cc, hcc⟩ : ∃ cc, cmpI (val L2) (val b) = cc := ⟨_, rfl⟩
              rw [hcc] at hk
              have CT := Lib.hid (impl_compareLimbs.calls kq A2 c2 _ A' c' _ _ _ hC.2.2 (by omega) hCb hc' hk)
              have STEP := Lib.hid (div_bit (n := n) (d := d) (i := i) hd0)
              rw [← HR.out, HBT.out] at STEP
              by_cases hge : d ≤ 2 * r + bt
              · have hccb : (cc != -1) = true := by
                  have hd' := HD.out
                  rw [← hcc, hv2]
                  unfold cmpI
                  rw [if_neg (by omega)]
                  split <;> rfl
                have ST := STEP.out.1 hge
                have hbl : b.length ≤ L2.length := len_of_le hu2 hb htb (by rw [hv2, HD.out]; omega)
                have hk3 : impl_subLimbs.f 0 L2 b = some (lim (val L2 - val b)) := by unfold impl_subLimbs.f; exact if_pos ⟨by omega, hbl, hu2, hb, by rw [hv2, HD.out]; omega⟩
                rw [hv2, HD.out, show ((2 * r + bt : Nat) : Int) - (d : Int) = ((n / 2 ^ i % d : Nat) : Int) by rw [ST.2]; omega] at hk3
                obtain ⟨L3, hL3⟩ : ∃ L3, lim ((n / 2 ^ i % d : Nat) : Int) = L3 := ⟨_, rfl⟩
                rw [hL3] at hk3
                have HL3 := Lib.hid hL3
                have CT2 := Lib.hid (fun wx (hx : Below wc.heap.size wc wx) => impl_subLimbs.calls 0 A2 c2 _ A' c' _ _ wx (Kd.C_below hC.2.2 hx) (by omega) (Kd.C_below hCb hx) hc' hk3)
                have HST := Lib.hid ST
                clear ST hk3 hL3 hC hCb hcc hk STEP
                go_wp2_with fail
                refine CT.out.mono ?_
                clear CT
                rintro e w7 ⟨rfl, hdr⟩
                have hb7 : Below wc.heap.size wc w7 := by obtain ⟨nd, rfl⟩ := hdr; exact pw_below_drewN (Below.refl _ _) nd
                replace CT2 := Lib.hid (CT2.out _ hb7)
                replace DV := Lib.hid (DV.out.below hb7)
                clear hdr hb7
                go_wp2_with fail
                refine CT2.out.mono ?_
                clear CT2
                rintro e w8 ⟨v, rfl, hv, hb8⟩
                obtain ⟨A3, c3, rfl⟩ := Kd.R_slice hv
                have REM := Lib.hid (DV.out.newRem hb8 hv)
                replace DV := Lib.hid ((DV.out.below hb8).withRem REM.out)
                have hjo : i / 32 < o.length := by rw [DV.out.len]; exact hi32
                have SB := Lib.hid (set_bit DV.out.us (Q := n / 2 ^ (i + 1) / d) (i := i) DV.out.quo hjo)
                have zq := DV.out.row.cell hjo
                have fq := DV.out.row.frozen (i / 32)
                have LY := lmb_range DV.out.us (i / 32)
                have t3 : (i : Int) / 32 < (a.length : Int) := by omega
                have t4 : 0 ≤ (i : Int) / 32 := by omega
                have t5 : ((i : Int) / 32).toNat = i / 32 := by omega
                have t6 : IntKind.i64.wrap ((i : Int) / 32) = (i : Int) / 32 := IntWalk.i64_in _ (by omega)
                have t7 : IntKind.i64.wrap ((i : Int) % 32) = (i : Int) % 32 := IntWalk.i64_in _ (by omega)
                have t8 : 0 ≤ (i : Int) % 32 := by omega
                have t9 : ((i : Int) % 32).toNat = i % 32 := by omega
                have t1 : Int.tdiv (i : Int) 32 = (i : Int) / 32 := Int.tdiv_eq_ediv_of_nonneg (by omega)
                have t2 : Int.tmod (i : Int) 32 = (i : Int) % 32 := Int.tmod_eq_emod_of_nonneg (by omega)
                go_upto_region 22 with fail
                go_still_tail 9, (by kernel_rfl)
                go_wp2_with fail
                clear t1 t2 t3 t4 t5 t6 t7 t8 t9 zq fq hccb
                have hp2 : (2 : Int) ^ (i % 32) % 4294967296 = ((2 ^ (i % 32) : Nat) : Int) := two_mod (Nat.mod_lt i (by decide))
                have FIN := Lib.hid ((DV.out.setBit (j := i / 32) (x := lmb o (i / 32) + ((2 ^ (i % 32) : Nat) : Int)) (Q' := n / 2 ^ i / d * 2 ^ i) (by omega) SB.out.2.1 (by
                  rw [SB.out.2.2, HST.out.1, Nat.add_mul, Nat.one_mul, Nat.mul_comm 2, Nat.mul_assoc, Nat.pow_succ, Nat.mul_comm 2 (2 ^ i)])).below (Below.refl _ _).drew)
                rw [← SB.out.1, ← hp2] at FIN
                clear hp2 SB LY
                go_roundw
                case rel => exact ⟨i, by omega, by go_num, Lib.hid ⟨o.set (i / 32) (Go.bits .or .u32 (lmb o (i / 32)) (2 ^ (i % 32) % 4294967296)), by rw [HL3.out]; exact FIN.out⟩⟩
                case measure => simp [intOf]
              · have hccb : (cc != -1) = false := by
                  have hd' := HD.out
                  rw [← hcc, hv2]
                  unfold cmpI
                  rw [if_pos (by omega)]
                  rfl
                have ST := STEP.out.2 (by omega)
                clear hcc hk STEP hC hCb
                go_wp2_with fail
                refine CT.out.mono ?_
                clear CT
                rintro e w7 ⟨rfl, hdr⟩
                have hb7 : Below wc.heap.size wc w7 := by obtain ⟨nd, rfl⟩ := hdr; exact pw_below_drewN (Below.refl _ _) nd
                replace DV := Lib.hid (DV.out.below hb7)
                clear hdr hb7
                go_wp2_with fail
                have FIN := Lib.hid DV.out
                rw [show n / 2 ^ (i + 1) / d * 2 ^ (i + 1) = n / 2 ^ i / d * 2 ^ i by rw [ST.1, Nat.mul_comm 2, Nat.mul_assoc, Nat.pow_succ, Nat.mul_comm 2 (2 ^ i)]] at FIN
                have e3 : L2 = lim ((n / 2 ^ i % d : Nat) : Int) := by rw [ST.2, e2]
                have FIN2 : Hid (∃ o, DivI w w7 (n / 2 ^ i / d * 2 ^ i) (lim ((n / 2 ^ i % d : Nat) : Int)) a.length o (.slice A2 L2.length c2)) := Lib.hid ⟨_, by rw [← e3]; exact FIN.out⟩
                clear ST hccb e3 e2
                go_roundw
                case rel => exact ⟨i, by omega, by go_num, FIN2⟩
                case measure => simp [intOf]

end Go.Proofs.Ytajmeeppigdjnaa
