/- Core terms: the program's walk over names; no condition. -/
import Derived.Test.YthidbmjdphfddaaAnI
namespace Go.Proofs.Ythidbmjdphfddaa
open Go Go.RowKit
set_option linter.unusedVariables false
set_option linter.unusedSimpArgs false

def EachN (x : Cr) : Prop := ∀ (W0 w : World) (cs : List Value) (b off G S m : Nat) (L : List ByteArray) (v : Value), Rd W0 x.enc cs → CellsAt W0 b off cs → An W0 G S m L v w → L.length + x.wt ≤ 3000000 →
  Calls Try.prog 64 #[.pointer (some ⟨b, off, none⟩), .func (.func 65) #[] #[.pointer (some ⟨S, 0, none⟩), .pointer (some ⟨G, 0, none⟩)]] w fun e w' => e = .returned (.tuple #[]) ∧ ∃ v', An W0 G S m (x.alln L) v' w'
set_option maxRecDepth 100000 in
set_option maxHeartbeats 2000000 in
theorem EachN_of (k : Int) (n : ByteArray) (m : Bool) (l : List Int) (ns : List ByteArray) (ks : List Cr) (qs : List Ca) (hnz : n.size ≤ 140737488351232) (hnn : ns.length ≤ 140737488351232) (hnx : ∀ x ∈ ns, x.size ≤ 140737488351232) (hkn : ks.length ≤ 140737488351232) (hqn : qs.length ≤ 140737488351232) (hqm : ∀ a ∈ qs, a.names.length ≤ 140737488351232 ∧ ∀ x ∈ a.names, x.size ≤ 140737488351232) (ih : ∀ x ∈ ks, EachN x) (ia : ∀ a ∈ qs, EachN a.body) : EachN (.mk k n m l ns ks qs) := by
  intro W0 w cs b off G S mb L v h hc hA hl
  rw [Cr.wt] at hl
  rw [Cr.alln]
  obtain ⟨AL, cL, AN, cN, AK, cK, AA, cA, rfl, _, rN, rK, rA, _, _, _, _⟩ := Cr.open_ h
  have AD := Lib.hid (At.mk' hc)
  have IH := Lib.hid ih
  have IA := Lib.hid ia
  have RN := Lib.hid rN
  have RK := Lib.hid rK
  have RA := Lib.hid rA
  have HL := Lib.hid hl
  have HQM := Lib.hid hqm
  have HNX := Lib.hid hnx
  have HA := Lib.hid hA
  have z0 := AD.out.c0 _ hA.below
  have z1 := AD.out.c1 _ hA.below
  have z4 := AD.out.c4 _ hA.below
  obtain ⟨L1, hL1⟩ : ∃ L1, L1 = (if n.toList ≠ [] ∧ (k = 1 ∨ k = 8) then addN L n else L) := ⟨_, rfl⟩
  rw [← hL1]
  have HL1 := Lib.hid hL1
  obtain ⟨R, hR⟩ : ∃ R, R = Ca.allns qs (Cr.allns ks (adds L1 ns)) := ⟨_, rfl⟩
  rw [← hR]
  have HR := Lib.hid hR
  clear hR
  have LB : Hid (L1.length ≤ L.length + 1) := by
    show _ ≤ _
    rw [hL1]
    split
    · exact addN_len L n
    · omega
  have CADD := Lib.hid (closeName n hnz W0 w G S mb L v (by omega) hA)
  clear h hc hA rN rK rA ih ia hl hL1 hqm hnx
  cases hn : n.toList.isEmpty
  · have HN := Lib.hid (emp_f hn)
    by_cases hk1 : k = 1
    · subst hk1
      have E1 : Hid (L1 = addN L n) := by show _ = _; rw [HL1.out, if_pos ⟨HN.out, .inl rfl⟩]
      go_enter Try.func64, Try.ntmps64
      go_wp2_with fail
      refine CADD.out.mono ?_
      rintro e w1 ⟨rfl, v1, hA1⟩
      have A1 : Hid (∃ v, An W0 G S mb L1 v w1) := ⟨v1, by rw [E1.out]; exact hA1⟩
      have y4 := AD.out.c4 _ hA1.below
      clear hA1 CADD
      go_wp2_with fail
      clear y4
      try clear z0
      try clear z1
      try clear z4
      go_loopw [40] (fun i wr => ∃ j : Nat, j ≤ ns.length ∧ i = .int .i64 j ∧ Hid (∃ v, An W0 G S mb (adds L1 (ns.take j)) v wr)) (fun i _ => ns.length - (intOf i).toNat)
      case atStart => exact ⟨0, Nat.zero_le _, rfl, Lib.hid (by simpa [adds] using A1.out)⟩
      case round =>
        obtain ⟨j, hj, rfl, hrel⟩ := hrel
        obtain ⟨vr, hr⟩ := hrel.out
        have RL := Lib.hid hr
        clear hrel A1 hr
        by_cases hlt : j < ns.length
        · obtain ⟨b', off', rfl, e0⟩ := strs_get (RN.out.below (by omega) RL.out.below) hlt
          have ST := Lib.hid (adds_step hlt L1)
          have LN : Hid ((adds L1 (ns.take j)).length ≤ 4000000) := by
            have h1 := adds_len (ns.take j) L1
            have h2 := List.length_take_le j ns
            have h3 := LB.out
            have h4 := HL.out
            show _ ≤ _
            omega
          have CA := Lib.hid (closeName ns[j] (HNX.out _ (List.getElem_mem hlt)) W0 wr G S mb _ vr LN.out RL.out)
          have i0 : (0 : Int) ≤ (j : Int) := Int.natCast_nonneg _
          have i1 : (j : Int) < (ns.length : Int) := by omega
          go_wp2_with fail
          refine CA.out.mono ?_
          rintro e w2 ⟨rfl, v2, hA2⟩
          have A2 := Lib.hid hA2
          clear hA2 CA
          go_wp2
          go_roundw
          case rel => exact ⟨j + 1, by omega, by go_num, Lib.hid ⟨v2, by rw [ST.out]; exact A2.out⟩⟩
          case measure => simp [intOf]; omega
        · obtain rfl : j = ns.length := by omega
          have h0 := RL.out
          rw [List.take_length] at h0
          obtain ⟨L2, hL2⟩ : ∃ L2, L2 = adds L1 ns := ⟨_, rfl⟩
          rw [← hL2] at h0
          have HL2 := Lib.hid hL2
          have LB2 : Hid (L2.length ≤ L.length + 1 + ns.length) := by
            have h1 := adds_len ns L1
            have h3 := LB.out
            show _ ≤ _
            rw [hL2]
            omega
          have A2 : Hid (∃ v, An W0 G S mb L2 v wr) := ⟨_, h0⟩
          have z5 := AD.out.c5 _ h0.below
          clear h0 hL2 RL hj hlt
          go_wp2_with fail
          clear z5
          go_loopw [53] (fun i wr => ∃ j : Nat, j ≤ ks.length ∧ i = .int .i64 j ∧ Hid (∃ v, An W0 G S mb (Cr.allns (ks.take j) L2) v wr)) (fun i _ => ks.length - (intOf i).toNat)
          case atStart => exact ⟨0, Nat.zero_le _, rfl, Lib.hid (by simpa [Cr.allns] using A2.out)⟩
          case round =>
            obtain ⟨j, hj, rfl, hrel⟩ := hrel
            obtain ⟨vr, hr⟩ := hrel.out
            have RL := Lib.hid hr
            clear hrel A2 hr
            have z5 := AD.out.c5 _ RL.out.below
            by_cases hlt : j < ks.length
            · obtain ⟨b', off', es, rfl, hcl, hrd, hc⟩ := RK.out.get (i := j) (x := ks[j].enc) (by simp [Cr.encs_map, List.getElem?_eq_getElem hlt])
              have ST := Lib.hid (Cr.allns_take hlt L2)
              have CA := Lib.hid (IH.out _ (List.getElem_mem hlt) W0 wr _ b' (off' + j * 7) G S mb (Cr.allns (ks.take j) L2) vr hrd hc RL.out (by
                have h1 := Cr.allns_len (ks.take j) L2
                have h2 := Cr.wts_take hlt
                have h3 := LB2.out
                have h4 := HL.out
                omega))
              have i0 : (0 : Int) ≤ (j : Int) := Int.natCast_nonneg _
              have i1 : (j : Int) < (ks.length : Int) := by omega
              clear hrd hc hcl
              go_wp2_with fail
              refine CA.out.mono ?_
              rintro e w2 ⟨rfl, v2, hA2⟩
              have A2 := Lib.hid hA2
              clear hA2 CA
              go_wp2
              go_roundw
              case rel => exact ⟨j + 1, by omega, by go_num, Lib.hid ⟨v2, by rw [ST.out]; exact A2.out⟩⟩
              case measure => simp [intOf]; omega
            · obtain rfl : j = ks.length := by omega
              have h0 := RL.out
              rw [List.take_length] at h0
              obtain ⟨L3, hL3⟩ : ∃ L3, L3 = Cr.allns ks L2 := ⟨_, rfl⟩
              rw [← hL3] at h0
              have HL3 := Lib.hid hL3
              have LB3 : Hid (L3.length ≤ L.length + 1 + ns.length + Cr.wts ks) := by
                have h1 := Cr.allns_len ks L2
                have h3 := LB2.out
                show _ ≤ _
                rw [hL3]
                omega
              have A3 : Hid (∃ v, An W0 G S mb L3 v wr) := ⟨_, h0⟩
              have z6 := AD.out.c6 _ h0.below
              clear h0 hL3 RL hj hlt
              go_wp2_with fail
              clear z5 z6
              go_loopw [70] (fun i wr => ∃ j : Nat, j ≤ qs.length ∧ i = .int .i64 j ∧ Hid (∃ v, An W0 G S mb (Ca.allns (qs.take j) L3) v wr)) (fun i _ => qs.length - (intOf i).toNat)
              case atStart => exact ⟨0, Nat.zero_le _, rfl, Lib.hid (by simpa [Ca.allns] using A3.out)⟩
              case round =>
                obtain ⟨j, hj, rfl, hrel⟩ := hrel
                obtain ⟨vr, hr⟩ := hrel.out
                have RL := Lib.hid hr
                clear hrel A3 hr
                have z6 := AD.out.c6 _ RL.out.below
                by_cases hlt : j < qs.length
                · obtain ⟨b', off', es, rfl, hcl, hrd, hc⟩ := RA.out.get (i := j) (x := qs[j].enc) (by simp [Ca.encs_map, List.getElem?_eq_getElem hlt])
                  obtain ⟨nv, bs, rfl, hbl, hnv, hbd⟩ := Ca.openB hrd
                  obtain ⟨An', cn, rfl, _, _, hrn⟩ := open_strs hnv
                  have hcb : CellsAt W0 b' (off' + j * 9 + 2) bs := fun i u hi => by
                    have := hc (i + 2) u (by simpa using hi)
                    rw [show off' + j * 9 + 2 + i = off' + j * 9 + (i + 2) by omega]
                    exact this
                  have e1 := cell_below RL.out.below (hc 1 _ rfl)
                  have HBD := Lib.hid hbd
                  have HCB := Lib.hid hcb
                  have HRN := Lib.hid hrn
                  have ST := Lib.hid (Ca.allns_take hlt L3)
                  have i0 : (0 : Int) ≤ (j : Int) := Int.natCast_nonneg _
                  have i1 : (j : Int) < (qs.length : Int) := by omega
                  have IAJ := Lib.hid (IA.out _ (List.getElem_mem hlt))
                  have NJ := Lib.hid (HQM.out _ (List.getElem_mem hlt))
                  have LB4 : Hid ((Ca.allns (qs.take j) L3).length + (qs[j].names.length + qs[j].body.wt) ≤ 3000000) := by
                    have h1 := Ca.allns_len (qs.take j) L3
                    have h2 := Ca.wts_take hlt
                    have h3 := LB3.out
                    have h4 := HL.out
                    show _ ≤ _
                    omega
                  generalize qs[j].names = nms at *
                  generalize qs[j].body = bd at *
                  generalize Ca.allns (qs.take j) L3 = L4 at *
                  have nj0 := NJ.out.1
                  have A4 : Hid (∃ v, An W0 G S mb L4 v wr) := ⟨vr, RL.out⟩
                  clear hrd hc hcl hbl hnv hbd hrn hcb RL
                  go_wp2_with fail
                  clear z6 e1
                  go_loopw [82] (fun i wr => ∃ t : Nat, t ≤ nms.length ∧ i = .int .i64 t ∧ Hid (∃ v, An W0 G S mb (adds L4 (nms.take t)) v wr)) (fun i _ => nms.length - (intOf i).toNat)
                  case atStart => exact ⟨0, Nat.zero_le _, rfl, Lib.hid (by simpa [adds] using A4.out)⟩
                  case round =>
                    obtain ⟨t, ht, rfl, hrel⟩ := hrel
                    obtain ⟨vr, hr⟩ := hrel.out
                    have RL := Lib.hid hr
                    clear hrel A4 hr
                    by_cases hlt2 : t < nms.length
                    · obtain ⟨b2, off2, rfl, e0⟩ := strs_get (HRN.out.below (by omega) RL.out.below) hlt2
                      have ST2 := Lib.hid (adds_step hlt2 L4)
                      have LN : Hid ((adds L4 (nms.take t)).length ≤ 4000000) := by
                        have h1 := adds_len (nms.take t) L4
                        have h2 := List.length_take_le t nms
                        have h3 := LB4.out
                        show _ ≤ _
                        omega
                      have CA := Lib.hid (closeName nms[t] (NJ.out.2 _ (List.getElem_mem hlt2)) W0 _ G S mb _ vr LN.out RL.out)
                      have j0 : (0 : Int) ≤ (t : Int) := Int.natCast_nonneg _
                      have j1 : (t : Int) < (nms.length : Int) := by omega
                      go_wp2_with fail
                      refine CA.out.mono ?_
                      rintro e w2 ⟨rfl, v2, hA2⟩
                      have A2 := Lib.hid hA2
                      clear hA2 CA
                      go_wp2
                      go_roundw
                      case rel => exact ⟨t + 1, by omega, by go_num, Lib.hid ⟨v2, by rw [ST2.out]; exact A2.out⟩⟩
                      case measure => simp [intOf]; omega
                    · obtain rfl : t = nms.length := by omega
                      have h0 := RL.out
                      rw [List.take_length] at h0
                      have CA := Lib.hid (IAJ.out W0 _ _ b' (off' + j * 9 + 2) G S mb (adds L4 nms) vr HBD.out HCB.out h0 (by
                        have h1 := adds_len nms L4
                        have h3 := LB4.out
                        omega))
                      have z6 := AD.out.c6 _ RL.out.below
                      clear h0 RL
                      go_wp2_with fail
                      refine CA.out.mono ?_
                      rintro e w2 ⟨rfl, v2, hA2⟩
                      have A2 := Lib.hid hA2
                      clear hA2 CA z6
                      go_wp2
                      go_roundw
                      case rel => exact ⟨j + 1, by omega, by go_num, Lib.hid ⟨v2, by rw [ST.out]; exact A2.out⟩⟩
                      case measure => simp [intOf]; omega
                · obtain rfl : j = qs.length := by omega
                  have h0 := RL.out
                  rw [List.take_length] at h0
                  have GX := Lib.hid h0
                  clear h0 RL
                  go_wp2_with fail
                  go_end0
                  exact ⟨rfl, _, by rw [HR.out, ← HL2.out, ← HL3.out]; exact GX.out⟩
    · by_cases hk8 : k = 8
      · subst hk8
        have E1 : Hid (L1 = addN L n) := by show _ = _; rw [HL1.out, if_pos ⟨HN.out, .inr rfl⟩]
        clear hk1
        go_enter Try.func64, Try.ntmps64
        go_wp2_with fail
        refine CADD.out.mono ?_
        rintro e w1 ⟨rfl, v1, hA1⟩
        have A1 : Hid (∃ v, An W0 G S mb L1 v w1) := ⟨v1, by rw [E1.out]; exact hA1⟩
        have y4 := AD.out.c4 _ hA1.below
        clear hA1 CADD
        go_wp2_with fail
        clear y4
        try clear z0
        try clear z1
        try clear z4
        go_loopw [40] (fun i wr => ∃ j : Nat, j ≤ ns.length ∧ i = .int .i64 j ∧ Hid (∃ v, An W0 G S mb (adds L1 (ns.take j)) v wr)) (fun i _ => ns.length - (intOf i).toNat)
        case atStart => exact ⟨0, Nat.zero_le _, rfl, Lib.hid (by simpa [adds] using A1.out)⟩
        case round =>
          obtain ⟨j, hj, rfl, hrel⟩ := hrel
          obtain ⟨vr, hr⟩ := hrel.out
          have RL := Lib.hid hr
          clear hrel A1 hr
          by_cases hlt : j < ns.length
          · obtain ⟨b', off', rfl, e0⟩ := strs_get (RN.out.below (by omega) RL.out.below) hlt
            have ST := Lib.hid (adds_step hlt L1)
            have LN : Hid ((adds L1 (ns.take j)).length ≤ 4000000) := by
              have h1 := adds_len (ns.take j) L1
              have h2 := List.length_take_le j ns
              have h3 := LB.out
              have h4 := HL.out
              show _ ≤ _
              omega
            have CA := Lib.hid (closeName ns[j] (HNX.out _ (List.getElem_mem hlt)) W0 wr G S mb _ vr LN.out RL.out)
            have i0 : (0 : Int) ≤ (j : Int) := Int.natCast_nonneg _
            have i1 : (j : Int) < (ns.length : Int) := by omega
            go_wp2_with fail
            refine CA.out.mono ?_
            rintro e w2 ⟨rfl, v2, hA2⟩
            have A2 := Lib.hid hA2
            clear hA2 CA
            go_wp2
            go_roundw
            case rel => exact ⟨j + 1, by omega, by go_num, Lib.hid ⟨v2, by rw [ST.out]; exact A2.out⟩⟩
            case measure => simp [intOf]; omega
          · obtain rfl : j = ns.length := by omega
            have h0 := RL.out
            rw [List.take_length] at h0
            obtain ⟨L2, hL2⟩ : ∃ L2, L2 = adds L1 ns := ⟨_, rfl⟩
            rw [← hL2] at h0
            have HL2 := Lib.hid hL2
            have LB2 : Hid (L2.length ≤ L.length + 1 + ns.length) := by
              have h1 := adds_len ns L1
              have h3 := LB.out
              show _ ≤ _
              rw [hL2]
              omega
            have A2 : Hid (∃ v, An W0 G S mb L2 v wr) := ⟨_, h0⟩
            have z5 := AD.out.c5 _ h0.below
            clear h0 hL2 RL hj hlt
            go_wp2_with fail
            clear z5
            go_loopw [53] (fun i wr => ∃ j : Nat, j ≤ ks.length ∧ i = .int .i64 j ∧ Hid (∃ v, An W0 G S mb (Cr.allns (ks.take j) L2) v wr)) (fun i _ => ks.length - (intOf i).toNat)
            case atStart => exact ⟨0, Nat.zero_le _, rfl, Lib.hid (by simpa [Cr.allns] using A2.out)⟩
            case round =>
              obtain ⟨j, hj, rfl, hrel⟩ := hrel
              obtain ⟨vr, hr⟩ := hrel.out
              have RL := Lib.hid hr
              clear hrel A2 hr
              have z5 := AD.out.c5 _ RL.out.below
              by_cases hlt : j < ks.length
              · obtain ⟨b', off', es, rfl, hcl, hrd, hc⟩ := RK.out.get (i := j) (x := ks[j].enc) (by simp [Cr.encs_map, List.getElem?_eq_getElem hlt])
                have ST := Lib.hid (Cr.allns_take hlt L2)
                have CA := Lib.hid (IH.out _ (List.getElem_mem hlt) W0 wr _ b' (off' + j * 7) G S mb (Cr.allns (ks.take j) L2) vr hrd hc RL.out (by
                  have h1 := Cr.allns_len (ks.take j) L2
                  have h2 := Cr.wts_take hlt
                  have h3 := LB2.out
                  have h4 := HL.out
                  omega))
                have i0 : (0 : Int) ≤ (j : Int) := Int.natCast_nonneg _
                have i1 : (j : Int) < (ks.length : Int) := by omega
                clear hrd hc hcl
                go_wp2_with fail
                refine CA.out.mono ?_
                rintro e w2 ⟨rfl, v2, hA2⟩
                have A2 := Lib.hid hA2
                clear hA2 CA
                go_wp2
                go_roundw
                case rel => exact ⟨j + 1, by omega, by go_num, Lib.hid ⟨v2, by rw [ST.out]; exact A2.out⟩⟩
                case measure => simp [intOf]; omega
              · obtain rfl : j = ks.length := by omega
                have h0 := RL.out
                rw [List.take_length] at h0
                obtain ⟨L3, hL3⟩ : ∃ L3, L3 = Cr.allns ks L2 := ⟨_, rfl⟩
                rw [← hL3] at h0
                have HL3 := Lib.hid hL3
                have LB3 : Hid (L3.length ≤ L.length + 1 + ns.length + Cr.wts ks) := by
                  have h1 := Cr.allns_len ks L2
                  have h3 := LB2.out
                  show _ ≤ _
                  rw [hL3]
                  omega
                have A3 : Hid (∃ v, An W0 G S mb L3 v wr) := ⟨_, h0⟩
                have z6 := AD.out.c6 _ h0.below
                clear h0 hL3 RL hj hlt
                go_wp2_with fail
                clear z5 z6
                go_loopw [70] (fun i wr => ∃ j : Nat, j ≤ qs.length ∧ i = .int .i64 j ∧ Hid (∃ v, An W0 G S mb (Ca.allns (qs.take j) L3) v wr)) (fun i _ => qs.length - (intOf i).toNat)
                case atStart => exact ⟨0, Nat.zero_le _, rfl, Lib.hid (by simpa [Ca.allns] using A3.out)⟩
                case round =>
                  obtain ⟨j, hj, rfl, hrel⟩ := hrel
                  obtain ⟨vr, hr⟩ := hrel.out
                  have RL := Lib.hid hr
                  clear hrel A3 hr
                  have z6 := AD.out.c6 _ RL.out.below
                  by_cases hlt : j < qs.length
                  · obtain ⟨b', off', es, rfl, hcl, hrd, hc⟩ := RA.out.get (i := j) (x := qs[j].enc) (by simp [Ca.encs_map, List.getElem?_eq_getElem hlt])
                    obtain ⟨nv, bs, rfl, hbl, hnv, hbd⟩ := Ca.openB hrd
                    obtain ⟨An', cn, rfl, _, _, hrn⟩ := open_strs hnv
                    have hcb : CellsAt W0 b' (off' + j * 9 + 2) bs := fun i u hi => by
                      have := hc (i + 2) u (by simpa using hi)
                      rw [show off' + j * 9 + 2 + i = off' + j * 9 + (i + 2) by omega]
                      exact this
                    have e1 := cell_below RL.out.below (hc 1 _ rfl)
                    have HBD := Lib.hid hbd
                    have HCB := Lib.hid hcb
                    have HRN := Lib.hid hrn
                    have ST := Lib.hid (Ca.allns_take hlt L3)
                    have i0 : (0 : Int) ≤ (j : Int) := Int.natCast_nonneg _
                    have i1 : (j : Int) < (qs.length : Int) := by omega
                    have IAJ := Lib.hid (IA.out _ (List.getElem_mem hlt))
                    have NJ := Lib.hid (HQM.out _ (List.getElem_mem hlt))
                    have LB4 : Hid ((Ca.allns (qs.take j) L3).length + (qs[j].names.length + qs[j].body.wt) ≤ 3000000) := by
                      have h1 := Ca.allns_len (qs.take j) L3
                      have h2 := Ca.wts_take hlt
                      have h3 := LB3.out
                      have h4 := HL.out
                      show _ ≤ _
                      omega
                    generalize qs[j].names = nms at *
                    generalize qs[j].body = bd at *
                    generalize Ca.allns (qs.take j) L3 = L4 at *
                    have nj0 := NJ.out.1
                    have A4 : Hid (∃ v, An W0 G S mb L4 v wr) := ⟨vr, RL.out⟩
                    clear hrd hc hcl hbl hnv hbd hrn hcb RL
                    go_wp2_with fail
                    clear z6 e1
                    go_loopw [82] (fun i wr => ∃ t : Nat, t ≤ nms.length ∧ i = .int .i64 t ∧ Hid (∃ v, An W0 G S mb (adds L4 (nms.take t)) v wr)) (fun i _ => nms.length - (intOf i).toNat)
                    case atStart => exact ⟨0, Nat.zero_le _, rfl, Lib.hid (by simpa [adds] using A4.out)⟩
                    case round =>
                      obtain ⟨t, ht, rfl, hrel⟩ := hrel
                      obtain ⟨vr, hr⟩ := hrel.out
                      have RL := Lib.hid hr
                      clear hrel A4 hr
                      by_cases hlt2 : t < nms.length
                      · obtain ⟨b2, off2, rfl, e0⟩ := strs_get (HRN.out.below (by omega) RL.out.below) hlt2
                        have ST2 := Lib.hid (adds_step hlt2 L4)
                        have LN : Hid ((adds L4 (nms.take t)).length ≤ 4000000) := by
                          have h1 := adds_len (nms.take t) L4
                          have h2 := List.length_take_le t nms
                          have h3 := LB4.out
                          show _ ≤ _
                          omega
                        have CA := Lib.hid (closeName nms[t] (NJ.out.2 _ (List.getElem_mem hlt2)) W0 _ G S mb _ vr LN.out RL.out)
                        have j0 : (0 : Int) ≤ (t : Int) := Int.natCast_nonneg _
                        have j1 : (t : Int) < (nms.length : Int) := by omega
                        go_wp2_with fail
                        refine CA.out.mono ?_
                        rintro e w2 ⟨rfl, v2, hA2⟩
                        have A2 := Lib.hid hA2
                        clear hA2 CA
                        go_wp2
                        go_roundw
                        case rel => exact ⟨t + 1, by omega, by go_num, Lib.hid ⟨v2, by rw [ST2.out]; exact A2.out⟩⟩
                        case measure => simp [intOf]; omega
                      · obtain rfl : t = nms.length := by omega
                        have h0 := RL.out
                        rw [List.take_length] at h0
                        have CA := Lib.hid (IAJ.out W0 _ _ b' (off' + j * 9 + 2) G S mb (adds L4 nms) vr HBD.out HCB.out h0 (by
                          have h1 := adds_len nms L4
                          have h3 := LB4.out
                          omega))
                        have z6 := AD.out.c6 _ RL.out.below
                        clear h0 RL
                        go_wp2_with fail
                        refine CA.out.mono ?_
                        rintro e w2 ⟨rfl, v2, hA2⟩
                        have A2 := Lib.hid hA2
                        clear hA2 CA z6
                        go_wp2
                        go_roundw
                        case rel => exact ⟨j + 1, by omega, by go_num, Lib.hid ⟨v2, by rw [ST.out]; exact A2.out⟩⟩
                        case measure => simp [intOf]; omega
                  · obtain rfl : j = qs.length := by omega
                    have h0 := RL.out
                    rw [List.take_length] at h0
                    have GX := Lib.hid h0
                    clear h0 RL
                    go_wp2_with fail
                    go_end0
                    exact ⟨rfl, _, by rw [HR.out, ← HL2.out, ← HL3.out]; exact GX.out⟩
      · have E1 : Hid (L1 = L) := by show _ = _; rw [HL1.out, if_neg (by rintro ⟨_, h | h⟩ <;> contradiction)]
        have k1 : (k == 1) = false := beq_eq_false_iff_ne.2 hk1
        have k8 : (k == 8) = false := beq_eq_false_iff_ne.2 hk8
        clear hk1 hk8
        have A1 : Hid (∃ v, An W0 G S mb L1 v w) := ⟨v, by rw [E1.out]; exact HA.out⟩
        go_enter Try.func64, Try.ntmps64
        go_wp2_with fail
        try clear z0
        try clear z1
        try clear z4
        go_loopw [40] (fun i wr => ∃ j : Nat, j ≤ ns.length ∧ i = .int .i64 j ∧ Hid (∃ v, An W0 G S mb (adds L1 (ns.take j)) v wr)) (fun i _ => ns.length - (intOf i).toNat)
        case atStart => exact ⟨0, Nat.zero_le _, rfl, Lib.hid (by simpa [adds] using A1.out)⟩
        case round =>
          obtain ⟨j, hj, rfl, hrel⟩ := hrel
          obtain ⟨vr, hr⟩ := hrel.out
          have RL := Lib.hid hr
          clear hrel A1 hr
          by_cases hlt : j < ns.length
          · obtain ⟨b', off', rfl, e0⟩ := strs_get (RN.out.below (by omega) RL.out.below) hlt
            have ST := Lib.hid (adds_step hlt L1)
            have LN : Hid ((adds L1 (ns.take j)).length ≤ 4000000) := by
              have h1 := adds_len (ns.take j) L1
              have h2 := List.length_take_le j ns
              have h3 := LB.out
              have h4 := HL.out
              show _ ≤ _
              omega
            have CA := Lib.hid (closeName ns[j] (HNX.out _ (List.getElem_mem hlt)) W0 wr G S mb _ vr LN.out RL.out)
            have i0 : (0 : Int) ≤ (j : Int) := Int.natCast_nonneg _
            have i1 : (j : Int) < (ns.length : Int) := by omega
            go_wp2_with fail
            refine CA.out.mono ?_
            rintro e w2 ⟨rfl, v2, hA2⟩
            have A2 := Lib.hid hA2
            clear hA2 CA
            go_wp2
            go_roundw
            case rel => exact ⟨j + 1, by omega, by go_num, Lib.hid ⟨v2, by rw [ST.out]; exact A2.out⟩⟩
            case measure => simp [intOf]; omega
          · obtain rfl : j = ns.length := by omega
            have h0 := RL.out
            rw [List.take_length] at h0
            obtain ⟨L2, hL2⟩ : ∃ L2, L2 = adds L1 ns := ⟨_, rfl⟩
            rw [← hL2] at h0
            have HL2 := Lib.hid hL2
            have LB2 : Hid (L2.length ≤ L.length + 1 + ns.length) := by
              have h1 := adds_len ns L1
              have h3 := LB.out
              show _ ≤ _
              rw [hL2]
              omega
            have A2 : Hid (∃ v, An W0 G S mb L2 v wr) := ⟨_, h0⟩
            have z5 := AD.out.c5 _ h0.below
            clear h0 hL2 RL hj hlt
            go_wp2_with fail
            clear z5
            go_loopw [53] (fun i wr => ∃ j : Nat, j ≤ ks.length ∧ i = .int .i64 j ∧ Hid (∃ v, An W0 G S mb (Cr.allns (ks.take j) L2) v wr)) (fun i _ => ks.length - (intOf i).toNat)
            case atStart => exact ⟨0, Nat.zero_le _, rfl, Lib.hid (by simpa [Cr.allns] using A2.out)⟩
            case round =>
              obtain ⟨j, hj, rfl, hrel⟩ := hrel
              obtain ⟨vr, hr⟩ := hrel.out
              have RL := Lib.hid hr
              clear hrel A2 hr
              have z5 := AD.out.c5 _ RL.out.below
              by_cases hlt : j < ks.length
              · obtain ⟨b', off', es, rfl, hcl, hrd, hc⟩ := RK.out.get (i := j) (x := ks[j].enc) (by simp [Cr.encs_map, List.getElem?_eq_getElem hlt])
                have ST := Lib.hid (Cr.allns_take hlt L2)
                have CA := Lib.hid (IH.out _ (List.getElem_mem hlt) W0 wr _ b' (off' + j * 7) G S mb (Cr.allns (ks.take j) L2) vr hrd hc RL.out (by
                  have h1 := Cr.allns_len (ks.take j) L2
                  have h2 := Cr.wts_take hlt
                  have h3 := LB2.out
                  have h4 := HL.out
                  omega))
                have i0 : (0 : Int) ≤ (j : Int) := Int.natCast_nonneg _
                have i1 : (j : Int) < (ks.length : Int) := by omega
                clear hrd hc hcl
                go_wp2_with fail
                refine CA.out.mono ?_
                rintro e w2 ⟨rfl, v2, hA2⟩
                have A2 := Lib.hid hA2
                clear hA2 CA
                go_wp2
                go_roundw
                case rel => exact ⟨j + 1, by omega, by go_num, Lib.hid ⟨v2, by rw [ST.out]; exact A2.out⟩⟩
                case measure => simp [intOf]; omega
              · obtain rfl : j = ks.length := by omega
                have h0 := RL.out
                rw [List.take_length] at h0
                obtain ⟨L3, hL3⟩ : ∃ L3, L3 = Cr.allns ks L2 := ⟨_, rfl⟩
                rw [← hL3] at h0
                have HL3 := Lib.hid hL3
                have LB3 : Hid (L3.length ≤ L.length + 1 + ns.length + Cr.wts ks) := by
                  have h1 := Cr.allns_len ks L2
                  have h3 := LB2.out
                  show _ ≤ _
                  rw [hL3]
                  omega
                have A3 : Hid (∃ v, An W0 G S mb L3 v wr) := ⟨_, h0⟩
                have z6 := AD.out.c6 _ h0.below
                clear h0 hL3 RL hj hlt
                go_wp2_with fail
                clear z5 z6
                go_loopw [70] (fun i wr => ∃ j : Nat, j ≤ qs.length ∧ i = .int .i64 j ∧ Hid (∃ v, An W0 G S mb (Ca.allns (qs.take j) L3) v wr)) (fun i _ => qs.length - (intOf i).toNat)
                case atStart => exact ⟨0, Nat.zero_le _, rfl, Lib.hid (by simpa [Ca.allns] using A3.out)⟩
                case round =>
                  obtain ⟨j, hj, rfl, hrel⟩ := hrel
                  obtain ⟨vr, hr⟩ := hrel.out
                  have RL := Lib.hid hr
                  clear hrel A3 hr
                  have z6 := AD.out.c6 _ RL.out.below
                  by_cases hlt : j < qs.length
                  · obtain ⟨b', off', es, rfl, hcl, hrd, hc⟩ := RA.out.get (i := j) (x := qs[j].enc) (by simp [Ca.encs_map, List.getElem?_eq_getElem hlt])
                    obtain ⟨nv, bs, rfl, hbl, hnv, hbd⟩ := Ca.openB hrd
                    obtain ⟨An', cn, rfl, _, _, hrn⟩ := open_strs hnv
                    have hcb : CellsAt W0 b' (off' + j * 9 + 2) bs := fun i u hi => by
                      have := hc (i + 2) u (by simpa using hi)
                      rw [show off' + j * 9 + 2 + i = off' + j * 9 + (i + 2) by omega]
                      exact this
                    have e1 := cell_below RL.out.below (hc 1 _ rfl)
                    have HBD := Lib.hid hbd
                    have HCB := Lib.hid hcb
                    have HRN := Lib.hid hrn
                    have ST := Lib.hid (Ca.allns_take hlt L3)
                    have i0 : (0 : Int) ≤ (j : Int) := Int.natCast_nonneg _
                    have i1 : (j : Int) < (qs.length : Int) := by omega
                    have IAJ := Lib.hid (IA.out _ (List.getElem_mem hlt))
                    have NJ := Lib.hid (HQM.out _ (List.getElem_mem hlt))
                    have LB4 : Hid ((Ca.allns (qs.take j) L3).length + (qs[j].names.length + qs[j].body.wt) ≤ 3000000) := by
                      have h1 := Ca.allns_len (qs.take j) L3
                      have h2 := Ca.wts_take hlt
                      have h3 := LB3.out
                      have h4 := HL.out
                      show _ ≤ _
                      omega
                    generalize qs[j].names = nms at *
                    generalize qs[j].body = bd at *
                    generalize Ca.allns (qs.take j) L3 = L4 at *
                    have nj0 := NJ.out.1
                    have A4 : Hid (∃ v, An W0 G S mb L4 v wr) := ⟨vr, RL.out⟩
                    clear hrd hc hcl hbl hnv hbd hrn hcb RL
                    go_wp2_with fail
                    clear z6 e1
                    go_loopw [82] (fun i wr => ∃ t : Nat, t ≤ nms.length ∧ i = .int .i64 t ∧ Hid (∃ v, An W0 G S mb (adds L4 (nms.take t)) v wr)) (fun i _ => nms.length - (intOf i).toNat)
                    case atStart => exact ⟨0, Nat.zero_le _, rfl, Lib.hid (by simpa [adds] using A4.out)⟩
                    case round =>
                      obtain ⟨t, ht, rfl, hrel⟩ := hrel
                      obtain ⟨vr, hr⟩ := hrel.out
                      have RL := Lib.hid hr
                      clear hrel A4 hr
                      by_cases hlt2 : t < nms.length
                      · obtain ⟨b2, off2, rfl, e0⟩ := strs_get (HRN.out.below (by omega) RL.out.below) hlt2
                        have ST2 := Lib.hid (adds_step hlt2 L4)
                        have LN : Hid ((adds L4 (nms.take t)).length ≤ 4000000) := by
                          have h1 := adds_len (nms.take t) L4
                          have h2 := List.length_take_le t nms
                          have h3 := LB4.out
                          show _ ≤ _
                          omega
                        have CA := Lib.hid (closeName nms[t] (NJ.out.2 _ (List.getElem_mem hlt2)) W0 _ G S mb _ vr LN.out RL.out)
                        have j0 : (0 : Int) ≤ (t : Int) := Int.natCast_nonneg _
                        have j1 : (t : Int) < (nms.length : Int) := by omega
                        go_wp2_with fail
                        refine CA.out.mono ?_
                        rintro e w2 ⟨rfl, v2, hA2⟩
                        have A2 := Lib.hid hA2
                        clear hA2 CA
                        go_wp2
                        go_roundw
                        case rel => exact ⟨t + 1, by omega, by go_num, Lib.hid ⟨v2, by rw [ST2.out]; exact A2.out⟩⟩
                        case measure => simp [intOf]; omega
                      · obtain rfl : t = nms.length := by omega
                        have h0 := RL.out
                        rw [List.take_length] at h0
                        have CA := Lib.hid (IAJ.out W0 _ _ b' (off' + j * 9 + 2) G S mb (adds L4 nms) vr HBD.out HCB.out h0 (by
                          have h1 := adds_len nms L4
                          have h3 := LB4.out
                          omega))
                        have z6 := AD.out.c6 _ RL.out.below
                        clear h0 RL
                        go_wp2_with fail
                        refine CA.out.mono ?_
                        rintro e w2 ⟨rfl, v2, hA2⟩
                        have A2 := Lib.hid hA2
                        clear hA2 CA z6
                        go_wp2
                        go_roundw
                        case rel => exact ⟨j + 1, by omega, by go_num, Lib.hid ⟨v2, by rw [ST.out]; exact A2.out⟩⟩
                        case measure => simp [intOf]; omega
                  · obtain rfl : j = qs.length := by omega
                    have h0 := RL.out
                    rw [List.take_length] at h0
                    have GX := Lib.hid h0
                    clear h0 RL
                    go_wp2_with fail
                    go_end0
                    exact ⟨rfl, _, by rw [HR.out, ← HL2.out, ← HL3.out]; exact GX.out⟩
  · have E1 : Hid (L1 = L) := by show _ = _; rw [HL1.out, if_neg (fun h => h.1 (emp_t hn))]
    have A1 : Hid (∃ v, An W0 G S mb L1 v w) := ⟨v, by rw [E1.out]; exact HA.out⟩
    by_cases hk1 : k = 1
    · subst hk1
      go_enter Try.func64, Try.ntmps64
      go_wp2_with fail
      try clear z0
      try clear z1
      try clear z4
      go_loopw [40] (fun i wr => ∃ j : Nat, j ≤ ns.length ∧ i = .int .i64 j ∧ Hid (∃ v, An W0 G S mb (adds L1 (ns.take j)) v wr)) (fun i _ => ns.length - (intOf i).toNat)
      case atStart => exact ⟨0, Nat.zero_le _, rfl, Lib.hid (by simpa [adds] using A1.out)⟩
      case round =>
        obtain ⟨j, hj, rfl, hrel⟩ := hrel
        obtain ⟨vr, hr⟩ := hrel.out
        have RL := Lib.hid hr
        clear hrel A1 hr
        by_cases hlt : j < ns.length
        · obtain ⟨b', off', rfl, e0⟩ := strs_get (RN.out.below (by omega) RL.out.below) hlt
          have ST := Lib.hid (adds_step hlt L1)
          have LN : Hid ((adds L1 (ns.take j)).length ≤ 4000000) := by
            have h1 := adds_len (ns.take j) L1
            have h2 := List.length_take_le j ns
            have h3 := LB.out
            have h4 := HL.out
            show _ ≤ _
            omega
          have CA := Lib.hid (closeName ns[j] (HNX.out _ (List.getElem_mem hlt)) W0 wr G S mb _ vr LN.out RL.out)
          have i0 : (0 : Int) ≤ (j : Int) := Int.natCast_nonneg _
          have i1 : (j : Int) < (ns.length : Int) := by omega
          go_wp2_with fail
          refine CA.out.mono ?_
          rintro e w2 ⟨rfl, v2, hA2⟩
          have A2 := Lib.hid hA2
          clear hA2 CA
          go_wp2
          go_roundw
          case rel => exact ⟨j + 1, by omega, by go_num, Lib.hid ⟨v2, by rw [ST.out]; exact A2.out⟩⟩
          case measure => simp [intOf]; omega
        · obtain rfl : j = ns.length := by omega
          have h0 := RL.out
          rw [List.take_length] at h0
          obtain ⟨L2, hL2⟩ : ∃ L2, L2 = adds L1 ns := ⟨_, rfl⟩
          rw [← hL2] at h0
          have HL2 := Lib.hid hL2
          have LB2 : Hid (L2.length ≤ L.length + 1 + ns.length) := by
            have h1 := adds_len ns L1
            have h3 := LB.out
            show _ ≤ _
            rw [hL2]
            omega
          have A2 : Hid (∃ v, An W0 G S mb L2 v wr) := ⟨_, h0⟩
          have z5 := AD.out.c5 _ h0.below
          clear h0 hL2 RL hj hlt
          go_wp2_with fail
          clear z5
          go_loopw [53] (fun i wr => ∃ j : Nat, j ≤ ks.length ∧ i = .int .i64 j ∧ Hid (∃ v, An W0 G S mb (Cr.allns (ks.take j) L2) v wr)) (fun i _ => ks.length - (intOf i).toNat)
          case atStart => exact ⟨0, Nat.zero_le _, rfl, Lib.hid (by simpa [Cr.allns] using A2.out)⟩
          case round =>
            obtain ⟨j, hj, rfl, hrel⟩ := hrel
            obtain ⟨vr, hr⟩ := hrel.out
            have RL := Lib.hid hr
            clear hrel A2 hr
            have z5 := AD.out.c5 _ RL.out.below
            by_cases hlt : j < ks.length
            · obtain ⟨b', off', es, rfl, hcl, hrd, hc⟩ := RK.out.get (i := j) (x := ks[j].enc) (by simp [Cr.encs_map, List.getElem?_eq_getElem hlt])
              have ST := Lib.hid (Cr.allns_take hlt L2)
              have CA := Lib.hid (IH.out _ (List.getElem_mem hlt) W0 wr _ b' (off' + j * 7) G S mb (Cr.allns (ks.take j) L2) vr hrd hc RL.out (by
                have h1 := Cr.allns_len (ks.take j) L2
                have h2 := Cr.wts_take hlt
                have h3 := LB2.out
                have h4 := HL.out
                omega))
              have i0 : (0 : Int) ≤ (j : Int) := Int.natCast_nonneg _
              have i1 : (j : Int) < (ks.length : Int) := by omega
              clear hrd hc hcl
              go_wp2_with fail
              refine CA.out.mono ?_
              rintro e w2 ⟨rfl, v2, hA2⟩
              have A2 := Lib.hid hA2
              clear hA2 CA
              go_wp2
              go_roundw
              case rel => exact ⟨j + 1, by omega, by go_num, Lib.hid ⟨v2, by rw [ST.out]; exact A2.out⟩⟩
              case measure => simp [intOf]; omega
            · obtain rfl : j = ks.length := by omega
              have h0 := RL.out
              rw [List.take_length] at h0
              obtain ⟨L3, hL3⟩ : ∃ L3, L3 = Cr.allns ks L2 := ⟨_, rfl⟩
              rw [← hL3] at h0
              have HL3 := Lib.hid hL3
              have LB3 : Hid (L3.length ≤ L.length + 1 + ns.length + Cr.wts ks) := by
                have h1 := Cr.allns_len ks L2
                have h3 := LB2.out
                show _ ≤ _
                rw [hL3]
                omega
              have A3 : Hid (∃ v, An W0 G S mb L3 v wr) := ⟨_, h0⟩
              have z6 := AD.out.c6 _ h0.below
              clear h0 hL3 RL hj hlt
              go_wp2_with fail
              clear z5 z6
              go_loopw [70] (fun i wr => ∃ j : Nat, j ≤ qs.length ∧ i = .int .i64 j ∧ Hid (∃ v, An W0 G S mb (Ca.allns (qs.take j) L3) v wr)) (fun i _ => qs.length - (intOf i).toNat)
              case atStart => exact ⟨0, Nat.zero_le _, rfl, Lib.hid (by simpa [Ca.allns] using A3.out)⟩
              case round =>
                obtain ⟨j, hj, rfl, hrel⟩ := hrel
                obtain ⟨vr, hr⟩ := hrel.out
                have RL := Lib.hid hr
                clear hrel A3 hr
                have z6 := AD.out.c6 _ RL.out.below
                by_cases hlt : j < qs.length
                · obtain ⟨b', off', es, rfl, hcl, hrd, hc⟩ := RA.out.get (i := j) (x := qs[j].enc) (by simp [Ca.encs_map, List.getElem?_eq_getElem hlt])
                  obtain ⟨nv, bs, rfl, hbl, hnv, hbd⟩ := Ca.openB hrd
                  obtain ⟨An', cn, rfl, _, _, hrn⟩ := open_strs hnv
                  have hcb : CellsAt W0 b' (off' + j * 9 + 2) bs := fun i u hi => by
                    have := hc (i + 2) u (by simpa using hi)
                    rw [show off' + j * 9 + 2 + i = off' + j * 9 + (i + 2) by omega]
                    exact this
                  have e1 := cell_below RL.out.below (hc 1 _ rfl)
                  have HBD := Lib.hid hbd
                  have HCB := Lib.hid hcb
                  have HRN := Lib.hid hrn
                  have ST := Lib.hid (Ca.allns_take hlt L3)
                  have i0 : (0 : Int) ≤ (j : Int) := Int.natCast_nonneg _
                  have i1 : (j : Int) < (qs.length : Int) := by omega
                  have IAJ := Lib.hid (IA.out _ (List.getElem_mem hlt))
                  have NJ := Lib.hid (HQM.out _ (List.getElem_mem hlt))
                  have LB4 : Hid ((Ca.allns (qs.take j) L3).length + (qs[j].names.length + qs[j].body.wt) ≤ 3000000) := by
                    have h1 := Ca.allns_len (qs.take j) L3
                    have h2 := Ca.wts_take hlt
                    have h3 := LB3.out
                    have h4 := HL.out
                    show _ ≤ _
                    omega
                  generalize qs[j].names = nms at *
                  generalize qs[j].body = bd at *
                  generalize Ca.allns (qs.take j) L3 = L4 at *
                  have nj0 := NJ.out.1
                  have A4 : Hid (∃ v, An W0 G S mb L4 v wr) := ⟨vr, RL.out⟩
                  clear hrd hc hcl hbl hnv hbd hrn hcb RL
                  go_wp2_with fail
                  clear z6 e1
                  go_loopw [82] (fun i wr => ∃ t : Nat, t ≤ nms.length ∧ i = .int .i64 t ∧ Hid (∃ v, An W0 G S mb (adds L4 (nms.take t)) v wr)) (fun i _ => nms.length - (intOf i).toNat)
                  case atStart => exact ⟨0, Nat.zero_le _, rfl, Lib.hid (by simpa [adds] using A4.out)⟩
                  case round =>
                    obtain ⟨t, ht, rfl, hrel⟩ := hrel
                    obtain ⟨vr, hr⟩ := hrel.out
                    have RL := Lib.hid hr
                    clear hrel A4 hr
                    by_cases hlt2 : t < nms.length
                    · obtain ⟨b2, off2, rfl, e0⟩ := strs_get (HRN.out.below (by omega) RL.out.below) hlt2
                      have ST2 := Lib.hid (adds_step hlt2 L4)
                      have LN : Hid ((adds L4 (nms.take t)).length ≤ 4000000) := by
                        have h1 := adds_len (nms.take t) L4
                        have h2 := List.length_take_le t nms
                        have h3 := LB4.out
                        show _ ≤ _
                        omega
                      have CA := Lib.hid (closeName nms[t] (NJ.out.2 _ (List.getElem_mem hlt2)) W0 _ G S mb _ vr LN.out RL.out)
                      have j0 : (0 : Int) ≤ (t : Int) := Int.natCast_nonneg _
                      have j1 : (t : Int) < (nms.length : Int) := by omega
                      go_wp2_with fail
                      refine CA.out.mono ?_
                      rintro e w2 ⟨rfl, v2, hA2⟩
                      have A2 := Lib.hid hA2
                      clear hA2 CA
                      go_wp2
                      go_roundw
                      case rel => exact ⟨t + 1, by omega, by go_num, Lib.hid ⟨v2, by rw [ST2.out]; exact A2.out⟩⟩
                      case measure => simp [intOf]; omega
                    · obtain rfl : t = nms.length := by omega
                      have h0 := RL.out
                      rw [List.take_length] at h0
                      have CA := Lib.hid (IAJ.out W0 _ _ b' (off' + j * 9 + 2) G S mb (adds L4 nms) vr HBD.out HCB.out h0 (by
                        have h1 := adds_len nms L4
                        have h3 := LB4.out
                        omega))
                      have z6 := AD.out.c6 _ RL.out.below
                      clear h0 RL
                      go_wp2_with fail
                      refine CA.out.mono ?_
                      rintro e w2 ⟨rfl, v2, hA2⟩
                      have A2 := Lib.hid hA2
                      clear hA2 CA z6
                      go_wp2
                      go_roundw
                      case rel => exact ⟨j + 1, by omega, by go_num, Lib.hid ⟨v2, by rw [ST.out]; exact A2.out⟩⟩
                      case measure => simp [intOf]; omega
                · obtain rfl : j = qs.length := by omega
                  have h0 := RL.out
                  rw [List.take_length] at h0
                  have GX := Lib.hid h0
                  clear h0 RL
                  go_wp2_with fail
                  go_end0
                  exact ⟨rfl, _, by rw [HR.out, ← HL2.out, ← HL3.out]; exact GX.out⟩
    · by_cases hk8 : k = 8
      · subst hk8
        clear hk1
        go_enter Try.func64, Try.ntmps64
        go_wp2_with fail
        try clear z0
        try clear z1
        try clear z4
        go_loopw [40] (fun i wr => ∃ j : Nat, j ≤ ns.length ∧ i = .int .i64 j ∧ Hid (∃ v, An W0 G S mb (adds L1 (ns.take j)) v wr)) (fun i _ => ns.length - (intOf i).toNat)
        case atStart => exact ⟨0, Nat.zero_le _, rfl, Lib.hid (by simpa [adds] using A1.out)⟩
        case round =>
          obtain ⟨j, hj, rfl, hrel⟩ := hrel
          obtain ⟨vr, hr⟩ := hrel.out
          have RL := Lib.hid hr
          clear hrel A1 hr
          by_cases hlt : j < ns.length
          · obtain ⟨b', off', rfl, e0⟩ := strs_get (RN.out.below (by omega) RL.out.below) hlt
            have ST := Lib.hid (adds_step hlt L1)
            have LN : Hid ((adds L1 (ns.take j)).length ≤ 4000000) := by
              have h1 := adds_len (ns.take j) L1
              have h2 := List.length_take_le j ns
              have h3 := LB.out
              have h4 := HL.out
              show _ ≤ _
              omega
            have CA := Lib.hid (closeName ns[j] (HNX.out _ (List.getElem_mem hlt)) W0 wr G S mb _ vr LN.out RL.out)
            have i0 : (0 : Int) ≤ (j : Int) := Int.natCast_nonneg _
            have i1 : (j : Int) < (ns.length : Int) := by omega
            go_wp2_with fail
            refine CA.out.mono ?_
            rintro e w2 ⟨rfl, v2, hA2⟩
            have A2 := Lib.hid hA2
            clear hA2 CA
            go_wp2
            go_roundw
            case rel => exact ⟨j + 1, by omega, by go_num, Lib.hid ⟨v2, by rw [ST.out]; exact A2.out⟩⟩
            case measure => simp [intOf]; omega
          · obtain rfl : j = ns.length := by omega
            have h0 := RL.out
            rw [List.take_length] at h0
            obtain ⟨L2, hL2⟩ : ∃ L2, L2 = adds L1 ns := ⟨_, rfl⟩
            rw [← hL2] at h0
            have HL2 := Lib.hid hL2
            have LB2 : Hid (L2.length ≤ L.length + 1 + ns.length) := by
              have h1 := adds_len ns L1
              have h3 := LB.out
              show _ ≤ _
              rw [hL2]
              omega
            have A2 : Hid (∃ v, An W0 G S mb L2 v wr) := ⟨_, h0⟩
            have z5 := AD.out.c5 _ h0.below
            clear h0 hL2 RL hj hlt
            go_wp2_with fail
            clear z5
            go_loopw [53] (fun i wr => ∃ j : Nat, j ≤ ks.length ∧ i = .int .i64 j ∧ Hid (∃ v, An W0 G S mb (Cr.allns (ks.take j) L2) v wr)) (fun i _ => ks.length - (intOf i).toNat)
            case atStart => exact ⟨0, Nat.zero_le _, rfl, Lib.hid (by simpa [Cr.allns] using A2.out)⟩
            case round =>
              obtain ⟨j, hj, rfl, hrel⟩ := hrel
              obtain ⟨vr, hr⟩ := hrel.out
              have RL := Lib.hid hr
              clear hrel A2 hr
              have z5 := AD.out.c5 _ RL.out.below
              by_cases hlt : j < ks.length
              · obtain ⟨b', off', es, rfl, hcl, hrd, hc⟩ := RK.out.get (i := j) (x := ks[j].enc) (by simp [Cr.encs_map, List.getElem?_eq_getElem hlt])
                have ST := Lib.hid (Cr.allns_take hlt L2)
                have CA := Lib.hid (IH.out _ (List.getElem_mem hlt) W0 wr _ b' (off' + j * 7) G S mb (Cr.allns (ks.take j) L2) vr hrd hc RL.out (by
                  have h1 := Cr.allns_len (ks.take j) L2
                  have h2 := Cr.wts_take hlt
                  have h3 := LB2.out
                  have h4 := HL.out
                  omega))
                have i0 : (0 : Int) ≤ (j : Int) := Int.natCast_nonneg _
                have i1 : (j : Int) < (ks.length : Int) := by omega
                clear hrd hc hcl
                go_wp2_with fail
                refine CA.out.mono ?_
                rintro e w2 ⟨rfl, v2, hA2⟩
                have A2 := Lib.hid hA2
                clear hA2 CA
                go_wp2
                go_roundw
                case rel => exact ⟨j + 1, by omega, by go_num, Lib.hid ⟨v2, by rw [ST.out]; exact A2.out⟩⟩
                case measure => simp [intOf]; omega
              · obtain rfl : j = ks.length := by omega
                have h0 := RL.out
                rw [List.take_length] at h0
                obtain ⟨L3, hL3⟩ : ∃ L3, L3 = Cr.allns ks L2 := ⟨_, rfl⟩
                rw [← hL3] at h0
                have HL3 := Lib.hid hL3
                have LB3 : Hid (L3.length ≤ L.length + 1 + ns.length + Cr.wts ks) := by
                  have h1 := Cr.allns_len ks L2
                  have h3 := LB2.out
                  show _ ≤ _
                  rw [hL3]
                  omega
                have A3 : Hid (∃ v, An W0 G S mb L3 v wr) := ⟨_, h0⟩
                have z6 := AD.out.c6 _ h0.below
                clear h0 hL3 RL hj hlt
                go_wp2_with fail
                clear z5 z6
                go_loopw [70] (fun i wr => ∃ j : Nat, j ≤ qs.length ∧ i = .int .i64 j ∧ Hid (∃ v, An W0 G S mb (Ca.allns (qs.take j) L3) v wr)) (fun i _ => qs.length - (intOf i).toNat)
                case atStart => exact ⟨0, Nat.zero_le _, rfl, Lib.hid (by simpa [Ca.allns] using A3.out)⟩
                case round =>
                  obtain ⟨j, hj, rfl, hrel⟩ := hrel
                  obtain ⟨vr, hr⟩ := hrel.out
                  have RL := Lib.hid hr
                  clear hrel A3 hr
                  have z6 := AD.out.c6 _ RL.out.below
                  by_cases hlt : j < qs.length
                  · obtain ⟨b', off', es, rfl, hcl, hrd, hc⟩ := RA.out.get (i := j) (x := qs[j].enc) (by simp [Ca.encs_map, List.getElem?_eq_getElem hlt])
                    obtain ⟨nv, bs, rfl, hbl, hnv, hbd⟩ := Ca.openB hrd
                    obtain ⟨An', cn, rfl, _, _, hrn⟩ := open_strs hnv
                    have hcb : CellsAt W0 b' (off' + j * 9 + 2) bs := fun i u hi => by
                      have := hc (i + 2) u (by simpa using hi)
                      rw [show off' + j * 9 + 2 + i = off' + j * 9 + (i + 2) by omega]
                      exact this
                    have e1 := cell_below RL.out.below (hc 1 _ rfl)
                    have HBD := Lib.hid hbd
                    have HCB := Lib.hid hcb
                    have HRN := Lib.hid hrn
                    have ST := Lib.hid (Ca.allns_take hlt L3)
                    have i0 : (0 : Int) ≤ (j : Int) := Int.natCast_nonneg _
                    have i1 : (j : Int) < (qs.length : Int) := by omega
                    have IAJ := Lib.hid (IA.out _ (List.getElem_mem hlt))
                    have NJ := Lib.hid (HQM.out _ (List.getElem_mem hlt))
                    have LB4 : Hid ((Ca.allns (qs.take j) L3).length + (qs[j].names.length + qs[j].body.wt) ≤ 3000000) := by
                      have h1 := Ca.allns_len (qs.take j) L3
                      have h2 := Ca.wts_take hlt
                      have h3 := LB3.out
                      have h4 := HL.out
                      show _ ≤ _
                      omega
                    generalize qs[j].names = nms at *
                    generalize qs[j].body = bd at *
                    generalize Ca.allns (qs.take j) L3 = L4 at *
                    have nj0 := NJ.out.1
                    have A4 : Hid (∃ v, An W0 G S mb L4 v wr) := ⟨vr, RL.out⟩
                    clear hrd hc hcl hbl hnv hbd hrn hcb RL
                    go_wp2_with fail
                    clear z6 e1
                    go_loopw [82] (fun i wr => ∃ t : Nat, t ≤ nms.length ∧ i = .int .i64 t ∧ Hid (∃ v, An W0 G S mb (adds L4 (nms.take t)) v wr)) (fun i _ => nms.length - (intOf i).toNat)
                    case atStart => exact ⟨0, Nat.zero_le _, rfl, Lib.hid (by simpa [adds] using A4.out)⟩
                    case round =>
                      obtain ⟨t, ht, rfl, hrel⟩ := hrel
                      obtain ⟨vr, hr⟩ := hrel.out
                      have RL := Lib.hid hr
                      clear hrel A4 hr
                      by_cases hlt2 : t < nms.length
                      · obtain ⟨b2, off2, rfl, e0⟩ := strs_get (HRN.out.below (by omega) RL.out.below) hlt2
                        have ST2 := Lib.hid (adds_step hlt2 L4)
                        have LN : Hid ((adds L4 (nms.take t)).length ≤ 4000000) := by
                          have h1 := adds_len (nms.take t) L4
                          have h2 := List.length_take_le t nms
                          have h3 := LB4.out
                          show _ ≤ _
                          omega
                        have CA := Lib.hid (closeName nms[t] (NJ.out.2 _ (List.getElem_mem hlt2)) W0 _ G S mb _ vr LN.out RL.out)
                        have j0 : (0 : Int) ≤ (t : Int) := Int.natCast_nonneg _
                        have j1 : (t : Int) < (nms.length : Int) := by omega
                        go_wp2_with fail
                        refine CA.out.mono ?_
                        rintro e w2 ⟨rfl, v2, hA2⟩
                        have A2 := Lib.hid hA2
                        clear hA2 CA
                        go_wp2
                        go_roundw
                        case rel => exact ⟨t + 1, by omega, by go_num, Lib.hid ⟨v2, by rw [ST2.out]; exact A2.out⟩⟩
                        case measure => simp [intOf]; omega
                      · obtain rfl : t = nms.length := by omega
                        have h0 := RL.out
                        rw [List.take_length] at h0
                        have CA := Lib.hid (IAJ.out W0 _ _ b' (off' + j * 9 + 2) G S mb (adds L4 nms) vr HBD.out HCB.out h0 (by
                          have h1 := adds_len nms L4
                          have h3 := LB4.out
                          omega))
                        have z6 := AD.out.c6 _ RL.out.below
                        clear h0 RL
                        go_wp2_with fail
                        refine CA.out.mono ?_
                        rintro e w2 ⟨rfl, v2, hA2⟩
                        have A2 := Lib.hid hA2
                        clear hA2 CA z6
                        go_wp2
                        go_roundw
                        case rel => exact ⟨j + 1, by omega, by go_num, Lib.hid ⟨v2, by rw [ST.out]; exact A2.out⟩⟩
                        case measure => simp [intOf]; omega
                  · obtain rfl : j = qs.length := by omega
                    have h0 := RL.out
                    rw [List.take_length] at h0
                    have GX := Lib.hid h0
                    clear h0 RL
                    go_wp2_with fail
                    go_end0
                    exact ⟨rfl, _, by rw [HR.out, ← HL2.out, ← HL3.out]; exact GX.out⟩
      · have k1 : (k == 1) = false := beq_eq_false_iff_ne.2 hk1
        have k8 : (k == 8) = false := beq_eq_false_iff_ne.2 hk8
        clear hk1 hk8
        go_enter Try.func64, Try.ntmps64
        go_wp2_with fail
        try clear z0
        try clear z1
        try clear z4
        go_loopw [40] (fun i wr => ∃ j : Nat, j ≤ ns.length ∧ i = .int .i64 j ∧ Hid (∃ v, An W0 G S mb (adds L1 (ns.take j)) v wr)) (fun i _ => ns.length - (intOf i).toNat)
        case atStart => exact ⟨0, Nat.zero_le _, rfl, Lib.hid (by simpa [adds] using A1.out)⟩
        case round =>
          obtain ⟨j, hj, rfl, hrel⟩ := hrel
          obtain ⟨vr, hr⟩ := hrel.out
          have RL := Lib.hid hr
          clear hrel A1 hr
          by_cases hlt : j < ns.length
          · obtain ⟨b', off', rfl, e0⟩ := strs_get (RN.out.below (by omega) RL.out.below) hlt
            have ST := Lib.hid (adds_step hlt L1)
            have LN : Hid ((adds L1 (ns.take j)).length ≤ 4000000) := by
              have h1 := adds_len (ns.take j) L1
              have h2 := List.length_take_le j ns
              have h3 := LB.out
              have h4 := HL.out
              show _ ≤ _
              omega
            have CA := Lib.hid (closeName ns[j] (HNX.out _ (List.getElem_mem hlt)) W0 wr G S mb _ vr LN.out RL.out)
            have i0 : (0 : Int) ≤ (j : Int) := Int.natCast_nonneg _
            have i1 : (j : Int) < (ns.length : Int) := by omega
            go_wp2_with fail
            refine CA.out.mono ?_
            rintro e w2 ⟨rfl, v2, hA2⟩
            have A2 := Lib.hid hA2
            clear hA2 CA
            go_wp2
            go_roundw
            case rel => exact ⟨j + 1, by omega, by go_num, Lib.hid ⟨v2, by rw [ST.out]; exact A2.out⟩⟩
            case measure => simp [intOf]; omega
          · obtain rfl : j = ns.length := by omega
            have h0 := RL.out
            rw [List.take_length] at h0
            obtain ⟨L2, hL2⟩ : ∃ L2, L2 = adds L1 ns := ⟨_, rfl⟩
            rw [← hL2] at h0
            have HL2 := Lib.hid hL2
            have LB2 : Hid (L2.length ≤ L.length + 1 + ns.length) := by
              have h1 := adds_len ns L1
              have h3 := LB.out
              show _ ≤ _
              rw [hL2]
              omega
            have A2 : Hid (∃ v, An W0 G S mb L2 v wr) := ⟨_, h0⟩
            have z5 := AD.out.c5 _ h0.below
            clear h0 hL2 RL hj hlt
            go_wp2_with fail
            clear z5
            go_loopw [53] (fun i wr => ∃ j : Nat, j ≤ ks.length ∧ i = .int .i64 j ∧ Hid (∃ v, An W0 G S mb (Cr.allns (ks.take j) L2) v wr)) (fun i _ => ks.length - (intOf i).toNat)
            case atStart => exact ⟨0, Nat.zero_le _, rfl, Lib.hid (by simpa [Cr.allns] using A2.out)⟩
            case round =>
              obtain ⟨j, hj, rfl, hrel⟩ := hrel
              obtain ⟨vr, hr⟩ := hrel.out
              have RL := Lib.hid hr
              clear hrel A2 hr
              have z5 := AD.out.c5 _ RL.out.below
              by_cases hlt : j < ks.length
              · obtain ⟨b', off', es, rfl, hcl, hrd, hc⟩ := RK.out.get (i := j) (x := ks[j].enc) (by simp [Cr.encs_map, List.getElem?_eq_getElem hlt])
                have ST := Lib.hid (Cr.allns_take hlt L2)
                have CA := Lib.hid (IH.out _ (List.getElem_mem hlt) W0 wr _ b' (off' + j * 7) G S mb (Cr.allns (ks.take j) L2) vr hrd hc RL.out (by
                  have h1 := Cr.allns_len (ks.take j) L2
                  have h2 := Cr.wts_take hlt
                  have h3 := LB2.out
                  have h4 := HL.out
                  omega))
                have i0 : (0 : Int) ≤ (j : Int) := Int.natCast_nonneg _
                have i1 : (j : Int) < (ks.length : Int) := by omega
                clear hrd hc hcl
                go_wp2_with fail
                refine CA.out.mono ?_
                rintro e w2 ⟨rfl, v2, hA2⟩
                have A2 := Lib.hid hA2
                clear hA2 CA
                go_wp2
                go_roundw
                case rel => exact ⟨j + 1, by omega, by go_num, Lib.hid ⟨v2, by rw [ST.out]; exact A2.out⟩⟩
                case measure => simp [intOf]; omega
              · obtain rfl : j = ks.length := by omega
                have h0 := RL.out
                rw [List.take_length] at h0
                obtain ⟨L3, hL3⟩ : ∃ L3, L3 = Cr.allns ks L2 := ⟨_, rfl⟩
                rw [← hL3] at h0
                have HL3 := Lib.hid hL3
                have LB3 : Hid (L3.length ≤ L.length + 1 + ns.length + Cr.wts ks) := by
                  have h1 := Cr.allns_len ks L2
                  have h3 := LB2.out
                  show _ ≤ _
                  rw [hL3]
                  omega
                have A3 : Hid (∃ v, An W0 G S mb L3 v wr) := ⟨_, h0⟩
                have z6 := AD.out.c6 _ h0.below
                clear h0 hL3 RL hj hlt
                go_wp2_with fail
                clear z5 z6
                go_loopw [70] (fun i wr => ∃ j : Nat, j ≤ qs.length ∧ i = .int .i64 j ∧ Hid (∃ v, An W0 G S mb (Ca.allns (qs.take j) L3) v wr)) (fun i _ => qs.length - (intOf i).toNat)
                case atStart => exact ⟨0, Nat.zero_le _, rfl, Lib.hid (by simpa [Ca.allns] using A3.out)⟩
                case round =>
                  obtain ⟨j, hj, rfl, hrel⟩ := hrel
                  obtain ⟨vr, hr⟩ := hrel.out
                  have RL := Lib.hid hr
                  clear hrel A3 hr
                  have z6 := AD.out.c6 _ RL.out.below
                  by_cases hlt : j < qs.length
                  · obtain ⟨b', off', es, rfl, hcl, hrd, hc⟩ := RA.out.get (i := j) (x := qs[j].enc) (by simp [Ca.encs_map, List.getElem?_eq_getElem hlt])
                    obtain ⟨nv, bs, rfl, hbl, hnv, hbd⟩ := Ca.openB hrd
                    obtain ⟨An', cn, rfl, _, _, hrn⟩ := open_strs hnv
                    have hcb : CellsAt W0 b' (off' + j * 9 + 2) bs := fun i u hi => by
                      have := hc (i + 2) u (by simpa using hi)
                      rw [show off' + j * 9 + 2 + i = off' + j * 9 + (i + 2) by omega]
                      exact this
                    have e1 := cell_below RL.out.below (hc 1 _ rfl)
                    have HBD := Lib.hid hbd
                    have HCB := Lib.hid hcb
                    have HRN := Lib.hid hrn
                    have ST := Lib.hid (Ca.allns_take hlt L3)
                    have i0 : (0 : Int) ≤ (j : Int) := Int.natCast_nonneg _
                    have i1 : (j : Int) < (qs.length : Int) := by omega
                    have IAJ := Lib.hid (IA.out _ (List.getElem_mem hlt))
                    have NJ := Lib.hid (HQM.out _ (List.getElem_mem hlt))
                    have LB4 : Hid ((Ca.allns (qs.take j) L3).length + (qs[j].names.length + qs[j].body.wt) ≤ 3000000) := by
                      have h1 := Ca.allns_len (qs.take j) L3
                      have h2 := Ca.wts_take hlt
                      have h3 := LB3.out
                      have h4 := HL.out
                      show _ ≤ _
                      omega
                    generalize qs[j].names = nms at *
                    generalize qs[j].body = bd at *
                    generalize Ca.allns (qs.take j) L3 = L4 at *
                    have nj0 := NJ.out.1
                    have A4 : Hid (∃ v, An W0 G S mb L4 v wr) := ⟨vr, RL.out⟩
                    clear hrd hc hcl hbl hnv hbd hrn hcb RL
                    go_wp2_with fail
                    clear z6 e1
                    go_loopw [82] (fun i wr => ∃ t : Nat, t ≤ nms.length ∧ i = .int .i64 t ∧ Hid (∃ v, An W0 G S mb (adds L4 (nms.take t)) v wr)) (fun i _ => nms.length - (intOf i).toNat)
                    case atStart => exact ⟨0, Nat.zero_le _, rfl, Lib.hid (by simpa [adds] using A4.out)⟩
                    case round =>
                      obtain ⟨t, ht, rfl, hrel⟩ := hrel
                      obtain ⟨vr, hr⟩ := hrel.out
                      have RL := Lib.hid hr
                      clear hrel A4 hr
                      by_cases hlt2 : t < nms.length
                      · obtain ⟨b2, off2, rfl, e0⟩ := strs_get (HRN.out.below (by omega) RL.out.below) hlt2
                        have ST2 := Lib.hid (adds_step hlt2 L4)
                        have LN : Hid ((adds L4 (nms.take t)).length ≤ 4000000) := by
                          have h1 := adds_len (nms.take t) L4
                          have h2 := List.length_take_le t nms
                          have h3 := LB4.out
                          show _ ≤ _
                          omega
                        have CA := Lib.hid (closeName nms[t] (NJ.out.2 _ (List.getElem_mem hlt2)) W0 _ G S mb _ vr LN.out RL.out)
                        have j0 : (0 : Int) ≤ (t : Int) := Int.natCast_nonneg _
                        have j1 : (t : Int) < (nms.length : Int) := by omega
                        go_wp2_with fail
                        refine CA.out.mono ?_
                        rintro e w2 ⟨rfl, v2, hA2⟩
                        have A2 := Lib.hid hA2
                        clear hA2 CA
                        go_wp2
                        go_roundw
                        case rel => exact ⟨t + 1, by omega, by go_num, Lib.hid ⟨v2, by rw [ST2.out]; exact A2.out⟩⟩
                        case measure => simp [intOf]; omega
                      · obtain rfl : t = nms.length := by omega
                        have h0 := RL.out
                        rw [List.take_length] at h0
                        have CA := Lib.hid (IAJ.out W0 _ _ b' (off' + j * 9 + 2) G S mb (adds L4 nms) vr HBD.out HCB.out h0 (by
                          have h1 := adds_len nms L4
                          have h3 := LB4.out
                          omega))
                        have z6 := AD.out.c6 _ RL.out.below
                        clear h0 RL
                        go_wp2_with fail
                        refine CA.out.mono ?_
                        rintro e w2 ⟨rfl, v2, hA2⟩
                        have A2 := Lib.hid hA2
                        clear hA2 CA z6
                        go_wp2
                        go_roundw
                        case rel => exact ⟨j + 1, by omega, by go_num, Lib.hid ⟨v2, by rw [ST.out]; exact A2.out⟩⟩
                        case measure => simp [intOf]; omega
                  · obtain rfl : j = qs.length := by omega
                    have h0 := RL.out
                    rw [List.take_length] at h0
                    have GX := Lib.hid h0
                    clear h0 RL
                    go_wp2_with fail
                    go_end0
                    exact ⟨rfl, _, by rw [HR.out, ← HL2.out, ← HL3.out]; exact GX.out⟩
theorem alts_names2 {qs : List Ca} (h : Ca.oks qs) : ∀ a ∈ qs, a.names.length ≤ 140737488351232 ∧ ∀ x ∈ a.names, x.size ≤ 140737488351232 := fun a ha => by
  have := Ca.oks_mem h a ha
  cases a
  simp only [Ca.ok] at this
  exact this.2.1
theorem EachN_all : ∀ (x : Cr), x.ok → EachN x :=
  Cr.induct fun k n m l ns ks qs ih ia h => by
    simp only [Cr.ok] at h
    exact EachN_of k n m l ns ks qs h.2.1 h.2.2.2.1.1 h.2.2.2.1.2 h.2.2.2.2.1 h.2.2.2.2.2.1 (alts_names2 h.2.2.2.2.2.2.2) (fun x hx => ih x hx (Cr.oks_mem h.2.2.2.2.2.2.1 x hx)) (fun a ha => ia a ha (Ca.body_ok (Ca.oks_mem h.2.2.2.2.2.2.2 a ha)))

end Go.Proofs.Ythidbmjdphfddaa
