/- The program's 'CoreFault': the walk over a term, and the whole; no condition. -/
import Derived.Test.YthidbmjdphfddaaCfI8
namespace Go.Proofs.Ythidbmjdphfddaa
open Go Go.RowKit Go.Sort
set_option linter.unusedVariables false
set_option linter.unusedSimpArgs false

structure CtI (W0 : World) (G : Prop) (T c m : Int) (rest : Nat) (D : Prop) (wr : World) : Prop where
  tc : Tc W0 c m wr
  c0 : 0 ≤ c
  c1 : c ≤ 20000
  m0 : 0 ≤ m
  m1 : m ≤ 1000
  eq : c + rest = T
  iff_ : G ↔ (c + (rest : Int) ≤ 20000 ∧ D)
theorem CtI.step {W0 wr w1 : World} {G : Prop} {T c m c' m' : Int} {rest a b : Nat} {D K D' : Prop} {r : Bool} (h : CtI W0 G T c m rest D wr) (hr : rest = a + b) (hD : D ↔ K ∧ D') (htc : Tc W0 c' m' w1) (h1 : r = true ↔ (c + (a : Int) ≤ 20000 ∧ K)) (h2 : r = true → c' = c + a ∧ 0 ≤ c' ∧ c' ≤ 20000 ∧ 0 ≤ m' ∧ m' ≤ 1000) (ht : r = true) : CtI W0 G T c' m' b D' w1 := by
  obtain ⟨e, g0, g1, g2, g3⟩ := h2 ht
  obtain ⟨_, hk⟩ := h1.1 ht
  have h5 := h.eq
  refine ⟨htc, g0, g1, g2, g3, by omega, ?_⟩
  rw [h.iff_, hD]
  constructor
  · rintro ⟨q1, _, q2⟩
    exact ⟨by omega, q2⟩
  · rintro ⟨q1, q2⟩
    exact ⟨by omega, hk, q2⟩
theorem CtI.stop {W0 wr : World} {G : Prop} {T c m : Int} {rest a b : Nat} {D K D' : Prop} (h : CtI W0 G T c m rest D wr) (hr : rest = a + b) (hD : D ↔ K ∧ D') (h1 : ¬ (c + (a : Int) ≤ 20000 ∧ K)) : ¬ G := by
  rw [h.iff_, hD]
  rintro ⟨q1, q2, _⟩
  exact h1 ⟨by omega, q2⟩
def EachC (x : Cr) : Prop := x.ok → x.enc.bulk ≤ 1048576 → ∀ (W0 w : World) (cs : List Value) (b off : Nat) (c dm d : Int), Rd W0 x.enc cs → CellsAt W0 b off cs → Tc W0 c dm w → 0 ≤ c → c ≤ 20000 → 0 ≤ dm → dm ≤ 1000 → 0 ≤ d → d ≤ 1001 →
  Calls Try.prog 121 #[.pointer (some ⟨b, off, none⟩), .int .i64 d, .func (.func 122) #[] #[.pointer (some ⟨W0.heap.size, 0, none⟩), .pointer (some ⟨W0.heap.size + 1, 0, none⟩)]] w (CntA W0 (c + (x.wti : Int) ≤ 20000 ∧ x.okd d) (c + x.wti))
def EachF (x : Cr) : Prop := x.ok → x.enc.bulk ≤ 1048576 → ∀ (W0 w : World) (cs : List Value) (b off : Nat) (d : Int), Rd W0 x.enc cs → CellsAt W0 b off cs → Below W0.heap.size W0 w →
  Calls Try.prog 121 #[.pointer (some ⟨b, off, none⟩), .int .i64 d, .func (.func 123) #[] #[]] w (Says x.shp w)

set_option maxRecDepth 100000 in
set_option maxHeartbeats 2000000 in
theorem EachC_of (k : Int) (nm : ByteArray) (m : Bool) (l : List Int) (ns : List ByteArray) (ks : List Cr) (qs : List Ca) (ih : ∀ x ∈ ks, EachC x) (ia : ∀ a ∈ qs, EachC a.body) : EachC (.mk k nm m l ns ks qs) := by
  intro hok hbulk W0 w cs b off c dm d h hc hT hc0 hc1 hm0 hm1 hd0 hd1
  have hbp := Cr.bulk_parts hbulk
  have hkb := Cr.kid_bulk hbp.2.2.2.1
  have hab := Ca.alt_bulk hbp.2.2.2.2
  have hwb := Cr.wt_bulk (.mk k nm m l ns ks qs)
  rw [Cr.wt] at hwb
  have hqn := hab.1
  have hkn := hkb.1
  have hok' := hok
  simp only [Cr.ok] at hok'
  obtain ⟨P, hP⟩ : ∃ P : Prop, P = (c + ((Cr.mk k nm m l ns ks qs).wti : Int) ≤ 20000 ∧ (Cr.mk k nm m l ns ks qs).okd d) := ⟨_, rfl⟩
  obtain ⟨T, hT2⟩ : ∃ T : Int, T = c + (Cr.mk k nm m l ns ks qs).wti := ⟨_, rfl⟩
  rw [← hP, ← hT2]
  rw [Cr.wti, Cr.okd] at hP
  rw [Cr.wti] at hT2
  have HP := Lib.hid hP
  have HT := Lib.hid hT2
  clear hP hT2
  obtain ⟨AL, cL, AN, cN, AK, cK, AA, cA, rfl, _, _, rK, rA, _, _, _, _⟩ := Cr.open_ h
  have AD := Lib.hid (At.mk' hc)
  have CC := Lib.hid (closeCnt k c dm d AD.out rA hT hc0 hc1 hm0 hm1 hd0 hd1 (by omega) hqn)
  have IH : Hid (∀ x ∈ ks, ∀ (W0 w : World) (cs : List Value) (b off : Nat) (c dm d : Int), Rd W0 x.enc cs → CellsAt W0 b off cs → Tc W0 c dm w → 0 ≤ c → c ≤ 20000 → 0 ≤ dm → dm ≤ 1000 → 0 ≤ d → d ≤ 1001 → Calls Try.prog 121 #[.pointer (some ⟨b, off, none⟩), .int .i64 d, .func (.func 122) #[] #[.pointer (some ⟨W0.heap.size, 0, none⟩), .pointer (some ⟨W0.heap.size + 1, 0, none⟩)]] w (CntA W0 (c + (x.wti : Int) ≤ 20000 ∧ x.okd d) (c + x.wti))) := fun x hx => ih x hx (Cr.oks_mem hok'.2.2.2.2.2.2.1 x hx) (hkb.2 x hx)
  have IA : Hid (∀ a ∈ qs, ∀ (W0 w : World) (cs : List Value) (b off : Nat) (c dm d : Int), Rd W0 a.body.enc cs → CellsAt W0 b off cs → Tc W0 c dm w → 0 ≤ c → c ≤ 20000 → 0 ≤ dm → dm ≤ 1000 → 0 ≤ d → d ≤ 1001 → Calls Try.prog 121 #[.pointer (some ⟨b, off, none⟩), .int .i64 d, .func (.func 122) #[] #[.pointer (some ⟨W0.heap.size, 0, none⟩), .pointer (some ⟨W0.heap.size + 1, 0, none⟩)]] w (CntA W0 (c + (a.body.wti : Int) ≤ 20000 ∧ a.body.okd d) (c + a.body.wti))) := fun a ha => ia a ha (Ca.body_ok (Ca.oks_mem hok'.2.2.2.2.2.2.2 a ha)) (by
    have := hab.2 a ha
    cases a
    exact (Ca.bulk_parts this).2.2)
  have RK := Lib.hid rK
  have RA := Lib.hid rA
  clear ih ia h hc hT rK rA hok hok' hbulk hbp hkb hab hwb hc0 hc1 hm0 hm1
  go_enter Try.func121, Try.ntmps121
  go_wp2_with fail
  refine CC.out.mono ?_
  rintro e w1 ⟨r, c1, m1, rfl, tc1, h1, h2, h3⟩
  have TC1 := Lib.hid tc1
  have H1 := Lib.hid h1
  have H2 := Lib.hid h2
  have H3 := Lib.hid h3
  clear tc1 h1 h2 h3 CC
  cases r
  · go_wp2_with fail
    go_ret
    refine ⟨false, c1, m1, rfl, TC1.out, iff_of_false (by decide) ?_, (fun h => by cases h), fun _ => H3.out (by first | rfl | trivial)⟩
    rw [HP.out]
    rintro ⟨g1, g2, _⟩
    have := H1.out.2 ⟨by unfold binders; omega, g2⟩
    cases this
  · have hd : d ≤ 1000 := (H1.out.1 (by first | rfl | trivial)).2
    have ST : Hid (∃ cv mv, CtI W0 P T cv mv (Cr.wtis (ks.drop 0) + Ca.wtis qs) (Cr.okds (ks.drop 0) (d + 1) ∧ Ca.okds qs (d + 1)) w1) := by
      obtain ⟨e1, e2, e3, e4, e5⟩ := H2.out (by first | rfl | trivial)
      refine ⟨c1, m1, TC1.out, e2, e3, e4, e5, ?_, ?_⟩
      · rw [List.drop_zero, HT.out, e1]
        unfold binders
        omega
      · rw [HP.out, List.drop_zero, e1]
        unfold binders
        constructor
        · rintro ⟨a1, _, a2⟩
          exact ⟨by omega, a2⟩
        · rintro ⟨a1, a2⟩
          exact ⟨by omega, hd, a2⟩
    have z5 := AD.out.c5 _ TC1.out.below
    clear H1 H2 H3
    go_wp2_with fail
    clear z5 TC1
    go_loopw [19] (fun i wr => ∃ j : Nat, j ≤ ks.length ∧ i = .int .i64 j ∧ Hid (∃ cv mv, CtI W0 P T cv mv (Cr.wtis (ks.drop j) + Ca.wtis qs) (Cr.okds (ks.drop j) (d + 1) ∧ Ca.okds qs (d + 1)) wr)) (fun i _ => ks.length - (intOf i).toNat)
    case atStart => exact ⟨0, Nat.zero_le _, rfl, ST⟩
    case round =>
      obtain ⟨j, hj, rfl, hrel⟩ := hrel
      obtain ⟨cv, mv, hs⟩ := hrel.out
      have RL := Lib.hid hs
      clear hrel ST hs
      have z5 := AD.out.c5 _ RL.out.tc.below
      have z6 := AD.out.c6 _ RL.out.tc.below
      by_cases hlt : j < ks.length
      · obtain ⟨b', off', es, rfl, hcl, hrd, hc⟩ := RK.out.get (i := j) (x := ks[j].enc) (by simp [Cr.encs_map, List.getElem?_eq_getElem hlt])
        have CAL := Lib.hid (IH.out _ (List.getElem_mem hlt) W0 wr _ b' (off' + j * 7) cv mv (d + 1) hrd hc RL.out.tc RL.out.c0 RL.out.c1 RL.out.m0 RL.out.m1 (by omega) (by omega))
        have D1 := Lib.hid (Cr.wtis_drop hlt)
        have D2 := Lib.hid (Cr.okds_drop hlt (d + 1))
        have i0 : (0 : Int) ≤ (j : Int) := Int.natCast_nonneg _
        have i1 : (j : Int) < (ks.length : Int) := by omega
        clear hrd hcl hc
        go_wp2_with fail
        refine CAL.out.mono ?_
        rintro e w2 ⟨r, c', m', rfl, tc, h1, h2, h3⟩
        have TC2 := Lib.hid tc
        have H1 := Lib.hid h1
        have H2 := Lib.hid h2
        have H3 := Lib.hid h3
        clear tc h1 h2 h3 CAL
        cases r
        · go_wp2_with fail
          go_ret
          refine ⟨false, c', m', rfl, TC2.out, iff_of_false (by decide) ?_, (fun h => by cases h), fun _ => H3.out (by first | rfl | trivial)⟩
          exact RL.out.stop (K := ks[j].okd (d + 1)) (a := ks[j].wti) (b := Cr.wtis (ks.drop (j + 1)) + Ca.wtis qs) (by rw [D1.out]; omega) (by rw [D2.out, and_assoc]) fun h => by have := H1.out.2 h; cases this
        · go_wp2
          go_roundw
          case rel => exact ⟨j + 1, by omega, by go_num, Lib.hid ⟨c', m', RL.out.step (K := ks[j].okd (d + 1)) (a := ks[j].wti) (b := Cr.wtis (ks.drop (j + 1)) + Ca.wtis qs) (by rw [D1.out]; omega) (by rw [D2.out, and_assoc]) TC2.out (r := true) (by have := H1.out; simpa using this) (fun _ => H2.out (by first | rfl | trivial)) rfl⟩⟩
          case measure => simp [intOf]; omega
      · obtain rfl : j = ks.length := by omega
        have h0 := RL.out
        rw [List.drop_length, Cr.wtis, Cr.okds] at h0
        have ST := Lib.hid (show ∃ cv mv, CtI W0 P T cv mv (Ca.wtis (qs.drop 0)) (Ca.okds (qs.drop 0) (d + 1)) wr from ⟨cv, mv, by simpa using h0⟩)
        clear h0 hj hlt
        go_wp2_with fail
        clear z5 z6 RL
        go_loopw [39] (fun i wr => ∃ j : Nat, j ≤ qs.length ∧ i = .int .i64 j ∧ Hid (∃ cv mv, CtI W0 P T cv mv (Ca.wtis (qs.drop j)) (Ca.okds (qs.drop j) (d + 1)) wr)) (fun i _ => qs.length - (intOf i).toNat)
        case atStart => exact ⟨0, Nat.zero_le _, rfl, ST⟩
        case round =>
          obtain ⟨j, hj, rfl, hrel⟩ := hrel
          obtain ⟨cv, mv, hs⟩ := hrel.out
          have RL := Lib.hid hs
          clear hrel ST hs
          have z6 := AD.out.c6 _ RL.out.tc.below
          by_cases hlt : j < qs.length
          · obtain ⟨b', off', es, rfl, hcl, hrd, hc⟩ := RA.out.get (i := j) (x := qs[j].enc) (by simp [Ca.encs_map, List.getElem?_eq_getElem hlt])
            obtain ⟨nv, bs, rfl, hbl, _, hbd⟩ := Ca.openB hrd
            have hcb : CellsAt W0 b' (off' + j * 9 + 2) bs := fun i u hi => by
              have := hc (i + 2) u (by simpa using hi)
              rw [show off' + j * 9 + 2 + i = off' + j * 9 + (i + 2) by omega]
              exact this
            have CAL := Lib.hid (IA.out _ (List.getElem_mem hlt) W0 wr _ b' (off' + j * 9 + 2) cv mv (d + 1) hbd hcb RL.out.tc RL.out.c0 RL.out.c1 RL.out.m0 RL.out.m1 (by omega) (by omega))
            have D1 := Lib.hid (Ca.wtis_drop hlt)
            have D2 := Lib.hid (Ca.okds_drop hlt (d + 1))
            have i0 : (0 : Int) ≤ (j : Int) := Int.natCast_nonneg _
            have i1 : (j : Int) < (qs.length : Int) := by omega
            clear hrd hcl hc hbd hcb hbl
            go_wp2_with fail
            refine CAL.out.mono ?_
            rintro e w2 ⟨r, c', m', rfl, tc, h1, h2, h3⟩
            have TC2 := Lib.hid tc
            have H1 := Lib.hid h1
            have H2 := Lib.hid h2
            have H3 := Lib.hid h3
            clear tc h1 h2 h3 CAL
            cases r
            · go_wp2_with fail
              go_ret
              refine ⟨false, c', m', rfl, TC2.out, iff_of_false (by decide) ?_, (fun h => by cases h), fun _ => H3.out (by first | rfl | trivial)⟩
              exact RL.out.stop D1.out D2.out fun h => by have := H1.out.2 h; cases this
            · go_wp2
              go_roundw
              case rel => exact ⟨j + 1, by omega, by go_num, Lib.hid ⟨c', m', RL.out.step D1.out D2.out TC2.out (r := true) (by have := H1.out; simpa using this) (fun _ => H2.out (by first | rfl | trivial)) rfl⟩⟩
              case measure => simp [intOf]; omega
          · obtain rfl : j = qs.length := by omega
            have RX := RL.out
            rw [List.drop_length, Ca.wtis, Ca.okds] at RX
            have RX := Lib.hid RX
            go_wp2_with fail
            go_ret
            have e := RX.out.eq
            refine ⟨true, cv, mv, rfl, RX.out.tc, iff_of_true rfl (RX.out.iff_.2 ⟨by have := RX.out.c1; simpa using this, True.intro⟩), fun _ => ⟨by simpa using e, RX.out.c0, RX.out.c1, RX.out.m0, RX.out.m1⟩, (fun h => by cases h)⟩
theorem EachC_all : ∀ x : Cr, EachC x :=
  Cr.induct fun k n m l ns ks qs ih ia => EachC_of k n m l ns ks qs ih ia

set_option maxRecDepth 100000 in
set_option maxHeartbeats 2000000 in
theorem EachF_of (k : Int) (nm : ByteArray) (m : Bool) (l : List Int) (ns : List ByteArray) (ks : List Cr) (qs : List Ca) (ih : ∀ x ∈ ks, EachF x) (ia : ∀ a ∈ qs, EachF a.body) : EachF (.mk k nm m l ns ks qs) := by
  intro hok hbulk W0 w cs b off d h hc hb
  have hbp := Cr.bulk_parts hbulk
  have hkb := Cr.kid_bulk hbp.2.2.2.1
  have hab := Ca.alt_bulk hbp.2.2.2.2
  have hqn := hab.1
  have hkn := hkb.1
  have hok' := hok
  simp only [Cr.ok] at hok'
  obtain ⟨P, hP⟩ : ∃ P : Prop, P = (Cr.mk k nm m l ns ks qs).shp := ⟨_, rfl⟩
  rw [← hP]
  rw [Cr.shp] at hP
  have HP := Lib.hid hP
  clear hP
  have CC := Lib.hid (seeFit k nm m l ns ks qs hok hqn cs h hc hb (.int .i64 d))
  obtain ⟨AL, cL, AN, cN, AK, cK, AA, cA, rfl, _, _, rK, rA, _, _, _, _⟩ := Cr.open_ h
  have AD := Lib.hid (At.mk' hc)
  have IH : Hid (∀ x ∈ ks, ∀ (W0 w : World) (cs : List Value) (b off : Nat) (d : Int), Rd W0 x.enc cs → CellsAt W0 b off cs → Below W0.heap.size W0 w → Calls Try.prog 121 #[.pointer (some ⟨b, off, none⟩), .int .i64 d, .func (.func 123) #[] #[]] w (Says x.shp w)) := fun x hx => ih x hx (Cr.oks_mem hok'.2.2.2.2.2.2.1 x hx) (hkb.2 x hx)
  have IA : Hid (∀ a ∈ qs, ∀ (W0 w : World) (cs : List Value) (b off : Nat) (d : Int), Rd W0 a.body.enc cs → CellsAt W0 b off cs → Below W0.heap.size W0 w → Calls Try.prog 121 #[.pointer (some ⟨b, off, none⟩), .int .i64 d, .func (.func 123) #[] #[]] w (Says a.body.shp w)) := fun a ha => ia a ha (Ca.body_ok (Ca.oks_mem hok'.2.2.2.2.2.2.2 a ha)) (by
    have := hab.2 a ha
    cases a
    exact (Ca.bulk_parts this).2.2)
  have RK := Lib.hid rK
  have RA := Lib.hid rA
  have HB := Lib.hid hb
  clear ih ia h hc hb rK rA hok hok' hbulk hbp hkb hab
  generalize fitP k nm m l ns ks.length qs = F at *
  go_enter Try.func121, Try.ntmps121
  go_wp2_with fail
  refine CC.out.mono ?_
  rintro e w1 ⟨r, rfl, hr, hb1⟩
  have B1 := Lib.hid hb1
  have HR := Lib.hid hr
  have HB1 := Lib.hid (HB.out.trans (hb1.mono HB.out.size))
  clear hb1 hr CC
  cases r
  · go_wp2_with fail
    go_ret
    refine says_of ?_ B1.out
    rw [HP.out]
    exact iff_of_false (by decide) fun h => by have := HR.out.2 h.1; cases this
  · have ST : Hid (Below w.heap.size w w1 ∧ (P ↔ (Cr.shps (ks.drop 0) ∧ Ca.shps qs))) := ⟨B1.out, by rw [HP.out, List.drop_zero]; exact ⟨fun h => h.2, fun h => ⟨HR.out.1 (by first | rfl | trivial), h⟩⟩⟩
    have z5 := AD.out.c5 _ HB1.out
    clear HR
    go_wp2_with fail
    clear z5 HB1 B1
    go_loopw [19] (fun i wr => ∃ j : Nat, j ≤ ks.length ∧ i = .int .i64 j ∧ Hid (Below w.heap.size w wr ∧ (P ↔ (Cr.shps (ks.drop j) ∧ Ca.shps qs)))) (fun i _ => ks.length - (intOf i).toNat)
    case atStart => exact ⟨0, Nat.zero_le _, rfl, ST⟩
    case round =>
      obtain ⟨j, hj, rfl, hrel⟩ := hrel
      have RL := Lib.hid hrel.out
      clear hrel ST
      have HBr := Lib.hid (HB.out.trans (RL.out.1.mono HB.out.size))
      have z5 := AD.out.c5 _ HBr.out
      have z6 := AD.out.c6 _ HBr.out
      by_cases hlt : j < ks.length
      · obtain ⟨b', off', es, rfl, hcl, hrd, hc⟩ := RK.out.get (i := j) (x := ks[j].enc) (by simp [Cr.encs_map, List.getElem?_eq_getElem hlt])
        have CAL := Lib.hid (fun d => IH.out _ (List.getElem_mem hlt) W0 wr _ b' (off' + j * 7) d hrd hc HBr.out)
        have SD := Lib.hid (Cr.shps_drop hlt)
        have i0 : (0 : Int) ≤ (j : Int) := Int.natCast_nonneg _
        have i1 : (j : Int) < (ks.length : Int) := by omega
        clear hrd hcl hc
        go_wp2_with fail
        refine (CAL.out _).mono ?_
        rintro e w2 ⟨r, rfl, hr, hb1⟩
        have HR1 := Lib.hid hr
        have HB1 := Lib.hid (RL.out.1.trans (hb1.mono RL.out.1.size))
        clear hb1 CAL hr
        cases r
        · go_wp2_with fail
          go_ret
          refine says_of ?_ HB1.out
          rw [RL.out.2, SD.out]
          exact iff_of_false (by decide) fun h => by have := HR1.out.2 h.1.1; cases this
        · go_wp2
          go_roundw
          case rel => exact ⟨j + 1, by omega, by go_num, Lib.hid ⟨HB1.out, by rw [RL.out.2, SD.out]; exact ⟨fun h => ⟨h.1.2, h.2⟩, fun h => ⟨⟨HR1.out.1 (by first | rfl | trivial), h.1⟩, h.2⟩⟩⟩⟩
          case measure => simp [intOf]; omega
      · obtain rfl : j = ks.length := by omega
        have h0 := RL.out
        rw [List.drop_length, Cr.shps] at h0
        have ST := Lib.hid (show Below w.heap.size w wr ∧ (P ↔ Ca.shps (qs.drop 0)) from ⟨h0.1, by simpa using h0.2⟩)
        clear h0 hj hlt
        go_wp2_with fail
        clear z5 z6 RL HBr
        go_loopw [39] (fun i wr => ∃ j : Nat, j ≤ qs.length ∧ i = .int .i64 j ∧ Hid (Below w.heap.size w wr ∧ (P ↔ Ca.shps (qs.drop j)))) (fun i _ => qs.length - (intOf i).toNat)
        case atStart => exact ⟨0, Nat.zero_le _, rfl, ST⟩
        case round =>
          obtain ⟨j, hj, rfl, hrel⟩ := hrel
          have RL := Lib.hid hrel.out
          clear hrel ST
          have HBr := Lib.hid (HB.out.trans (RL.out.1.mono HB.out.size))
          have z6 := AD.out.c6 _ HBr.out
          by_cases hlt : j < qs.length
          · obtain ⟨b', off', es, rfl, hcl, hrd, hc⟩ := RA.out.get (i := j) (x := qs[j].enc) (by simp [Ca.encs_map, List.getElem?_eq_getElem hlt])
            obtain ⟨nv, bs, rfl, hbl, _, hbd⟩ := Ca.openB hrd
            have hcb : CellsAt W0 b' (off' + j * 9 + 2) bs := fun i u hi => by
              have := hc (i + 2) u (by simpa using hi)
              rw [show off' + j * 9 + 2 + i = off' + j * 9 + (i + 2) by omega]
              exact this
            have CAL := Lib.hid (fun d => IA.out _ (List.getElem_mem hlt) W0 wr _ b' (off' + j * 9 + 2) d hbd hcb HBr.out)
            have SD := Lib.hid (Ca.shps_drop hlt)
            have i0 : (0 : Int) ≤ (j : Int) := Int.natCast_nonneg _
            have i1 : (j : Int) < (qs.length : Int) := by omega
            clear hrd hcl hc hbd hcb hbl
            go_wp2_with fail
            refine (CAL.out _).mono ?_
            rintro e w2 ⟨r, rfl, hr, hb1⟩
            have HR1 := Lib.hid hr
            have HB1 := Lib.hid (RL.out.1.trans (hb1.mono RL.out.1.size))
            clear hb1 CAL hr
            cases r
            · go_wp2_with fail
              go_ret
              refine says_of ?_ HB1.out
              rw [RL.out.2, SD.out]
              exact iff_of_false (by decide) fun h => by have := HR1.out.2 h.1; cases this
            · go_wp2
              go_roundw
              case rel => exact ⟨j + 1, by omega, by go_num, Lib.hid ⟨HB1.out, by rw [RL.out.2, SD.out]; exact ⟨fun h => h.2, fun h => ⟨HR1.out.1 (by first | rfl | trivial), h⟩⟩⟩⟩
              case measure => simp [intOf]; omega
          · obtain rfl : j = qs.length := by omega
            have RX := RL.out.2
            rw [List.drop_length, Ca.shps] at RX
            have RX := Lib.hid RX
            go_wp2_with fail
            go_ret
            refine says_of ?_ RL.out.1
            rw [RX.out]
            simp
theorem EachF_all : ∀ x : Cr, EachF x :=
  Cr.induct fun k n m l ns ks qs ih ia => EachF_of k n m l ns ks qs ih ia

end Go.Proofs.Ythidbmjdphfddaa
