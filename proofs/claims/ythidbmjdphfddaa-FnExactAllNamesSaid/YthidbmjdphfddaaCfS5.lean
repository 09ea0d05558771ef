/- The reference's 'CoreFault': the shape of every term, and how large a term is; no condition. -/
import Derived.Test.YthidbmjdphfddaaCfS4
import Derived.IntWalk
namespace Go.Proofs.Ythidbmjdphfddaa
open Go Go.RowKit
set_option linter.unusedVariables false
set_option linter.unusedSimpArgs false

section
variable (n : ByteArray) (m : Bool) (l : List Int) (ns : List ByteArray) (ks : List Cr) (qs : List Ca) (w : World) (AL AN AK AA : Option Addr) (cL cN cK cA : Nat)
set_option maxRecDepth 100000 in
theorem shapeK8b (c : Nat) (hl : l.length = 0) (hb : ns.length = 0) (hc : c = 0 ∨ 2 < c ∨ (c = 1 ∧ qs.length = 0)) :
    Calls Try.prog 153 #[.agg #[.int .i64 8, .string n, .bool false, .slice AL 0 cL, .slice AN 0 cN, .slice AK c cK, .slice AA qs.length cA]] w (Says (fitP 8 n false l ns c qs) w) := by
  have FIT : Hid (¬ fitP 8 n false l ns c qs) := by
    show ¬ _
    rintro ⟨_, _, _, h⟩
    rcases h with h | h | h | h | h | h | h | ⟨_, h1, h2, h3, _⟩ | h | h
    all_goals first | omega | exact absurd h.1 (by decide)
  have B1 := Lib.hid (below_alloc1 w (.cells #[.int .i64 8, .string n, .bool false, .slice AL 0 cL, .slice AN 0 cN, .slice AK c cK, .slice AA qs.length cA] 36))
  clear hl hb
  generalize fitP 8 n false l ns c qs = P at *
  generalize qs.length = d at *
  rcases hc with rfl | hc | ⟨rfl, rfl⟩
  all_goals (
    go_enter Try.func153, Try.ntmps153
    go_wp2_with fail
    go_ret
    exact says_of (iff_of_false (by decide) FIT.out) B1.out)
end
theorem alts_names {qs : List Ca} (h : Ca.oks qs) : ∀ a ∈ qs, a.names.length ≤ 140737488351232 := fun a ha => by
  have := Ca.oks_mem h a ha
  cases a
  simp only [Ca.ok] at this
  exact this.2.1.1
theorem specShape (k : Int) (n : ByteArray) (m : Bool) (l : List Int) (ns : List ByteArray) (ks : List Cr) (qs : List Ca) (ho : (Cr.mk k n m l ns ks qs).ok) (hq : qs.length ≤ 1048576) (w : World) (cs : List Value) (h : Rd w (Cr.mk k n m l ns ks qs).enc cs) :
    Calls Try.prog 153 #[.agg cs.toArray] w (Says (fitP k n m l ns ks.length qs) w) := by
  obtain ⟨AL, cL, AN, cN, AK, cK, AA, cA, rfl, rL, rN, rK, rA, dB, dN, dK, dA⟩ := Cr.open_ h
  simp only [Cr.ok] at ho
  by_cases hno : noFit k m l.length ns.length qs.length
  · exact shapeBad n m l ns ks qs w AL AN AK AA cL cN cK cA k hno
  · have h1 : k = 2 ∨ (m = false ∧ l.length = 0) := by
      by_cases hk : k = 2
      · exact .inl hk
      · refine .inr ?_
        cases m
        · exact ⟨rfl, by have : ¬ 0 < l.length := fun h => hno (.inl ⟨hk, .inr h⟩); omega⟩
        · exact absurd (.inl ⟨hk, .inl rfl⟩) hno
    have h2 : k = 8 ∨ qs.length = 0 := by
      by_cases hk : k = 8
      · exact .inl hk
      · exact .inr (by have : ¬ 0 < qs.length := fun h => hno (.inr (.inl ⟨hk, h⟩)); omega)
    have h3 : k = 6 ∨ k = 7 ∨ ns.length = 0 := by
      by_cases hk : k = 6
      · exact .inl hk
      · by_cases hk' : k = 7
        · exact .inr (.inl hk')
        · exact .inr (.inr (by have : ¬ 0 < ns.length := fun h => hno (.inr (.inr ⟨hk, hk', h⟩)); omega))
    clear hno
    by_cases hk : 1 ≤ k ∧ k ≤ 10
    · have hk' : k = 1 ∨ k = 2 ∨ k = 3 ∨ k = 4 ∨ k = 5 ∨ k = 6 ∨ k = 7 ∨ k = 8 ∨ k = 9 ∨ k = 10 := by omega
      clear hk
      rcases hk' with rfl | rfl | rfl | rfl | rfl | rfl | rfl | rfl | rfl | rfl
      case inr.inl =>
        have e2 : qs.length = 0 := by omega
        have e3 : ns.length = 0 := by omega
        have := shapeK2 n m l ns qs w AL AN AK AA cL cN cK cA ks.length ho.2.2.1.1 e3 e2 dB
        rw [e2, e3]
        exact this
      case inr.inr.inr.inr.inr.inl =>
        have e2 : qs.length = 0 := by omega
        obtain ⟨rfl, e1⟩ : m = false ∧ l.length = 0 := h1.resolve_left (by decide)
        have := shapeK6 n l ns qs w AL AN AK AA cL cN cK cA ks.length e1 ho.2.2.2.1.1 e2 dN
        rw [e1, e2]
        exact this
      case inr.inr.inr.inr.inr.inr.inl =>
        have e2 : qs.length = 0 := by omega
        obtain ⟨rfl, e1⟩ : m = false ∧ l.length = 0 := h1.resolve_left (by decide)
        have := shapeK7 n l ns qs w AL AN AK AA cL cN cK cA ks.length e1 ho.2.2.2.1.1 e2 dN
        rw [e1, e2]
        exact this
      case inr.inr.inr.inr.inr.inr.inr.inl =>
        have e3 : ns.length = 0 := by omega
        obtain ⟨rfl, e1⟩ : m = false ∧ l.length = 0 := h1.resolve_left (by decide)
        rw [e1, e3]
        by_cases hc : ks.length = 2 ∨ (ks.length = 1 ∧ 0 < qs.length)
        · exact shapeK8a n false l ns qs w AL AN AK AA cL cN cK cA ks.length e1 e3 hq (alts_names ho.2.2.2.2.2.2.2) dA hc
        · exact shapeK8b n l ns qs w AL AN AK AA cL cN cK cA ks.length e1 e3 (by omega)
      all_goals (
        have e2 : qs.length = 0 := by omega
        have e3 : ns.length = 0 := by omega
        obtain ⟨rfl, e1⟩ : m = false ∧ l.length = 0 := h1.resolve_left (by decide)
        rw [e1, e2, e3])
      · exact shapeK1 n l ns qs w AL AN AK AA cL cN cK cA ks.length e1 e3 e2
      · exact shapeK3 n l ns qs w AL AN AK AA cL cN cK cA ks.length e1 e3 e2
      · exact shapeK4 n l ns qs w AL AN AK AA cL cN cK cA ks.length e1 e3 e2
      · exact shapeK5 n l ns qs w AL AN AK AA cL cN cK cA ks.length e1 e3 e2
      · exact shapeK9 n l ns qs w AL AN AK AA cL cN cK cA ks.length e1 e3 e2
      · exact shapeK10 n l ns qs w AL AN AK AA cL cN cK cA ks.length e1 e3 e2
    · have e2 : qs.length = 0 := by omega
      have e3 : ns.length = 0 := by omega
      obtain ⟨rfl, e1⟩ : m = false ∧ l.length = 0 := h1.resolve_left (by omega)
      rw [e1, e2, e3]
      exact shapeKx n l ns qs w AL AN AK AA cL cN cK cA k ks.length hk e1 e3 e2

def SpecShp (x : Cr) : Prop := x.ok → x.enc.bulk ≤ 1048576 → ∀ (w : World) (cs : List Value), Rd w x.enc cs → Calls Try.prog 117 #[.agg cs.toArray] w (Says x.shp w)

set_option maxRecDepth 100000 in
set_option maxHeartbeats 1000000 in
theorem SpecShp_of (k : Int) (n : ByteArray) (m : Bool) (l : List Int) (ns : List ByteArray) (ks : List Cr) (qs : List Ca) (ih : ∀ x ∈ ks, SpecShp x) (ia : ∀ a ∈ qs, SpecShp a.body) : SpecShp (.mk k n m l ns ks qs) := by
  intro hok hbulk w cs h
  have hbp := Cr.bulk_parts hbulk
  have hkb := Cr.kid_bulk hbp.2.2.2.1
  have hab := Ca.alt_bulk hbp.2.2.2.2
  have hok' := hok
  simp only [Cr.ok] at hok'
  have hqn := hab.1
  have hkn := hkb.1
  obtain ⟨P, hP⟩ : ∃ P : Prop, P = (Cr.mk k n m l ns ks qs).shp := ⟨_, rfl⟩
  rw [← hP]
  rw [Cr.shp] at hP
  have HP := Lib.hid hP
  clear hP
  have CS := fun w cs h => specShape k n m l ns ks qs hok hqn w cs h
  generalize fitP k n m l ns ks.length qs = F at *
  have H0 := Lib.hid h
  obtain ⟨AL, cL, AN, cN, AK, cK, AA, cA, rfl, _, _, rK, rA, _, _, _, _⟩ := Cr.open_ h
  have IH : Hid (∀ x ∈ ks, ∀ (w : World) (cs : List Value), Rd w x.enc cs → Calls Try.prog 117 #[.agg cs.toArray] w (Says x.shp w)) := fun x hx => ih x hx (Cr.oks_mem hok'.2.2.2.2.2.2.1 x hx) (hkb.2 x hx)
  have IA : Hid (∀ a ∈ qs, ∀ (w : World) (cs : List Value), Rd w a.body.enc cs → Calls Try.prog 117 #[.agg cs.toArray] w (Says a.body.shp w)) := fun a ha => ia a ha (Ca.body_ok (Ca.oks_mem hok'.2.2.2.2.2.2.2 a ha)) (by
    have := hab.2 a ha
    cases a
    exact (Ca.bulk_parts this).2.2)
  have B1 := Lib.hid (below_alloc1 w (.cells #[.int .i64 k, .string n, .bool m, .slice AL l.length cL, .slice AN ns.length cN, .slice AK ks.length cK, .slice AA qs.length cA] 36))
  have CT := Lib.hid (CS _ _ (H0.out.below B1.out))
  have RK := Lib.hid (RdRow.below rK (by omega) B1.out)
  have RA := Lib.hid (RdRow.below rA (by omega) B1.out)
  have BK := Lib.hid (blk_new w (.cells #[.int .i64 k, .string n, .bool m, .slice AL l.length cL, .slice AN ns.length cN, .slice AK ks.length cK, .slice AA qs.length cA] 36))
  have HSW : Hid ((w.alloc (.cells #[.int .i64 k, .string n, .bool m, .slice AL l.length cL, .slice AN ns.length cN, .slice AK ks.length cK, .slice AA qs.length cA] 36)).heap.size = w.heap.size + 1) := by simp [Hid]
  clear ih ia h rK rA H0 CS hok hok' hbulk hbp hkb hab
  go_enter Try.func117, Try.ntmps117
  go_wp2_with fail
  generalize hW : w.alloc (.cells #[.int .i64 k, .string n, .bool m, .slice AL l.length cL, .slice AN ns.length cN, .slice AK ks.length cK, .slice AA qs.length cA] 36) = W at *
  clear hW
  refine CT.out.mono ?_
  rintro e w1 ⟨r, rfl, hr, hb⟩
  have HR := Lib.hid hr
  have B2 := Lib.hid hb
  clear hr hb CT
  cases r
  · go_wp2_with fail
    go_ret
    refine says_of ?_ (B1.out.trans (B2.out.mono (by rw [HSW.out]; omega)))
    rw [HP.out]
    exact iff_of_false (by decide) fun h => by have := HR.out.2 h.1; cases this
  have z5 : World.cell? w1 ⟨w.heap.size, 5, none⟩ = some (.slice AK ks.length cK) := (blk_cell (blk_below BK.out B2.out) 5).trans rfl
  go_wp2_with fail
  clear z5
  go_loopw [3] (fun i wr => ∃ j : Nat, j ≤ ks.length ∧ i = .int .i64 j ∧ Hid (Below W.heap.size W wr ∧ (P ↔ (Cr.shps (ks.drop j) ∧ Ca.shps qs)))) (fun i _ => ks.length - (intOf i).toNat)
  case atStart => exact ⟨0, Nat.zero_le _, rfl, Lib.hid ⟨B2.out, by rw [HP.out, List.drop_zero]; exact ⟨fun h => h.2, fun h => ⟨HR.out.1 (by first | rfl | trivial), h⟩⟩⟩⟩
  case round =>
    obtain ⟨j, hj, rfl, hrel⟩ := hrel
    have RL := Lib.hid hrel.out
    clear hrel
    have z5 : World.cell? wr ⟨w.heap.size, 5, none⟩ = some (.slice AK ks.length cK) := (blk_cell (blk_below BK.out RL.out.1) 5).trans rfl
    have z6 : World.cell? wr ⟨w.heap.size, 6, none⟩ = some (.slice AA qs.length cA) := (blk_cell (blk_below BK.out RL.out.1) 6).trans rfl
    by_cases hlt : j < ks.length
    · obtain ⟨b, off, es, rfl, hcl, hrd, hc⟩ := (RdRow.below RK.out (by omega) RL.out.1).get (i := j) (x := ks[j].enc) (by simp [Cr.encs_map, List.getElem?_eq_getElem hlt])
      obtain ⟨u0, u1, u2, u3, u4, u5, u6, rfl⟩ := cells7 hcl
      have e0 : wr.cell? ⟨b, off + j * 7, none⟩ = some u0 := hc 0 _ rfl
      have e1 : wr.cell? ⟨b, off + j * 7 + 1, none⟩ = some u1 := hc 1 _ rfl
      have e2 : wr.cell? ⟨b, off + j * 7 + 2, none⟩ = some u2 := hc 2 _ rfl
      have e3 : wr.cell? ⟨b, off + j * 7 + 3, none⟩ = some u3 := hc 3 _ rfl
      have e4 : wr.cell? ⟨b, off + j * 7 + 4, none⟩ = some u4 := hc 4 _ rfl
      have e5 : wr.cell? ⟨b, off + j * 7 + 5, none⟩ = some u5 := hc 5 _ rfl
      have e6 : wr.cell? ⟨b, off + j * 7 + 6, none⟩ = some u6 := hc 6 _ rfl
      have CAL := Lib.hid (IH.out _ (List.getElem_mem hlt) wr _ hrd)
      have SD := Lib.hid (Cr.shps_drop hlt)
      clear hrd hcl hc
      go_wp2_with fail
      refine CAL.out.mono ?_
      rintro e w1 ⟨r, rfl, hr, hb1⟩
      have HR1 := Lib.hid hr
      have HB1 := Lib.hid (RL.out.1.trans (hb1.mono RL.out.1.size))
      clear hb1 CAL hr
      cases r
      · go_wp2_with fail
        go_ret
        refine says_of ?_ (B1.out.trans (HB1.out.mono (by rw [HSW.out]; omega)))
        rw [RL.out.2, SD.out]
        exact iff_of_false (by decide) fun h => by have := HR1.out.2 h.1.1; cases this
      · go_wp2
        go_roundw
        case rel => exact ⟨j + 1, by omega, by go_num, Lib.hid ⟨HB1.out, by rw [RL.out.2, SD.out]; exact ⟨fun h => ⟨h.1.2, h.2⟩, fun h => ⟨⟨HR1.out.1 (by first | rfl | trivial), h.1⟩, h.2⟩⟩⟩⟩
        case measure => simp [intOf]; omega
    · obtain rfl : j = ks.length := by omega
      have RX : Hid (Below W.heap.size W wr ∧ (P ↔ Ca.shps qs)) := ⟨RL.out.1, by
        have := RL.out.2
        rw [List.drop_length, Cr.shps] at this
        simpa using this⟩
      clear hj hlt RL
      go_wp2_with fail
      clear z5 z6
      go_loopw [4] (fun i wr => ∃ j : Nat, j ≤ qs.length ∧ i = .int .i64 j ∧ Hid (Below W.heap.size W wr ∧ (P ↔ Ca.shps (qs.drop j)))) (fun i _ => qs.length - (intOf i).toNat)
      case atStart => exact ⟨0, Nat.zero_le _, rfl, RX⟩
      case round =>
        obtain ⟨j, hj, rfl, hrel⟩ := hrel
        clear RX
        have RL := Lib.hid hrel.out
        clear hrel
        have z5 : World.cell? wr ⟨w.heap.size, 5, none⟩ = some (.slice AK ks.length cK) := (blk_cell (blk_below BK.out RL.out.1) 5).trans rfl
        have z6 : World.cell? wr ⟨w.heap.size, 6, none⟩ = some (.slice AA qs.length cA) := (blk_cell (blk_below BK.out RL.out.1) 6).trans rfl
        by_cases hlt : j < qs.length
        · obtain ⟨b, off, es, rfl, hcl, hrd, hc⟩ := (RdRow.below RA.out (by omega) RL.out.1).get (i := j) (x := qs[j].enc) (by simp [Ca.encs_map, List.getElem?_eq_getElem hlt])
          obtain ⟨nv, bs, rfl, hbl, _, hbd⟩ := Ca.openB hrd
          obtain ⟨u0, u1, u2, u3, u4, u5, u6, rfl⟩ := cells7 hbl
          have e0 : wr.cell? ⟨b, off + j * 9 + 2, none⟩ = some u0 := hc 2 _ rfl
          have e1 : wr.cell? ⟨b, off + j * 9 + 2 + 1, none⟩ = some u1 := hc 3 _ rfl
          have e2 : wr.cell? ⟨b, off + j * 9 + 2 + 2, none⟩ = some u2 := hc 4 _ rfl
          have e3 : wr.cell? ⟨b, off + j * 9 + 2 + 3, none⟩ = some u3 := hc 5 _ rfl
          have e4 : wr.cell? ⟨b, off + j * 9 + 2 + 4, none⟩ = some u4 := hc 6 _ rfl
          have e5 : wr.cell? ⟨b, off + j * 9 + 2 + 5, none⟩ = some u5 := hc 7 _ rfl
          have e6 : wr.cell? ⟨b, off + j * 9 + 2 + 6, none⟩ = some u6 := hc 8 _ rfl
          have f1 : wr.cell? ⟨b, off + j * 9 + 3, none⟩ = some u1 := hc 3 _ rfl
          have f2 : wr.cell? ⟨b, off + j * 9 + 4, none⟩ = some u2 := hc 4 _ rfl
          have f3 : wr.cell? ⟨b, off + j * 9 + 5, none⟩ = some u3 := hc 5 _ rfl
          have f4 : wr.cell? ⟨b, off + j * 9 + 6, none⟩ = some u4 := hc 6 _ rfl
          have f5 : wr.cell? ⟨b, off + j * 9 + 7, none⟩ = some u5 := hc 7 _ rfl
          have f6 : wr.cell? ⟨b, off + j * 9 + 8, none⟩ = some u6 := hc 8 _ rfl
          have CAL := Lib.hid (IA.out _ (List.getElem_mem hlt) wr _ hbd)
          have SD := Lib.hid (Ca.shps_drop hlt)
          clear hrd hcl hc hbd hbl
          go_wp2_with fail
          refine CAL.out.mono ?_
          rintro e w1 ⟨r, rfl, hr, hb1⟩
          have HR1 := Lib.hid hr
          have HB1 := Lib.hid (RL.out.1.trans (hb1.mono RL.out.1.size))
          clear hb1 CAL hr
          cases r
          · go_wp2_with fail
            go_ret
            refine says_of ?_ (B1.out.trans (HB1.out.mono (by rw [HSW.out]; omega)))
            rw [RL.out.2, SD.out]
            exact iff_of_false (by decide) fun h => by have := HR1.out.2 h.1; cases this
          · go_wp2
            go_roundw
            case rel => exact ⟨j + 1, by omega, by go_num, Lib.hid ⟨HB1.out, by rw [RL.out.2, SD.out]; exact ⟨fun h => h.2, fun h => ⟨HR1.out.1 (by first | rfl | trivial), h⟩⟩⟩⟩
            case measure => simp [intOf]; omega
        · obtain rfl : j = qs.length := by omega
          have RX := RL.out.2
          rw [List.drop_length, Ca.shps] at RX
          have RX := Lib.hid RX
          go_wp2
          go_ret
          refine says_of ?_ (B1.out.trans (RL.out.1.mono (by rw [HSW.out]; omega)))
          rw [RX.out]
          simp
theorem SpecShp_all : ∀ x : Cr, SpecShp x :=
  Cr.induct fun k n m l ns ks qs ih ia => SpecShp_of k n m l ns ks qs ih ia

end Go.Proofs.Ythidbmjdphfddaa
