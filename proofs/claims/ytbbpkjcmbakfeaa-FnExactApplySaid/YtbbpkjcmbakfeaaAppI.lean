/- Binds applied to a type: the program's whole function; no condition. -/
import Derived.Test.YtbbpkjcmbakfeaaPutIn
import Derived.Test.YtbbpkjcmbakfeaaAppT
namespace Go.Proofs.Ytbbpkjcmbakfeaa
open Go.RowKit
set_option linter.unusedVariables false
set_option linter.unusedSimpArgs false

theorem cellsAt_blk0 {w : World} {g : Nat} {cs : List Value} {T : TypeId} {fz : Nat × Nat} (h : w.heap[g]? = some (.cells cs.toArray T fz)) : CellsAt w g 0 cs := fun j u hu => by
  rw [Nat.zero_add]
  exact (blk_cell h j).trans (by simpa using hu)
theorem bget_take {bs : List (Int × Ty)} {j : Nat} (h : j < bs.length) (d : Int) : bget (bs.take (j + 1)) d = match bget (bs.take j) d with | some y => some y | none => if bs[j].1 = d then some bs[j].2 else none := by
  rw [List.take_succ_eq_append_getElem h]
  generalize bs.take j = l
  induction l with
  | nil => simp [bget]
  | cons p l ih =>
    obtain ⟨i, y⟩ := p
    simp only [List.cons_append, bget]
    split
    · rfl
    · exact ih
/-- The map holds the first binds; what it holds lies in w. -/
def MapTo (w : World) (es : List (Int × Value)) (bs : List (Int × Ty)) : Prop :=
  ∀ d, (Lit.int .i64 d).wf = true → match bget bs d with | none => mget es d = none | some y => ∃ cs : List Value, mget es d = some (.agg cs.toArray) ∧ Rd w y.enc cs
theorem mapTo_keep {w : World} {es : List (Int × Value)} {bs : List (Int × Ty)} {j : Nat} (hj : j < bs.length) (h : MapTo w es (bs.take j)) (hd : (Lit.int .i64 bs[j].1).wf = true) (hs : (mget es bs[j].1).isSome = true) : MapTo w es (bs.take (j + 1)) := by
  intro d hd'
  have h1 := h d hd'
  rw [bget_take hj]
  cases hb : bget (bs.take j) d with
  | some y => rw [hb] at h1; exact h1
  | none =>
    rw [hb] at h1
    simp only at h1 ⊢
    by_cases he : bs[j].1 = d
    · rw [he, h1] at hs
      cases hs
    · rw [if_neg he]
      exact h1
theorem mapTo_put {w : World} {es : List (Int × Value)} {bs : List (Int × Ty)} {j : Nat} {cs : List Value} (hj : j < bs.length) (h : MapTo w es (bs.take j)) (hd : (Lit.int .i64 bs[j].1).wf = true) (hs : (mget es bs[j].1).isSome = false) (hr : Rd w bs[j].2.enc cs) : MapTo w (mput es bs[j].1 (.agg cs.toArray)) (bs.take (j + 1)) := by
  intro d hd'
  have h1 := h d hd'
  rw [bget_take hj]
  by_cases he : bs[j].1 = d
  · subst he
    cases hb : bget (bs.take j) bs[j].1 with
    | some y =>
      rw [hb] at h1
      obtain ⟨cs', h2, _⟩ := h1
      rw [h2] at hs
      cases hs
    | none =>
      simp only [if_pos rfl, mget_put_same]
      exact ⟨cs, rfl, hr⟩
  · rw [mget_put_other _ _ he]
    cases hb : bget (bs.take j) d with
    | some y => rw [hb] at h1; exact h1
    | none =>
      rw [hb] at h1
      simp only [if_neg he]
      exact h1
theorem bindsGood_take {bs : List (Int × Ty)} {j : Nat} (h : j < bs.length) : bindsGood (bs.take (j + 1)) = (bindsGood (bs.take j) && !(bs[j].2.fault 1 20000).1) := by
  rw [List.take_succ_eq_append_getElem h, bindsGood, List.all_append]
  simp [bindsGood]
theorem bindsGood_bad {bs : List (Int × Ty)} {j : Nat} (h : j < bs.length) (hf : (bs[j].2.fault 1 20000).1 = true) : bindsGood bs = false := by
  apply Bool.eq_false_iff.2
  intro hg
  have := bindsGood_mem hg bs[j] (List.getElem_mem h)
  rw [this] at hf
  cases hf

set_option maxRecDepth 100000 in
set_option maxHeartbeats 16000000 in
theorem implApply (bs : List (Int × Ty)) (hbs : BsOk bs) (hids : ∀ p ∈ bs, (Lit.int .i64 p.1).wf = true) (x : Ty) (hx : x.ok) (w : World) (A0 : Option Addr) (p0 : Nat) (cs : List Value) (hB : RdRow w 5 A0 (bindsD bs)) (h : Rd w x.enc cs) :
    Calls Try.prog 34 #[.slice A0 bs.length p0, .agg cs.toArray] w fun e w' => ∃ cs', e = .returned (.agg cs'.toArray) ∧ Fr w.heap.size w' (applyRes bs x).enc cs' ∧ Below w.heap.size w w' := by
  obtain ⟨u0, u1, u2, u3, rfl⟩ := cells4 (h.len.trans x.n)
  have HB0 : Hid (Below w.heap.size w ((w.alloc (.cells #[u0, u1, u2, u3] 30)).alloc (.cells #[.int .i64 0, .int .i64 0, .string ⟨#[]⟩, .slice none 0 0] 30))) := (below_alloc1 _ _).alloc (by simp) _
  have BX0 := Lib.hid (blk_old (blk_new w (.cells #[u0, u1, u2, u3] 30)) (.cells #[.int .i64 0, .int .i64 0, .string ⟨#[]⟩, .slice none 0 0] 30))
  have BZ0 := Lib.hid (blk_new_g (w := w.alloc (.cells #[u0, u1, u2, u3] 30)) (g := w.heap.size + 1) (o := .cells #[.int .i64 0, .int .i64 0, .string ⟨#[]⟩, .slice none 0 0] 30) (by simp))
  have CT1 := Lib.hid (implTypeFault x hx ((w.alloc (.cells #[u0, u1, u2, u3] 30)).alloc (.cells #[.int .i64 0, .int .i64 0, .string ⟨#[]⟩, .slice none 0 0] 30)) _ (h.below HB0.out))
  have HBS := Lib.hid hB
  have HX := Lib.hid h
  have HO := Lib.hid hbs
  have HI := Lib.hid hids
  have HXO := Lib.hid hx
  have hn := hbs.len
  have SZ0 : Hid (w.heap.size + 2 ≤ ((w.alloc (.cells #[u0, u1, u2, u3] 30)).alloc (.cells #[.int .i64 0, .int .i64 0, .string ⟨#[]⟩, .slice none 0 0] 30)).heap.size) := (by show _ ≤ _; simp)
  clear h hB hbs hx hids
  cases hf : (x.fault 1 20000).1 with
  | true =>
    rw [hf] at CT1
    have RN : Hid (applyRes bs x = Ty.none_) := by show _ = _; rw [applyRes, if_pos (.inl hf)]
    clear hf
    go_enter Try.func34, Try.ntmps34
    go_wp2_with (go_at_call 63; refine CT1.out.mono ?_; rintro e w1 ⟨rfl, hb⟩; have HB1 := Lib.hid (HB0.out.trans (hb.mono HB0.out.size)); have BZ1 := Lib.hid (blk_below BZ0.out hb); have zr0 : World.cell? w1 ⟨w.heap.size + 1, 0, none⟩ = some (.int .i64 0) := (blk_cell BZ1.out 0).trans rfl; have zf0 := blk_frozen BZ1.out 0; have zr1 : World.cell? w1 ⟨w.heap.size + 1, 1, none⟩ = some (.int .i64 0) := (blk_cell BZ1.out 1).trans rfl; have zf1 := blk_frozen BZ1.out 1; have zr2 : World.cell? w1 ⟨w.heap.size + 1, 2, none⟩ = some (.string ⟨#[]⟩) := (blk_cell BZ1.out 2).trans rfl; have zf2 := blk_frozen BZ1.out 2; have zr3 : World.cell? w1 ⟨w.heap.size + 1, 3, none⟩ = some (.slice none 0 0) := (blk_cell BZ1.out 3).trans rfl; have zf3 := blk_frozen BZ1.out 3; clear hb)
    refine bodyPost_ret (v := .agg #[.int .i64 0, .int .i64 0, .string ⟨#[]⟩, .slice none 0 0]) (by simp [results, Try.results34, go_sem, zr0, zr1, zr2, zr3]) rfl ⟨[.int .i64 0, .int .i64 0, .string ⟨#[]⟩, .slice none 0 0], rfl, ?_, below_store4 (HB1.out) (by omega) _ _ _ _⟩
    rw [RN.out]
    exact fr_none _ _
  | false =>
    rw [hf] at CT1
    have HF := Lib.hid hf
    clear hf
    have hmm := @run_makeMap Try.prog
    go_enter Try.func34, Try.ntmps34
    go_upto_region 3 with (go_at_call 63; refine CT1.out.mono ?_; rintro e w1 ⟨rfl, hb⟩; have HB1 := Lib.hid (HB0.out.trans (hb.mono HB0.out.size)); have BZ1 := Lib.hid (blk_below BZ0.out hb); have BX1 := Lib.hid (blk_below BX0.out hb); have SZ1 : Hid (w.heap.size + 2 ≤ w1.heap.size) := Nat.le_trans SZ0.out hb.size; clear hb)
    go_wp2_with fail
    clear hmm
    have HM0 := Lib.hid (hasMap_new w1 keyI64)
    have HB2 := Lib.hid (HB1.out.alloc HB1.out.size (.map #[] 0))
    have BZ2 := Lib.hid (blk_old BZ1.out (.map #[] 0))
    have BX2 := Lib.hid (blk_old BX1.out (.map #[] 0))
    go_loopw [18] (fun i wr => ∃ j : Nat, j ≤ bs.length ∧ i = .int .i64 j ∧ Hid (Below w.heap.size w wr ∧ wr.heap[w.heap.size]? = some (.cells #[u0, u1, u2, u3] 30 (0, 0)) ∧ wr.heap[w.heap.size + 1]? = some (.cells #[.int .i64 0, .int .i64 0, .string ⟨#[]⟩, .slice none 0 0] 30 (0, 0)) ∧ w1.heap.size < wr.heap.size ∧ bindsGood (bs.take j) = true ∧ ∃ es : List (Int × Value), HasMap keyI64 w1.heap.size es wr ∧ es.length ≤ j ∧ MapTo w es (bs.take j))) (fun i _ => bs.length - (intOf i).toNat)
    case atStart => exact ⟨0, Nat.zero_le _, rfl, Lib.hid ⟨HB2.out, BX2.out, BZ2.out, by simp, rfl, [], HM0.out, Nat.le_refl _, fun d _ => rfl⟩⟩
    case round =>
      obtain ⟨j, hj, rfl, hrel⟩ := hrel
      obtain ⟨hb, hx, hz, hsz, hgd, es, hm, hle, hto⟩ := hrel.out
      have HB := Lib.hid hb
      have BX := Lib.hid hx
      have BZ := Lib.hid hz
      have LT := Lib.hid hsz
      have GD := Lib.hid hgd
      have HM := Lib.hid hm
      have LE := Lib.hid hle
      have TO := Lib.hid hto
      clear hrel hb hx hz hsz hgd hm hle hto
      by_cases hlt : j < bs.length
      · obtain ⟨b, off, v0, v1, v2, v3, rfl, hc, hrd⟩ := binds_get HBS.out hlt
        obtain ⟨k', d', n', A', l', c', hv⟩ := ty_cells hrd
        simp only [List.cons.injEq, and_true] at hv
        obtain ⟨rfl, rfl, rfl, rfl⟩ := hv
        have e0 : wr.cell? ⟨b, off + j * 5, none⟩ = some (.int .i64 bs[j].1) := cell_below HB.out (by simpa using hc 0 _ rfl)
        have e1 : wr.cell? ⟨b, off + j * 5 + 1, none⟩ = some (.int .i64 k') := cell_below HB.out (hc 1 _ rfl)
        have e2 : wr.cell? ⟨b, off + j * 5 + 2, none⟩ = some (.int .i64 d') := cell_below HB.out (hc 2 _ rfl)
        have e3 : wr.cell? ⟨b, off + j * 5 + 3, none⟩ = some (.string n') := cell_below HB.out (hc 3 _ rfl)
        have e4 : wr.cell? ⟨b, off + j * 5 + 4, none⟩ = some (.slice A' l' c') := cell_below HB.out (hc 4 _ rfl)
        have i1 : (0 : Int) ≤ (j : Int) := Int.natCast_nonneg _
        have i2 : (j : Int) < (bs.length : Int) := by omega
        have HA := Lib.hid (below_alloc1 wr (.cells #[.int .i64 bs[j].1, .int .i64 k', .int .i64 d', .string n', .slice A' l' c'] 78))
        have HBA := Lib.hid (HB.out.alloc HB.out.size (.cells #[.int .i64 bs[j].1, .int .i64 k', .int .i64 d', .string n', .slice A' l' c'] 78))
        have RD := Lib.hid hrd
        have BT0 := Lib.hid (blk_new wr (.cells #[.int .i64 bs[j].1, .int .i64 k', .int .i64 d', .string n', .slice A' l' c'] 78))
        have CT := Lib.hid (implTypeFault bs[j].2 (HO.out.ok _ (List.getElem_mem hlt)) (wr.alloc (.cells #[.int .i64 bs[j].1, .int .i64 k', .int .i64 d', .string n', .slice A' l' c'] 78)) _ (hrd.below HBA.out))
        have DW : Hid ((Lit.int .i64 bs[j].1).wf = true) := HI.out _ (List.getElem_mem hlt)
        clear hc hrd
        cases hq : (bs[j].2.fault 1 20000).1 with
        | true =>
          rw [hq] at CT
          have RN : Hid (applyRes bs x = Ty.none_) := by show _ = _; rw [applyRes, if_pos (.inr (.inl (bindsGood_bad hlt hq)))]
          clear hq
          go_wp2_with (go_at_call 63; refine CT.out.mono ?_; rintro e w2 ⟨rfl, hb⟩; have HB3 := Lib.hid (HBA.out.trans (hb.mono HBA.out.size)); have BZ3 := Lib.hid (blk_below (blk_below BZ.out HA.out) hb); have zr0 : World.cell? w2 ⟨w.heap.size + 1, 0, none⟩ = some (.int .i64 0) := (blk_cell BZ3.out 0).trans rfl; have zf0 := blk_frozen BZ3.out 0; have zr1 : World.cell? w2 ⟨w.heap.size + 1, 1, none⟩ = some (.int .i64 0) := (blk_cell BZ3.out 1).trans rfl; have zf1 := blk_frozen BZ3.out 1; have zr2 : World.cell? w2 ⟨w.heap.size + 1, 2, none⟩ = some (.string ⟨#[]⟩) := (blk_cell BZ3.out 2).trans rfl; have zf2 := blk_frozen BZ3.out 2; have zr3 : World.cell? w2 ⟨w.heap.size + 1, 3, none⟩ = some (.slice none 0 0) := (blk_cell BZ3.out 3).trans rfl; have zf3 := blk_frozen BZ3.out 3; clear hb)
          refine bodyPost_ret (v := .agg #[.int .i64 0, .int .i64 0, .string ⟨#[]⟩, .slice none 0 0]) (by simp [results, Try.results34, go_sem, zr0, zr1, zr2, zr3]) rfl ⟨[.int .i64 0, .int .i64 0, .string ⟨#[]⟩, .slice none 0 0], rfl, ?_, below_store4 (HB3.out) (by omega) _ _ _ _⟩
          rw [RN.out]
          exact fr_none _ _
        | false =>
          rw [hq] at CT
          have HQ := Lib.hid hq
          clear hq
          have hto := TO.out bs[j].1 DW.out
          cases hbg : bget (bs.take j) bs[j].1 with
          | some y =>
            rw [hbg] at hto
            obtain ⟨cs', hg1, hr1⟩ := hto
            obtain ⟨k2, d2, n2, A2, l2, c2, rfl⟩ := ty_cells hr1
            have MG : Hid ((mget es bs[j].1).getD (.agg #[.int .i64 0, .int .i64 0, .string ⟨#[]⟩, .slice none 0 0]) = .agg #[.int .i64 k2, .int .i64 d2, .string n2, .slice A2 l2 c2]) := by show _ = _; rw [hg1]; rfl
            have MS : Hid ((mget es bs[j].1).isSome = true) := by show _ = _; rw [hg1]; rfl
            clear hg1 hr1 hbg
            go_wp2_with (first
              | (go_at_call 63; refine CT.out.mono ?_; rintro e w2 ⟨rfl, hb⟩; have HB3 := Lib.hid (HBA.out.trans (hb.mono HBA.out.size)); have BZ3 := Lib.hid (blk_below (blk_below BZ.out HA.out) hb); have BX3 := Lib.hid (blk_below (blk_below BX.out HA.out) hb); have BT3 := Lib.hid (blk_below BT0.out hb); have HM3 := Lib.hid ((HM.out.below HA.out).below hb); have LT3 := Lib.hid (Nat.lt_of_lt_of_le LT.out (Nat.le_trans HA.out.size hb.size)); have t0 : World.cell? w2 ⟨wr.heap.size, 0, none⟩ = some (.int .i64 bs[j].1) := (blk_cell BT3.out 0).trans rfl; have t1 : World.cell? w2 ⟨wr.heap.size, 1, none⟩ = some (.int .i64 k') := (blk_cell BT3.out 1).trans rfl; have t2 : World.cell? w2 ⟨wr.heap.size, 2, none⟩ = some (.int .i64 d') := (blk_cell BT3.out 2).trans rfl; have t3 : World.cell? w2 ⟨wr.heap.size, 3, none⟩ = some (.string n') := (blk_cell BT3.out 3).trans rfl; have t4 : World.cell? w2 ⟨wr.heap.size, 4, none⟩ = some (.slice A' l' c') := (blk_cell BT3.out 4).trans rfl; clear hb)
              | (at_lookup; refine wpl_map_get2 rfl _ _ rfl (Try.zeroValue30 _) mapI64Type rfl HM3.out bs[j].1 rfl DW.out _ MG.out true MS.out ?_; have al := Lib.hid (@below_alloc1 w2)))
            go_roundw
            case rel => exact ⟨j + 1, by omega, by go_num, Lib.hid ⟨HB3.out.alloc HB3.out.size _, blk_old BX3.out _, blk_old BZ3.out _, Nat.lt_of_lt_of_le LT3.out (al.out _).size, by rw [bindsGood_take hlt, GD.out, HQ.out]; rfl, es, HM3.out.below (al.out _), by have := LE.out; omega, mapTo_keep hlt TO.out DW.out MS.out⟩⟩
            case measure => simp [intOf]; omega
          | none =>
            rw [hbg] at hto
            have MG : Hid ((mget es bs[j].1).getD (.agg #[.int .i64 0, .int .i64 0, .string ⟨#[]⟩, .slice none 0 0]) = .agg #[.int .i64 0, .int .i64 0, .string ⟨#[]⟩, .slice none 0 0]) := by show _ = _; rw [hto]; rfl
            have MS : Hid ((mget es bs[j].1).isSome = false) := by show _ = _; rw [hto]; rfl
            clear hto hbg
            go_wp2_with (first
              | (go_at_call 63; refine CT.out.mono ?_; rintro e w2 ⟨rfl, hb⟩; have HB3 := Lib.hid (HBA.out.trans (hb.mono HBA.out.size)); have BZ3 := Lib.hid (blk_below (blk_below BZ.out HA.out) hb); have BX3 := Lib.hid (blk_below (blk_below BX.out HA.out) hb); have BT3 := Lib.hid (blk_below BT0.out hb); have HM3 := Lib.hid ((HM.out.below HA.out).below hb); have LT3 := Lib.hid (Nat.lt_of_lt_of_le LT.out (Nat.le_trans HA.out.size hb.size)); have t0 : World.cell? w2 ⟨wr.heap.size, 0, none⟩ = some (.int .i64 bs[j].1) := (blk_cell BT3.out 0).trans rfl; have t1 : World.cell? w2 ⟨wr.heap.size, 1, none⟩ = some (.int .i64 k') := (blk_cell BT3.out 1).trans rfl; have t2 : World.cell? w2 ⟨wr.heap.size, 2, none⟩ = some (.int .i64 d') := (blk_cell BT3.out 2).trans rfl; have t3 : World.cell? w2 ⟨wr.heap.size, 3, none⟩ = some (.string n') := (blk_cell BT3.out 3).trans rfl; have t4 : World.cell? w2 ⟨wr.heap.size, 4, none⟩ = some (.slice A' l' c') := (blk_cell BT3.out 4).trans rfl; have s0 : ∀ o, World.cell? (World.alloc w2 o) ⟨wr.heap.size, 0, none⟩ = some (.int .i64 bs[j].1) := fun o => (blk_cell (blk_old BT3.out o) 0).trans rfl; have s1 : ∀ o, World.cell? (World.alloc w2 o) ⟨wr.heap.size, 1, none⟩ = some (.int .i64 k') := fun o => (blk_cell (blk_old BT3.out o) 1).trans rfl; have s2 : ∀ o, World.cell? (World.alloc w2 o) ⟨wr.heap.size, 2, none⟩ = some (.int .i64 d') := fun o => (blk_cell (blk_old BT3.out o) 2).trans rfl; have s3 : ∀ o, World.cell? (World.alloc w2 o) ⟨wr.heap.size, 3, none⟩ = some (.string n') := fun o => (blk_cell (blk_old BT3.out o) 3).trans rfl; have s4 : ∀ o, World.cell? (World.alloc w2 o) ⟨wr.heap.size, 4, none⟩ = some (.slice A' l' c') := fun o => (blk_cell (blk_old BT3.out o) 4).trans rfl; clear hb)
              | (at_lookup; refine wpl_map_get2 rfl _ _ rfl (Try.zeroValue30 _) mapI64Type rfl HM3.out bs[j].1 rfl DW.out _ MG.out false MS.out ?_; have al := Lib.hid (@below_alloc1 w2))
              | (at_mapUpdate; refine wpl_map_put rfl _ _ _ rfl mapI64Type rfl (HM3.out.below (al.out _)) (by have := LE.out; simp only [maxLen]; omega) bs[j].1 rfl DW.out (.agg #[.int .i64 k', .int .i64 d', .string n', .slice A' l' c']) rfl ?_; intro w4 hm4 hg4; have HM4 := Lib.hid hm4; have G4 := Lib.hid hg4; clear hm4 hg4))
            go_roundw
            case rel => exact ⟨j + 1, by omega, by go_num, Lib.hid ⟨(HB3.out.trans ((al.out _).mono HB3.out.size)).grown G4.out (Nat.le_trans HB3.out.size (al.out _).size) (fun q hq => by injection hq with hq; have := SZ1.out; omega), (G4.out.block _ (Nat.lt_of_lt_of_le (blk_lt BX3.out) (al.out _).size) (by have := SZ1.out; simp; omega)).trans (blk_old BX3.out _), (G4.out.block _ (Nat.lt_of_lt_of_le (blk_lt BZ3.out) (al.out _).size) (by have := SZ1.out; simp; omega)).trans (blk_old BZ3.out _), Nat.lt_of_lt_of_le LT3.out (Nat.le_trans (al.out _).size G4.out.size), by rw [bindsGood_take hlt, GD.out, HQ.out]; rfl, _, HM4.out, by rw [mput_len]; have := LE.out; split <;> omega, mapTo_put (cs := [.int .i64 k', .int .i64 d', .string n', .slice A' l' c']) hlt TO.out DW.out MS.out RD.out⟩⟩
            case measure => simp [intOf]; omega
      · obtain rfl : j = bs.length := by omega
        have hgx := Ty.good HF.out
        have hgb : bindsGood bs = true := by have := GD.out; rwa [List.take_length] at this
        have hto := TO.out
        rw [List.take_length] at hto
        have hmo : MapOf wr w1.heap.size es bs := ⟨HM.out, fun d hd => by
          have := hto d hd
          cases hb : bget bs d with
          | none => rw [hb] at this; exact this
          | some y =>
            rw [hb] at this
            obtain ⟨cs, h1, h2⟩ := this
            exact ⟨cs, h1, h2.below HB.out⟩⟩
        have CT := Lib.hid (implPutIn bs (fun p hp => by have := Ty.good (bindsGood_mem hgb p hp); exact ⟨this.1, by omega⟩) x hgx.1 HXO.out (by omega) wr wr _ w.heap.size 0 w1.heap.size es (HX.out.below HB.out) (cellsAt_blk0 (cs := [u0, u1, u2, u3]) BX.out) (blk_lt BX.out) (Below.refl _ _) hmo)
        have RN : Hid (applyRes bs x = putRes bs x) := by
          show _ = _
          rw [applyRes, putRes]
          by_cases hl : (x.lrg bs 1 20000).1 = true
          · rw [if_pos hl, if_pos (.inr (.inr hl))]; rfl
          · rw [if_neg hl, if_neg]
            rintro (h | h | h)
            · rw [HF.out] at h; cases h
            · rw [hgb] at h; cases h
            · exact hl h
        have hsz := blk_lt BZ.out
        clear hgx hgb hto hmo
        go_wp2_with (go_at_call 85; refine CT.out.mono ?_; rintro e w2 ⟨cs', rfl, hfr, hb⟩; obtain ⟨k1, d1, n1, A1, l1, p1, rfl⟩ := ty_cells hfr.rd; have FR := Lib.hid hfr; have HB3 := Lib.hid (HB.out.trans (hb.mono HB.out.size)); have BZ3 := Lib.hid (blk_old (blk_below BZ.out hb) (.cells #[.int .i64 k1, .int .i64 d1, .string n1, .slice A1 l1 p1] 30)); have zr0 : World.cell? (w2.alloc (.cells #[.int .i64 k1, .int .i64 d1, .string n1, .slice A1 l1 p1] 30)) ⟨w.heap.size + 1, 0, none⟩ = some (.int .i64 0) := (blk_cell BZ3.out 0).trans rfl; have zf0 := blk_frozen BZ3.out 0; have zr1 : World.cell? (w2.alloc (.cells #[.int .i64 k1, .int .i64 d1, .string n1, .slice A1 l1 p1] 30)) ⟨w.heap.size + 1, 1, none⟩ = some (.int .i64 0) := (blk_cell BZ3.out 1).trans rfl; have zf1 := blk_frozen BZ3.out 1; have zr2 : World.cell? (w2.alloc (.cells #[.int .i64 k1, .int .i64 d1, .string n1, .slice A1 l1 p1] 30)) ⟨w.heap.size + 1, 2, none⟩ = some (.string ⟨#[]⟩) := (blk_cell BZ3.out 2).trans rfl; have zf2 := blk_frozen BZ3.out 2; have zr3 : World.cell? (w2.alloc (.cells #[.int .i64 k1, .int .i64 d1, .string n1, .slice A1 l1 p1] 30)) ⟨w.heap.size + 1, 3, none⟩ = some (.slice none 0 0) := (blk_cell BZ3.out 3).trans rfl; have zf3 := blk_frozen BZ3.out 3; clear hfr hb)
        refine bodyPost_ret (v := .agg #[.int .i64 k1, .int .i64 d1, .string n1, .slice A1 l1 p1]) (by simp [results, Try.results34, go_sem, zr0, zr1, zr2, zr3]) rfl ⟨[.int .i64 k1, .int .i64 d1, .string n1, .slice A1 l1 p1], rfl, ?_, below_store4 (HB3.out.alloc HB3.out.size _) (by omega) _ _ _ _⟩
        rw [RN.out]
        exact (fr_store4 (FR.out.below (below_alloc1 _ _)) hsz _ _ _ _).lower HB.out.size

end Go.Proofs.Ytbbpkjcmbakfeaa
