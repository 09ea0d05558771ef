/- Trees: the laws' own comparison says 'the same' of what is the same data; no condition. -/
import Derived.Test.YtgogfloppnhceaaNd
import Derived.StillTailTactics
import Derived.Test.YtgogfloppnhceaaHq
namespace Go.Proofs.Ytgogfloppnhceaa
open Go.RowKit
set_option linter.unusedVariables false
set_option linter.unusedSimpArgs false

def EqNode (x : Nd) : Prop := ∀ (w : World) (cs cs' : List Value), Rd w x.enc cs → Rd w x.enc cs' →
  Calls Try.prog 41 #[.agg cs.toArray, .agg cs'.toArray] w fun e w' => e = .returned (.bool true) ∧ Below w.heap.size w w'
def EqNodeS (xs : List Nd) : Prop := ∀ (w : World) (A A' : Option Addr) (c c' : Nat), RdRow w 3 A (Nd.encs xs) → RdRow w 3 A' (Nd.encs xs) →
  Calls Try.prog 67 #[.slice A xs.length c, .slice A' xs.length c'] w fun e w' => e = .returned (.bool true) ∧ Below w.heap.size w w'

set_option maxRecDepth 100000 in
theorem eqNodeS_of (xs : List Nd) (hn : xs.length ≤ 140737488351232) (ih : ∀ x ∈ xs, EqNode x) : EqNodeS xs := by
  intro w A A' c c' h h'
  have IH := Lib.hid ih
  have H := Lib.hid h
  have H' := Lib.hid h'
  clear ih h h'
  go_enter Try.func67, Try.ntmps67
  go_wp2_with fail
  go_loopw [5] (fun i wr => ∃ j : Nat, j ≤ xs.length ∧ i = .int .i64 j ∧ Below w.heap.size w wr) (fun i _ => xs.length - (intOf i).toNat)
  case atStart => exact ⟨0, Nat.zero_le _, rfl, Below.refl _ _⟩
  case round =>
    obtain ⟨j, hj, rfl, hb⟩ := hrel
    by_cases hlt : j < xs.length
    · have hx : (Nd.encs xs)[j]? = some xs[j].enc := by simp [Nd.encs_map, List.getElem?_eq_getElem hlt]
      obtain ⟨b, off, cs, rfl, hcl, hrd, hc⟩ := (RdRow.below H.out (by omega) hb).get hx
      obtain ⟨b', off', cs', rfl, hcl', hrd', hc'⟩ := (RdRow.below H'.out (by omega) hb).get hx
      obtain ⟨u0, u1, u2, rfl⟩ := cells3 hcl
      obtain ⟨v0, v1, v2, rfl⟩ := cells3 hcl'
      have c0 : wr.cell? ⟨b, off + j * 3, none⟩ = some u0 := hc 0 _ rfl
      have c1 : wr.cell? ⟨b, off + j * 3 + 1, none⟩ = some u1 := hc 1 _ rfl
      have c2 : wr.cell? ⟨b, off + j * 3 + 2, none⟩ = some u2 := hc 2 _ rfl
      have d0 : wr.cell? ⟨b', off' + j * 3, none⟩ = some v0 := hc' 0 _ rfl
      have d1 : wr.cell? ⟨b', off' + j * 3 + 1, none⟩ = some v1 := hc' 1 _ rfl
      have d2 : wr.cell? ⟨b', off' + j * 3 + 2, none⟩ = some v2 := hc' 2 _ rfl
      have CAL := Lib.hid (IH.out _ (List.getElem_mem hlt) wr.drew _ _ (hrd.below (Below.refl _ _).drew) (hrd'.below (Below.refl _ _).drew))
      have HB := Lib.hid hb
      clear hrd hcl hc hb hrd' hcl' hc' H H' hx
      go_wp2_with fail
      go_still_tail 8, (by kernel_rfl)
      go_wp2_with fail
      refine CAL.out.mono ?_
      rintro e w1 ⟨rfl, hb1⟩
      have HB1 := Lib.hid (HB.out.drew.trans (hb1.mono HB.out.size))
      clear hb1 CAL
      go_wp2
      go_roundw
      case rel => exact ⟨j + 1, by omega, by go_num, HB1.out⟩
      case measure => simp [intOf]; omega
    · obtain rfl : j = xs.length := by omega
      have HB := Lib.hid hb
      clear hb
      go_wp2
      go_ret
      exact ⟨rfl, HB.out⟩

theorem eqNode_of (k : Int) (n : ByteArray) (ks : List Nd) (ih : EqNodeS ks) : EqNode (.mk k n ks) := by
  intro w cs cs' h h'
  obtain ⟨A, c, rfl, _, _, h4⟩ := Nd.open_ h
  obtain ⟨A', c', rfl, _, _, h4'⟩ := Nd.open_ h'
  have IH := Lib.hid ih
  have B2 := Lib.hid (((Below.refl w.heap.size w).alloc (Nat.le_refl _) (.cells #[.int .i64 k, .string n, .slice A ks.length c] 68)).alloc (by simp) (.cells #[.int .i64 k, .string n, .slice A' ks.length c'] 68))
  have H4 := Lib.hid (RdRow.below h4 (by omega) B2.out)
  have H4' := Lib.hid (RdRow.below h4' (by omega) B2.out)
  clear ih h h4 h' h4'
  go_enter Try.func41, Try.ntmps41
  go_wp2_with fail
  refine (IH.out _ A A' c c' H4.out H4'.out).mono ?_
  rintro e w1 ⟨rfl, hb⟩
  have HB := Lib.hid (B2.out.trans (hb.mono (by simp; omega)))
  clear hb
  go_wp2
  go_ret
  exact ⟨rfl, HB.out⟩

theorem eqNode : ∀ (x : Nd), x.ok → EqNode x :=
  Nd.induct fun k n ks ih h => by
    simp only [Nd.ok] at h
    exact eqNode_of k n ks (eqNodeS_of ks h.2.2.1 fun x hx => ih x hx (Nd.oks_mem h.2.2.2 x hx))

/-! ### A copy -/
def ToNode (x : Nd) : Prop := ∀ (w : World) (cs : List Value), Rd w x.enc cs →
  Calls Try.prog 39 #[.agg cs.toArray] w fun e w' => ∃ cs', e = .returned (.agg cs'.toArray) ∧ Fr w.heap.size w' x.enc cs' ∧ Below w.heap.size w w'
def ToNodeS (xs : List Nd) : Prop := ∀ (w : World) (A : Option Addr) (c : Nat), RdRow w 3 A (Nd.encs xs) →
  Calls Try.prog 66 #[.slice A xs.length c] w fun e w' => ∃ v, e = .returned v ∧ Fr w.heap.size w' (.slice 3 (Nd.encs xs)) [v] ∧ Below w.heap.size w w'

theorem Nd.enc_n (x : Nd) : x.enc.n = 3 := by
  cases x
  simp [Nd.enc, D.n, D.nAll]
theorem infoNode : (Try.prog.info? 68).map (fun i => (i.zero, i.size, i.bytes)) = some (some (.agg #[.int .i64 0, .string ⟨#[]⟩, .slice none 0 0]), 3, 48) := by kernel_rfl
theorem infoNodeSz : (Try.prog.info? 68).map (·.size) = some 3 := by kernel_rfl
theorem infoLNodeSz : (Try.prog.info? 63).map (·.size) = some 3 := by kernel_rfl

set_option maxRecDepth 100000 in
theorem toNodeS_of (xs : List Nd) (hn : xs.length ≤ 1048576) (ih : ∀ x ∈ xs, ToNode x) : ToNodeS xs := by
  intro w A c h
  have IH := Lib.hid ih
  have H := Lib.hid h
  clear ih h
  obtain ⟨i0, hi, hz0, hz1, hz2⟩ := info_parts infoNode
  have hmk := run_make (P := Try.prog) w 66 68 i0 _ Try.underlying66 hi hz0 .i64 .i64 (xs.length : Int) (xs.length : Int) (by omega) (by omega) (by rw [hz2]; omega) (by omega)
  rw [hz1, Int.toNat_natCast] at hmk
  clear hi hz0 hz1 hz2
  go_enter Try.func66, Try.ntmps66
  go_wp2_with fail
  go_loopw [4] (fun i wr => ∃ j : Nat, j ≤ xs.length ∧ i = .int .i64 j ∧ Below w.heap.size w wr ∧ Fill w.heap.size wr w.heap.size 68 3 xs.length (Nd.encs (xs.take j))) (fun i _ => xs.length - (intOf i).toNat)
  case atStart => exact ⟨0, Nat.zero_le _, rfl, (Below.refl _ _).alloc (Nat.le_refl _) _, by simpa [Nd.encs] using Fill.start (Nat.le_refl _) (size_madeCells _ _)⟩
  case round =>
    obtain ⟨j, hj, rfl, hb, hf⟩ := hrel
    clear hmk
    by_cases hlt : j < xs.length
    · have hx : (Nd.encs xs)[j]? = some xs[j].enc := by simp [Nd.encs_map, List.getElem?_eq_getElem hlt]
      obtain ⟨b, off, cs, rfl, hcl, hrd, hc⟩ := (RdRow.below H.out (by omega) hb).get hx
      have CAL := Lib.hid (IH.out _ (List.getElem_mem hlt) wr _ hrd)
      have HB := Lib.hid hb
      have HF := Lib.hid hf
      have HC := Lib.hid hc
      clear hrd hc hb hx hf H
      go_wp2_with (refine wpList_load_mid rfl 63 (.tmp 18) rfl b (off + j * 3) rfl cs _ HC.out Try.underlying63 rfl (by rw [hcl]; exact infoLNodeSz) ?_)
      refine CAL.out.mono ?_
      rintro e w1 ⟨cs', rfl, hfr, hb1⟩
      have hl : cs'.length = 3 := hfr.len.trans (Nd.enc_n _)
      have HL := Lib.hid hl
      have TH := Lib.hid ((HF.out.below hb1).there hlt)
      have hk : (Nd.encs (xs.take j)).length = j := by rw [Nd.encs_length, List.length_take]; omega
      have HF1 := Lib.hid (HF.out.store hb1 hfr hl (by rw [hk]; exact hlt))
      rw [hk] at HF1
      have HONE := Lib.hid (all_oneCell_toArray (D.K_one _ hfr.rd.choose_spec))
      have HB1 := Lib.hid (below_setCells (Nat.le_refl w.heap.size) cs' (j * 3) (HB.out.trans (hb1.mono HB.out.size)))
      clear hb1 hfr hl hk CAL
      go_wp2_with (refine wpList_store_mid rfl 68 (.tmp 21) (.tmp 20) rfl w.heap.size (j * 3) cs'.toArray rfl rfl (by simpa [HL.out] using TH.out) (by simpa [HL.out] using infoNodeSz) HONE.out ?_)
      go_roundw
      case rel =>
        refine ⟨j + 1, by omega, by go_num, HB1.out, ?_⟩
        have := HF1.out
        rw [List.take_succ_eq_append_getElem hlt, Nd.encs_map, List.map_append, ← Nd.encs_map]
        exact this
      case measure => simp [intOf]; omega
    · obtain rfl : j = xs.length := by omega
      rw [List.take_length] at hf
      have HB := Lib.hid hb
      have HF := Lib.hid (hf.done (Nd.encs_length xs) (by simp only [maxLen]; omega))
      clear hb hf H
      go_wp2
      go_ret
      exact ⟨_, rfl, HF.out, HB.out⟩

theorem toNode_of (k : Int) (n : ByteArray) (ks : List Nd) (ih : ToNodeS ks) : ToNode (.mk k n ks) := by
  intro w cs h
  obtain ⟨A, c, rfl, _, _, h4⟩ := Nd.open_ h
  have IH := Lib.hid ih
  have H4 := Lib.hid h4
  clear ih h h4
  go_enter Try.func39, Try.ntmps39
  go_wp2_with fail
  have hbo := Lib.hid (blk_new ((w.alloc (.cells #[.int .i64 k, .string n, .slice A ks.length c] 63)).alloc (.cells #[.int .i64 0, .string ⟨#[]⟩, .slice none 0 0] 68)) (.cells #[.int .i64 k, .string n, .slice none 0 0] 68))
  have hbr := Lib.hid (blk_old (blk_new (w.alloc (.cells #[.int .i64 k, .string n, .slice A ks.length c] 63)) (.cells #[.int .i64 0, .string ⟨#[]⟩, .slice none 0 0] 68)) (.cells #[.int .i64 k, .string n, .slice none 0 0] 68))
  have B3 := Lib.hid ((((Below.refl w.heap.size w).alloc (Nat.le_refl _) (.cells #[.int .i64 k, .string n, .slice A ks.length c] 63)).alloc (by simp) (.cells #[.int .i64 0, .string ⟨#[]⟩, .slice none 0 0] 68)).alloc (by simp; omega) (.cells #[.int .i64 k, .string n, .slice none 0 0] 68))
  have H5 := Lib.hid (RdRow.below H4.out (by omega) B3.out)
  generalize hW : ((w.alloc (.cells #[.int .i64 k, .string n, .slice A ks.length c] 63)).alloc (.cells #[.int .i64 0, .string ⟨#[]⟩, .slice none 0 0] 68)).alloc (.cells #[.int .i64 k, .string n, .slice none 0 0] 68) = W at *
  have hs : W.heap.size = w.heap.size + 1 + 1 + 1 := by rw [← hW]; simp
  have HS := Lib.hid hs
  clear hW hs
  refine (IH.out _ A c H5.out).mono ?_
  rintro e w1 ⟨v, rfl, hfr, hb⟩
  obtain ⟨A', c', rfl, _, _, _⟩ := hfr.slice
  have HFR := Lib.hid hfr
  have hlt := hb.size
  rw [HS.out] at hlt
  have b3 := B3.out.trans (hb.mono (by rw [HS.out]; omega))
  have ho := blk_below hbo.out hb
  have hr := blk_below hbr.out hb
  have B4 := Lib.hid b3
  have c0 := blk_cell ho 0
  have c1 := blk_cell ho 1
  have c2 := blk_cell ho 2
  have d0 := blk_cell hr 0
  have d1 := blk_cell hr 1
  have d2 := blk_cell hr 2
  have f2 := blk_frozen ho 2
  have e0 := blk_frozen hr 0
  have e1 := blk_frozen hr 1
  have e2 := blk_frozen hr 2
  simp at c0 c1 c2 d0 d1 d2 f2 e0 e1 e2 hlt
  clear hfr hb b3 ho hr
  go_wp2
  refine bodyPost_ret (v := .agg #[.int .i64 k, .string n, .slice A' (Nd.encs ks).length c']) (by simp [results, Try.results39, go_sem, d0, d1, d2]) rfl ⟨[.int .i64 k, .string n, .slice A' (Nd.encs ks).length c'], rfl, ?_, ?_⟩
  · rw [Nd.enc, fr_struct]
    refine frF_int (frF_str (frF_last (Fr.lower (B := W.heap.size) ?_ (by rw [HS.out]; omega))))
    exact (((HFR.out.set (by rw [HS.out]; simp) _).set (by rw [HS.out]; simp) _).set (by rw [HS.out]; simp) _).set (by rw [HS.out]; simp) _
  · exact (((B4.out.setCell (by simp; omega) _).setCell (by simp) _).setCell (by simp) _).setCell (by simp) _

/-- Small enough to be copied. -/
theorem toNode : ∀ (x : Nd), x.bulk ≤ 1048576 → ToNode x :=
  Nd.induct fun k n ks ih h => by
    simp only [Nd.bulk] at h
    refine toNode_of k n ks (toNodeS_of ks (by omega) fun x hx => ih x hx ?_)
    have := Nd.bulk_mem hx
    omega

end Go.Proofs.Ytgogfloppnhceaa
