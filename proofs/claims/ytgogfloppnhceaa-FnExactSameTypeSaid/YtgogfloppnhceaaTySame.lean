/- Types: both 'SameType' tell whether two types are the same; no condition. -/
import Derived.Test.YtgogfloppnhceaaTy
namespace Go.Proofs.Ytgogfloppnhceaa
open Go.RowKit
set_option linter.unusedVariables false
set_option linter.unusedSimpArgs false

mutual
def Ty.same : Ty → Ty → Bool
  | .mk k d n ks, .mk k' d' n' ks' => (k == k') && (d == d') && ((n.toList == n'.toList) && Ty.sames ks ks')
def Ty.sames : List Ty → List Ty → Bool
  | [], [] => true
  | x :: xs, y :: ys => x.same y && Ty.sames xs ys
  | [], _ :: _ => false
  | _ :: _, [] => false
end
theorem Ty.sames_len : ∀ {xs ys : List Ty}, xs.length ≠ ys.length → Ty.sames xs ys = false
  | [], [], h => by simp at h
  | x :: xs, y :: ys, h => by
    simp only [Ty.sames, Ty.sames_len (xs := xs) (ys := ys) (by simpa using h), Bool.and_false]
  | [], _ :: _, _ => rfl
  | _ :: _, [], _ => rfl
theorem Ty.sames_drop {xs ys : List Ty} {j : Nat} (h1 : j < xs.length) (h2 : j < ys.length) : Ty.sames (xs.drop j) (ys.drop j) = (xs[j].same ys[j] && Ty.sames (xs.drop (j + 1)) (ys.drop (j + 1))) := by
  rw [List.drop_eq_getElem_cons h1, List.drop_eq_getElem_cons h2, Ty.sames]

def SpecSameT (x : Ty) : Prop := ∀ (y : Ty) (w : World) (cs cs' : List Value), y.ok → Rd w x.enc cs → Rd w y.enc cs' →
  Calls Try.prog 43 #[.agg cs.toArray, .agg cs'.toArray] w fun e w' => e = .returned (.bool (x.same y)) ∧ Below w.heap.size w w'

set_option maxRecDepth 100000 in
theorem SpecSameT_of (k d : Int) (n : ByteArray) (ks : List Ty) (hn : ks.length ≤ 140737488351232) (ih : ∀ x ∈ ks, SpecSameT x) : SpecSameT (.mk k d n ks) := by
  rintro ⟨k', d', n', ks'⟩ w cs cs' hok h h'
  obtain ⟨A, c, rfl, _, _, h4⟩ := Ty.open_ h
  obtain ⟨A', c', rfl, _, _, h4'⟩ := Ty.open_ h'
  simp only [Ty.ok] at hok
  have hn' := hok.2.2.2.1
  have OKS := Lib.hid (Ty.oks_mem hok.2.2.2.2)
  have IH := Lib.hid ih
  have B2 := Lib.hid (((Below.refl w.heap.size w).alloc (Nat.le_refl _) (.cells #[.int .i64 k, .int .i64 d, .string n, .slice A ks.length c] 78)).alloc (by simp) (.cells #[.int .i64 k', .int .i64 d', .string n', .slice A' ks'.length c'] 78))
  have H4 := Lib.hid (RdRow.below h4 (by omega) B2.out)
  have H4' := Lib.hid (RdRow.below h4' (by omega) B2.out)
  have hbo := Lib.hid (blk_old (blk_new w (.cells #[.int .i64 k, .int .i64 d, .string n, .slice A ks.length c] 78)) (.cells #[.int .i64 k', .int .i64 d', .string n', .slice A' ks'.length c'] 78))
  have hbr := Lib.hid (blk_new (w.alloc (.cells #[.int .i64 k, .int .i64 d, .string n, .slice A ks.length c] 78)) (.cells #[.int .i64 k', .int .i64 d', .string n', .slice A' ks'.length c'] 78))
  have hsW : (((w.alloc (.cells #[.int .i64 k, .int .i64 d, .string n, .slice A ks.length c] 78)).alloc (.cells #[.int .i64 k', .int .i64 d', .string n', .slice A' ks'.length c'] 78))).heap.size = w.heap.size + 2 := by simp
  have HSW := Lib.hid hsW
  clear ih h h4 h' h4' hok hsW
  by_cases hd : d = d'
  rotate_left
  · have hf : (Ty.mk k d n ks).same (.mk k' d' n' ks') = false := by simp [Ty.same, hd]
    have HF := Lib.hid hf
    have t2 : (d != d') = true := by rw [bne_iff_ne]; exact hd
    clear hf hd
    cases t1 : (k != k')
    · go_enter Try.func43, Try.ntmps43
      go_wp2_with fail
      go_ret
      exact ⟨by rw [HF.out]; rfl, B2.out⟩
    · go_enter Try.func43, Try.ntmps43
      go_wp2_with fail
      go_ret
      exact ⟨by rw [HF.out]; rfl, B2.out⟩
  have u0' : (d != d') = false := by rw [bne_eq_false_iff_eq]; exact hd
  have HD := Lib.hid hd
  clear hd
  by_cases hk : k = k'
  · have u1 : (k != k') = false := by rw [bne_eq_false_iff_eq]; exact hk
    have HK := Lib.hid hk
    clear hk
    by_cases hnn : n.toList = n'.toList
    · have u2 : (n.toList != n'.toList) = false := by rw [bne_eq_false_iff_eq]; exact hnn
      have HNN := Lib.hid hnn
      clear hnn
      by_cases hl : ks.length = ks'.length
      · have u3 : ((ks.length : Int) != (ks'.length : Int)) = false := by rw [bne_eq_false_iff_eq]; omega
        have HL := Lib.hid hl
        have hf : (Ty.mk k d n ks).same (.mk k' d' n' ks') = Ty.sames ks ks' := by simp [Ty.same, HK.out, HD.out, HNN.out]
        have HF := Lib.hid hf
        clear hl hf
        go_enter Try.func43, Try.ntmps43
        go_wp2_with fail
        generalize hW : ((w.alloc (.cells #[.int .i64 k, .int .i64 d, .string n, .slice A ks.length c] 78)).alloc (.cells #[.int .i64 k', .int .i64 d', .string n', .slice A' ks'.length c'] 78)) = W at *
        clear hW
        go_loopw [5] (fun i wr => ∃ j : Nat, j ≤ ks.length ∧ i = .int .i64 j ∧ Below W.heap.size W wr ∧ Hid (Ty.sames ks ks' = Ty.sames (ks.drop j) (ks'.drop j))) (fun i _ => ks.length - (intOf i).toNat)
        case atStart => exact ⟨0, Nat.zero_le _, rfl, Below.refl _ _, rfl⟩
        case round =>
          obtain ⟨j, hj, rfl, hb, hsm⟩ := hrel
          have c2 := blk_cell (blk_below hbo.out hb) 3
          have d2 := blk_cell (blk_below hbr.out hb) 3
          simp at c2 d2
          by_cases hlt : j < ks.length
          · have hlt' : j < ks'.length := by have := HL.out; omega
            obtain ⟨b, off, es, rfl, hcl, hrd, hc⟩ := (RdRow.below H4.out (by omega) hb).get (i := j) (x := ks[j].enc) (by simp [Ty.encs_map, List.getElem?_eq_getElem hlt])
            obtain ⟨b', off', es', rfl, hcl', hrd', hc'⟩ := (RdRow.below H4'.out (by omega) hb).get (i := j) (x := ks'[j].enc) (by simp [Ty.encs_map, List.getElem?_eq_getElem hlt'])
            obtain ⟨u0, u1, u2, u3', rfl⟩ := cells4 hcl
            obtain ⟨v0, v1, v2, v3, rfl⟩ := cells4 hcl'
            have e0 : wr.cell? ⟨b, off + j * 4, none⟩ = some u0 := hc 0 _ rfl
            have e1 : wr.cell? ⟨b, off + j * 4 + 1, none⟩ = some u1 := hc 1 _ rfl
            have e2 : wr.cell? ⟨b, off + j * 4 + 2, none⟩ = some u2 := hc 2 _ rfl
            have e3 : wr.cell? ⟨b, off + j * 4 + 3, none⟩ = some u3' := hc 3 _ rfl
            have f0 : wr.cell? ⟨b', off' + j * 4, none⟩ = some v0 := hc' 0 _ rfl
            have f1 : wr.cell? ⟨b', off' + j * 4 + 1, none⟩ = some v1 := hc' 1 _ rfl
            have f2 : wr.cell? ⟨b', off' + j * 4 + 2, none⟩ = some v2 := hc' 2 _ rfl
            have f3 : wr.cell? ⟨b', off' + j * 4 + 3, none⟩ = some v3 := hc' 3 _ rfl
            have CAL := Lib.hid (IH.out _ (List.getElem_mem hlt) ks'[j] wr.drew _ _ (OKS.out _ (List.getElem_mem hlt')) (hrd.below (Below.refl _ _).drew) (hrd'.below (Below.refl _ _).drew))
            have HB := Lib.hid hb
            have SM := Lib.hid (hsm.out.trans (Ty.sames_drop hlt hlt'))
            clear hrd hcl hc hb hrd' hcl' hc' hsm
            generalize ks[j].same ks'[j] = q at *
            cases q with
            | true =>
              go_wp2_with fail
              go_still_tail 10, (by kernel_rfl)
              go_wp2_with fail
              refine CAL.out.mono ?_
              rintro e w1 ⟨rfl, hb1⟩
              have HB1 := Lib.hid (HB.out.drew.trans (hb1.mono HB.out.size))
              clear hb1 CAL
              go_wp2
              go_roundw
              case rel => exact ⟨j + 1, by omega, by go_num, HB1.out, Lib.hid (by simpa using SM.out)⟩
              case measure => simp [intOf]; omega
            | false =>
              go_wp2_with fail
              go_still_tail 10, (by kernel_rfl)
              go_wp2_with fail
              refine CAL.out.mono ?_
              rintro e w1 ⟨rfl, hb1⟩
              have HB1 := Lib.hid (HB.out.drew.trans (hb1.mono HB.out.size))
              clear hb1 CAL
              go_wp2
              go_ret
              exact ⟨by rw [HF.out, SM.out]; rfl, B2.out.trans (HB1.out.mono (by rw [HSW.out]; omega))⟩
          · obtain rfl : j = ks.length := by omega
            have HB := Lib.hid (B2.out.trans (hb.mono (by rw [HSW.out]; omega)))
            have SM := Lib.hid hsm
            clear hb hsm
            go_wp2
            go_ret
            refine ⟨?_, HB.out⟩
            have h1 := SM.out.out
            rw [List.drop_length, HL.out, List.drop_length] at h1
            rw [HF.out, h1]
            rfl
      · have hf : (Ty.mk k d n ks).same (.mk k' d' n' ks') = false := by simp [Ty.same, Ty.sames_len hl]
        have HF := Lib.hid hf
        have t1 : ((ks.length : Int) != (ks'.length : Int)) = true := by rw [bne_iff_ne]; omega
        clear hf hl
        go_enter Try.func43, Try.ntmps43
        go_wp2_with fail
        go_ret
        exact ⟨by rw [HF.out]; rfl, B2.out⟩
    · have hf : (Ty.mk k d n ks).same (.mk k' d' n' ks') = false := by simp [Ty.same, hnn]
      have HF := Lib.hid hf
      have t1 : (n.toList != n'.toList) = true := by rw [bne_iff_ne]; exact hnn
      clear hf
      go_enter Try.func43, Try.ntmps43
      go_wp2_with fail
      go_ret
      exact ⟨by rw [HF.out]; rfl, B2.out⟩
  · have hf : (Ty.mk k d n ks).same (.mk k' d' n' ks') = false := by simp [Ty.same, hk]
    have HF := Lib.hid hf
    have t1 : (k != k') = true := by rw [bne_iff_ne]; exact hk
    clear hf hk
    go_enter Try.func43, Try.ntmps43
    go_wp2_with fail
    go_ret
    exact ⟨by rw [HF.out]; rfl, B2.out⟩

theorem SpecSameT_all : ∀ (x : Ty), x.ok → SpecSameT x :=
  Ty.induct fun k d n ks ih h => by
    simp only [Ty.ok] at h
    exact SpecSameT_of k d n ks h.2.2.2.1 fun x hx => ih x hx (Ty.oks_mem h.2.2.2.2 x hx)

def ImplSameT (x : Ty) : Prop := ∀ (y : Ty) (w : World) (cs cs' : List Value), y.ok → Rd w x.enc cs → Rd w y.enc cs' →
  Calls Try.prog 45 #[.agg cs.toArray, .agg cs'.toArray] w fun e w' => e = .returned (.bool (x.same y)) ∧ Below w.heap.size w w'

set_option maxRecDepth 100000 in
theorem ImplSameT_of (k d : Int) (n : ByteArray) (ks : List Ty) (hn : ks.length ≤ 140737488351232) (ih : ∀ x ∈ ks, ImplSameT x) : ImplSameT (.mk k d n ks) := by
  rintro ⟨k', d', n', ks'⟩ w cs cs' hok h h'
  obtain ⟨A, c, rfl, _, _, h4⟩ := Ty.open_ h
  obtain ⟨A', c', rfl, _, _, h4'⟩ := Ty.open_ h'
  simp only [Ty.ok] at hok
  have hn' := hok.2.2.2.1
  have OKS := Lib.hid (Ty.oks_mem hok.2.2.2.2)
  have IH := Lib.hid ih
  have B2 := Lib.hid (((Below.refl w.heap.size w).alloc (Nat.le_refl _) (.cells #[.int .i64 k, .int .i64 d, .string n, .slice A ks.length c] 78)).alloc (by simp) (.cells #[.int .i64 k', .int .i64 d', .string n', .slice A' ks'.length c'] 78))
  have H4 := Lib.hid (RdRow.below h4 (by omega) B2.out)
  have H4' := Lib.hid (RdRow.below h4' (by omega) B2.out)
  have hbo := Lib.hid (blk_old (blk_new w (.cells #[.int .i64 k, .int .i64 d, .string n, .slice A ks.length c] 78)) (.cells #[.int .i64 k', .int .i64 d', .string n', .slice A' ks'.length c'] 78))
  have hbr := Lib.hid (blk_new (w.alloc (.cells #[.int .i64 k, .int .i64 d, .string n, .slice A ks.length c] 78)) (.cells #[.int .i64 k', .int .i64 d', .string n', .slice A' ks'.length c'] 78))
  have hsW : (((w.alloc (.cells #[.int .i64 k, .int .i64 d, .string n, .slice A ks.length c] 78)).alloc (.cells #[.int .i64 k', .int .i64 d', .string n', .slice A' ks'.length c'] 78))).heap.size = w.heap.size + 2 := by simp
  have HSW := Lib.hid hsW
  clear ih h h4 h' h4' hok hsW
  by_cases hd : d = d'
  rotate_left
  · have hf : (Ty.mk k d n ks).same (.mk k' d' n' ks') = false := by simp [Ty.same, hd]
    have HF := Lib.hid hf
    have t2 : (d != d') = true := by rw [bne_iff_ne]; exact hd
    clear hf hd
    cases t1 : (k != k')
    · go_enter Try.func45, Try.ntmps45
      go_wp2_with fail
      go_ret
      exact ⟨by rw [HF.out]; rfl, B2.out⟩
    · go_enter Try.func45, Try.ntmps45
      go_wp2_with fail
      go_ret
      exact ⟨by rw [HF.out]; rfl, B2.out⟩
  have u0' : (d != d') = false := by rw [bne_eq_false_iff_eq]; exact hd
  have HD := Lib.hid hd
  clear hd
  by_cases hk : k = k'
  · have u1 : (k != k') = false := by rw [bne_eq_false_iff_eq]; exact hk
    have HK := Lib.hid hk
    clear hk
    by_cases hnn : n.toList = n'.toList
    · have u2 : (n.toList != n'.toList) = false := by rw [bne_eq_false_iff_eq]; exact hnn
      have HNN := Lib.hid hnn
      clear hnn
      by_cases hl : ks.length = ks'.length
      · have u3 : ((ks.length : Int) != (ks'.length : Int)) = false := by rw [bne_eq_false_iff_eq]; omega
        have HL := Lib.hid hl
        have hf : (Ty.mk k d n ks).same (.mk k' d' n' ks') = Ty.sames ks ks' := by simp [Ty.same, HK.out, HD.out, HNN.out]
        have HF := Lib.hid hf
        clear hl hf
        go_enter Try.func45, Try.ntmps45
        go_wp2_with fail
        generalize hW : ((w.alloc (.cells #[.int .i64 k, .int .i64 d, .string n, .slice A ks.length c] 78)).alloc (.cells #[.int .i64 k', .int .i64 d', .string n', .slice A' ks'.length c'] 78)) = W at *
        clear hW
        go_loopw [37] (fun i wr => ∃ j : Nat, j ≤ ks.length ∧ i = .int .i64 j ∧ Below W.heap.size W wr ∧ Hid (Ty.sames ks ks' = Ty.sames (ks.drop j) (ks'.drop j))) (fun i _ => ks.length - (intOf i).toNat)
        case atStart => exact ⟨0, Nat.zero_le _, rfl, Below.refl _ _, rfl⟩
        case round =>
          obtain ⟨j, hj, rfl, hb, hsm⟩ := hrel
          have c2 := blk_cell (blk_below hbo.out hb) 3
          have d2 := blk_cell (blk_below hbr.out hb) 3
          simp at c2 d2
          by_cases hlt : j < ks.length
          · have hlt' : j < ks'.length := by have := HL.out; omega
            obtain ⟨b, off, es, rfl, hcl, hrd, hc⟩ := (RdRow.below H4.out (by omega) hb).get (i := j) (x := ks[j].enc) (by simp [Ty.encs_map, List.getElem?_eq_getElem hlt])
            obtain ⟨b', off', es', rfl, hcl', hrd', hc'⟩ := (RdRow.below H4'.out (by omega) hb).get (i := j) (x := ks'[j].enc) (by simp [Ty.encs_map, List.getElem?_eq_getElem hlt'])
            obtain ⟨u0, u1, u2, u3', rfl⟩ := cells4 hcl
            obtain ⟨v0, v1, v2, v3, rfl⟩ := cells4 hcl'
            have e0 : wr.cell? ⟨b, off + j * 4, none⟩ = some u0 := hc 0 _ rfl
            have e1 : wr.cell? ⟨b, off + j * 4 + 1, none⟩ = some u1 := hc 1 _ rfl
            have e2 : wr.cell? ⟨b, off + j * 4 + 2, none⟩ = some u2 := hc 2 _ rfl
            have e3 : wr.cell? ⟨b, off + j * 4 + 3, none⟩ = some u3' := hc 3 _ rfl
            have f0 : wr.cell? ⟨b', off' + j * 4, none⟩ = some v0 := hc' 0 _ rfl
            have f1 : wr.cell? ⟨b', off' + j * 4 + 1, none⟩ = some v1 := hc' 1 _ rfl
            have f2 : wr.cell? ⟨b', off' + j * 4 + 2, none⟩ = some v2 := hc' 2 _ rfl
            have f3 : wr.cell? ⟨b', off' + j * 4 + 3, none⟩ = some v3 := hc' 3 _ rfl
            have CAL := Lib.hid (IH.out _ (List.getElem_mem hlt) ks'[j] wr.drew _ _ (OKS.out _ (List.getElem_mem hlt')) (hrd.below (Below.refl _ _).drew) (hrd'.below (Below.refl _ _).drew))
            have HB := Lib.hid hb
            have SM := Lib.hid (hsm.out.trans (Ty.sames_drop hlt hlt'))
            clear hrd hcl hc hb hrd' hcl' hc' hsm
            generalize ks[j].same ks'[j] = q at *
            cases q with
            | true =>
              go_wp2_with fail
              go_still_tail 10, (by kernel_rfl)
              go_wp2_with fail
              refine CAL.out.mono ?_
              rintro e w1 ⟨rfl, hb1⟩
              have HB1 := Lib.hid (HB.out.drew.trans (hb1.mono HB.out.size))
              clear hb1 CAL
              go_wp2
              go_roundw
              case rel => exact ⟨j + 1, by omega, by go_num, HB1.out, Lib.hid (by simpa using SM.out)⟩
              case measure => simp [intOf]; omega
            | false =>
              go_wp2_with fail
              go_still_tail 10, (by kernel_rfl)
              go_wp2_with fail
              refine CAL.out.mono ?_
              rintro e w1 ⟨rfl, hb1⟩
              have HB1 := Lib.hid (HB.out.drew.trans (hb1.mono HB.out.size))
              clear hb1 CAL
              go_wp2
              go_ret
              exact ⟨by rw [HF.out, SM.out]; rfl, B2.out.trans (HB1.out.mono (by rw [HSW.out]; omega))⟩
          · obtain rfl : j = ks.length := by omega
            have HB := Lib.hid (B2.out.trans (hb.mono (by rw [HSW.out]; omega)))
            have SM := Lib.hid hsm
            clear hb hsm
            go_wp2
            go_ret
            refine ⟨?_, HB.out⟩
            have h1 := SM.out.out
            rw [List.drop_length, HL.out, List.drop_length] at h1
            rw [HF.out, h1]
            rfl
      · have hf : (Ty.mk k d n ks).same (.mk k' d' n' ks') = false := by simp [Ty.same, Ty.sames_len hl]
        have HF := Lib.hid hf
        have t1 : ((ks.length : Int) != (ks'.length : Int)) = true := by rw [bne_iff_ne]; omega
        clear hf hl
        go_enter Try.func45, Try.ntmps45
        go_wp2_with fail
        go_ret
        exact ⟨by rw [HF.out]; rfl, B2.out⟩
    · have hf : (Ty.mk k d n ks).same (.mk k' d' n' ks') = false := by simp [Ty.same, hnn]
      have HF := Lib.hid hf
      have t1 : (n.toList != n'.toList) = true := by rw [bne_iff_ne]; exact hnn
      clear hf
      go_enter Try.func45, Try.ntmps45
      go_wp2_with fail
      go_ret
      exact ⟨by rw [HF.out]; rfl, B2.out⟩
  · have hf : (Ty.mk k d n ks).same (.mk k' d' n' ks') = false := by simp [Ty.same, hk]
    have HF := Lib.hid hf
    have t1 : (k != k') = true := by rw [bne_iff_ne]; exact hk
    clear hf hk
    go_enter Try.func45, Try.ntmps45
    go_wp2_with fail
    go_ret
    exact ⟨by rw [HF.out]; rfl, B2.out⟩

theorem ImplSameT_all : ∀ (x : Ty), x.ok → ImplSameT x :=
  Ty.induct fun k d n ks ih h => by
    simp only [Ty.ok] at h
    exact ImplSameT_of k d n ks h.2.2.2.1 fun x hx => ih x hx (Ty.oks_mem h.2.2.2.2 x hx)

end Go.Proofs.Ytgogfloppnhceaa
