/- Trees: both 'SameNode' tell whether two trees are the same; no condition. -/
import Derived.Test.YtgogfloppnhceaaNd2
namespace Go.Proofs.Ytgogfloppnhceaa
open Go.RowKit
set_option linter.unusedVariables false
set_option linter.unusedSimpArgs false

mutual
def Nd.same : Nd → Nd → Bool
  | .mk k n ks, .mk k' n' ks' => (k == k') && ((n.toList == n'.toList) && Nd.sames ks ks')
def Nd.sames : List Nd → List Nd → Bool
  | [], [] => true
  | x :: xs, y :: ys => x.same y && Nd.sames xs ys
  | [], _ :: _ => false
  | _ :: _, [] => false
end
theorem Nd.sames_len : ∀ {xs ys : List Nd}, xs.length ≠ ys.length → Nd.sames xs ys = false
  | [], [], h => by simp at h
  | x :: xs, y :: ys, h => by
    simp only [Nd.sames, Nd.sames_len (xs := xs) (ys := ys) (by simpa using h), Bool.and_false]
  | [], _ :: _, _ => rfl
  | _ :: _, [], _ => rfl
theorem Nd.sames_drop {xs ys : List Nd} {j : Nat} (h1 : j < xs.length) (h2 : j < ys.length) : Nd.sames (xs.drop j) (ys.drop j) = (xs[j].same ys[j] && Nd.sames (xs.drop (j + 1)) (ys.drop (j + 1))) := by
  rw [List.drop_eq_getElem_cons h1, List.drop_eq_getElem_cons h2, Nd.sames]

def SpecSame (x : Nd) : Prop := ∀ (y : Nd) (w : World) (cs cs' : List Value), y.ok → Rd w x.enc cs → Rd w y.enc cs' →
  Calls Try.prog 38 #[.agg cs.toArray, .agg cs'.toArray] w fun e w' => e = .returned (.bool (x.same y)) ∧ Below w.heap.size w w'

set_option maxRecDepth 100000 in
theorem SpecSame_of (k : Int) (n : ByteArray) (ks : List Nd) (hn : ks.length ≤ 140737488351232) (ih : ∀ x ∈ ks, SpecSame x) : SpecSame (.mk k n ks) := by
  rintro ⟨k', n', ks'⟩ w cs cs' hok h h'
  obtain ⟨A, c, rfl, _, _, h4⟩ := Nd.open_ h
  obtain ⟨A', c', rfl, _, _, h4'⟩ := Nd.open_ h'
  simp only [Nd.ok] at hok
  have hn' := hok.2.2.1
  have OKS := Lib.hid (Nd.oks_mem hok.2.2.2)
  have IH := Lib.hid ih
  have B2 := Lib.hid (((Below.refl w.heap.size w).alloc (Nat.le_refl _) (.cells #[.int .i64 k, .string n, .slice A ks.length c] 68)).alloc (by simp) (.cells #[.int .i64 k', .string n', .slice A' ks'.length c'] 68))
  have H4 := Lib.hid (RdRow.below h4 (by omega) B2.out)
  have H4' := Lib.hid (RdRow.below h4' (by omega) B2.out)
  have hbo := Lib.hid (blk_old (blk_new w (.cells #[.int .i64 k, .string n, .slice A ks.length c] 68)) (.cells #[.int .i64 k', .string n', .slice A' ks'.length c'] 68))
  have hbr := Lib.hid (blk_new (w.alloc (.cells #[.int .i64 k, .string n, .slice A ks.length c] 68)) (.cells #[.int .i64 k', .string n', .slice A' ks'.length c'] 68))
  have hsW : (((w.alloc (.cells #[.int .i64 k, .string n, .slice A ks.length c] 68)).alloc (.cells #[.int .i64 k', .string n', .slice A' ks'.length c'] 68))).heap.size = w.heap.size + 2 := by simp
  have HSW := Lib.hid hsW
  clear ih h h4 h' h4' hok hsW
  by_cases hk : k = k'
  · have u1 : (k != k') = false := by rw [bne_eq_false_iff_eq]; exact hk
    have HK := Lib.hid hk
    clear hk
    by_cases hnn : n.toList = n'.toList
    · have u2 : (n.toList != n'.toList) = false := by rw [bne_eq_false_iff_eq]; exact hnn
      have HNN := Lib.hid hnn
      clear hnn
      by_cases hl : ks.length = ks'.length
      · have u3 : ((ks.length : Int) != (ks'.length : Int)) = false := by rw [bne_eq_false_iff_eq]; omega
        have HL := Lib.hid hl
        have hf : (Nd.mk k n ks).same (.mk k' n' ks') = Nd.sames ks ks' := by simp [Nd.same, HK.out, HNN.out]
        have HF := Lib.hid hf
        clear hl hf
        go_enter Try.func38, Try.ntmps38
        go_wp2_with fail
        generalize hW : ((w.alloc (.cells #[.int .i64 k, .string n, .slice A ks.length c] 68)).alloc (.cells #[.int .i64 k', .string n', .slice A' ks'.length c'] 68)) = W at *
        clear hW
        go_loopw [5] (fun i wr => ∃ j : Nat, j ≤ ks.length ∧ i = .int .i64 j ∧ Below W.heap.size W wr ∧ Hid (Nd.sames ks ks' = Nd.sames (ks.drop j) (ks'.drop j))) (fun i _ => ks.length - (intOf i).toNat)
        case atStart => exact ⟨0, Nat.zero_le _, rfl, Below.refl _ _, rfl⟩
        case round =>
          obtain ⟨j, hj, rfl, hb, hsm⟩ := hrel
          have c2 := blk_cell (blk_below hbo.out hb) 2
          have d2 := blk_cell (blk_below hbr.out hb) 2
          simp at c2 d2
          by_cases hlt : j < ks.length
          · have hlt' : j < ks'.length := by have := HL.out; omega
            obtain ⟨b, off, es, rfl, hcl, hrd, hc⟩ := (RdRow.below H4.out (by omega) hb).get (i := j) (x := ks[j].enc) (by simp [Nd.encs_map, List.getElem?_eq_getElem hlt])
            obtain ⟨b', off', es', rfl, hcl', hrd', hc'⟩ := (RdRow.below H4'.out (by omega) hb).get (i := j) (x := ks'[j].enc) (by simp [Nd.encs_map, List.getElem?_eq_getElem hlt'])
            obtain ⟨u0, u1, u2, rfl⟩ := cells3 hcl
            obtain ⟨v0, v1, v2, rfl⟩ := cells3 hcl'
            have e0 : wr.cell? ⟨b, off + j * 3, none⟩ = some u0 := hc 0 _ rfl
            have e1 : wr.cell? ⟨b, off + j * 3 + 1, none⟩ = some u1 := hc 1 _ rfl
            have e2 : wr.cell? ⟨b, off + j * 3 + 2, none⟩ = some u2 := hc 2 _ rfl
            have f0 : wr.cell? ⟨b', off' + j * 3, none⟩ = some v0 := hc' 0 _ rfl
            have f1 : wr.cell? ⟨b', off' + j * 3 + 1, none⟩ = some v1 := hc' 1 _ rfl
            have f2 : wr.cell? ⟨b', off' + j * 3 + 2, none⟩ = some v2 := hc' 2 _ rfl
            have CAL := Lib.hid (IH.out _ (List.getElem_mem hlt) ks'[j] wr.drew _ _ (OKS.out _ (List.getElem_mem hlt')) (hrd.below (Below.refl _ _).drew) (hrd'.below (Below.refl _ _).drew))
            have HB := Lib.hid hb
            have SM := Lib.hid (hsm.out.trans (Nd.sames_drop hlt hlt'))
            clear hrd hcl hc hb hrd' hcl' hc' hsm
            generalize ks[j].same ks'[j] = q at *
            cases q with
            | true =>
              go_wp2_with fail
              go_still_tail 10, (by kernel_rfl)
              go_wp2_with fail
              refine CAL.out.mono ?_
              rintro e w1 ⟨rfl, hb1⟩
              have HB1 := Lib.hid (HB.out.drew.trans (hb1.mono HB.out.size))
              clear hb1 CAL
              go_wp2
              go_roundw
              case rel => exact ⟨j + 1, by omega, by go_num, HB1.out, Lib.hid (by simpa using SM.out)⟩
              case measure => simp [intOf]; omega
            | false =>
              go_wp2_with fail
              go_still_tail 10, (by kernel_rfl)
              go_wp2_with fail
              refine CAL.out.mono ?_
              rintro e w1 ⟨rfl, hb1⟩
              have HB1 := Lib.hid (HB.out.drew.trans (hb1.mono HB.out.size))
              clear hb1 CAL
              go_wp2
              go_ret
              exact ⟨by rw [HF.out, SM.out]; rfl, B2.out.trans (HB1.out.mono (by rw [HSW.out]; omega))⟩
          · obtain rfl : j = ks.length := by omega
            have HB := Lib.hid (B2.out.trans (hb.mono (by rw [HSW.out]; omega)))
            have SM := Lib.hid hsm
            clear hb hsm
            go_wp2
            go_ret
            refine ⟨?_, HB.out⟩
            have h1 := SM.out.out
            rw [List.drop_length, HL.out, List.drop_length] at h1
            rw [HF.out, h1]
            rfl
      · have hf : (Nd.mk k n ks).same (.mk k' n' ks') = false := by simp [Nd.same, Nd.sames_len hl]
        have HF := Lib.hid hf
        have t1 : ((ks.length : Int) != (ks'.length : Int)) = true := by rw [bne_iff_ne]; omega
        clear hf hl
        go_enter Try.func38, Try.ntmps38
        go_wp2_with fail
        go_ret
        exact ⟨by rw [HF.out]; rfl, B2.out⟩
    · have hf : (Nd.mk k n ks).same (.mk k' n' ks') = false := by simp [Nd.same, hnn]
      have HF := Lib.hid hf
      have t1 : (n.toList != n'.toList) = true := by rw [bne_iff_ne]; exact hnn
      clear hf
      go_enter Try.func38, Try.ntmps38
      go_wp2_with fail
      go_ret
      exact ⟨by rw [HF.out]; rfl, B2.out⟩
  · have hf : (Nd.mk k n ks).same (.mk k' n' ks') = false := by simp [Nd.same, hk]
    have HF := Lib.hid hf
    have t1 : (k != k') = true := by rw [bne_iff_ne]; exact hk
    clear hf hk
    go_enter Try.func38, Try.ntmps38
    go_wp2_with fail
    go_ret
    exact ⟨by rw [HF.out]; rfl, B2.out⟩

theorem SpecSame_all : ∀ (x : Nd), x.ok → SpecSame x :=
  Nd.induct fun k n ks ih h => by
    simp only [Nd.ok] at h
    exact SpecSame_of k n ks h.2.2.1 fun x hx => ih x hx (Nd.oks_mem h.2.2.2 x hx)

def ImplSame (x : Nd) : Prop := ∀ (y : Nd) (w : World) (cs cs' : List Value), y.ok → Rd w x.enc cs → Rd w y.enc cs' →
  Calls Try.prog 40 #[.agg cs.toArray, .agg cs'.toArray] w fun e w' => e = .returned (.bool (x.same y)) ∧ Below w.heap.size w w'

set_option maxRecDepth 100000 in
theorem ImplSame_of (k : Int) (n : ByteArray) (ks : List Nd) (hn : ks.length ≤ 140737488351232) (ih : ∀ x ∈ ks, ImplSame x) : ImplSame (.mk k n ks) := by
  rintro ⟨k', n', ks'⟩ w cs cs' hok h h'
  obtain ⟨A, c, rfl, _, _, h4⟩ := Nd.open_ h
  obtain ⟨A', c', rfl, _, _, h4'⟩ := Nd.open_ h'
  simp only [Nd.ok] at hok
  have hn' := hok.2.2.1
  have OKS := Lib.hid (Nd.oks_mem hok.2.2.2)
  have IH := Lib.hid ih
  have B2 := Lib.hid (((Below.refl w.heap.size w).alloc (Nat.le_refl _) (.cells #[.int .i64 k, .string n, .slice A ks.length c] 68)).alloc (by simp) (.cells #[.int .i64 k', .string n', .slice A' ks'.length c'] 68))
  have H4 := Lib.hid (RdRow.below h4 (by omega) B2.out)
  have H4' := Lib.hid (RdRow.below h4' (by omega) B2.out)
  have hbo := Lib.hid (blk_old (blk_new w (.cells #[.int .i64 k, .string n, .slice A ks.length c] 68)) (.cells #[.int .i64 k', .string n', .slice A' ks'.length c'] 68))
  have hbr := Lib.hid (blk_new (w.alloc (.cells #[.int .i64 k, .string n, .slice A ks.length c] 68)) (.cells #[.int .i64 k', .string n', .slice A' ks'.length c'] 68))
  have hsW : (((w.alloc (.cells #[.int .i64 k, .string n, .slice A ks.length c] 68)).alloc (.cells #[.int .i64 k', .string n', .slice A' ks'.length c'] 68))).heap.size = w.heap.size + 2 := by simp
  have HSW := Lib.hid hsW
  clear ih h h4 h' h4' hok hsW
  by_cases hk : k = k'
  · have u1 : (k != k') = false := by rw [bne_eq_false_iff_eq]; exact hk
    have HK := Lib.hid hk
    clear hk
    by_cases hnn : n.toList = n'.toList
    · have u2 : (n.toList != n'.toList) = false := by rw [bne_eq_false_iff_eq]; exact hnn
      have HNN := Lib.hid hnn
      clear hnn
      by_cases hl : ks.length = ks'.length
      · have u3 : ((ks.length : Int) != (ks'.length : Int)) = false := by rw [bne_eq_false_iff_eq]; omega
        have HL := Lib.hid hl
        have hf : (Nd.mk k n ks).same (.mk k' n' ks') = Nd.sames ks ks' := by simp [Nd.same, HK.out, HNN.out]
        have HF := Lib.hid hf
        clear hl hf
        go_enter Try.func40, Try.ntmps40
        go_wp2_with fail
        generalize hW : ((w.alloc (.cells #[.int .i64 k, .string n, .slice A ks.length c] 68)).alloc (.cells #[.int .i64 k', .string n', .slice A' ks'.length c'] 68)) = W at *
        clear hW
        go_loopw [30] (fun i wr => ∃ j : Nat, j ≤ ks.length ∧ i = .int .i64 j ∧ Below W.heap.size W wr ∧ Hid (Nd.sames ks ks' = Nd.sames (ks.drop j) (ks'.drop j))) (fun i _ => ks.length - (intOf i).toNat)
        case atStart => exact ⟨0, Nat.zero_le _, rfl, Below.refl _ _, rfl⟩
        case round =>
          obtain ⟨j, hj, rfl, hb, hsm⟩ := hrel
          have c2 := blk_cell (blk_below hbo.out hb) 2
          have d2 := blk_cell (blk_below hbr.out hb) 2
          simp at c2 d2
          by_cases hlt : j < ks.length
          · have hlt' : j < ks'.length := by have := HL.out; omega
            obtain ⟨b, off, es, rfl, hcl, hrd, hc⟩ := (RdRow.below H4.out (by omega) hb).get (i := j) (x := ks[j].enc) (by simp [Nd.encs_map, List.getElem?_eq_getElem hlt])
            obtain ⟨b', off', es', rfl, hcl', hrd', hc'⟩ := (RdRow.below H4'.out (by omega) hb).get (i := j) (x := ks'[j].enc) (by simp [Nd.encs_map, List.getElem?_eq_getElem hlt'])
            obtain ⟨u0, u1, u2, rfl⟩ := cells3 hcl
            obtain ⟨v0, v1, v2, rfl⟩ := cells3 hcl'
            have e0 : wr.cell? ⟨b, off + j * 3, none⟩ = some u0 := hc 0 _ rfl
            have e1 : wr.cell? ⟨b, off + j * 3 + 1, none⟩ = some u1 := hc 1 _ rfl
            have e2 : wr.cell? ⟨b, off + j * 3 + 2, none⟩ = some u2 := hc 2 _ rfl
            have f0 : wr.cell? ⟨b', off' + j * 3, none⟩ = some v0 := hc' 0 _ rfl
            have f1 : wr.cell? ⟨b', off' + j * 3 + 1, none⟩ = some v1 := hc' 1 _ rfl
            have f2 : wr.cell? ⟨b', off' + j * 3 + 2, none⟩ = some v2 := hc' 2 _ rfl
            have CAL := Lib.hid (IH.out _ (List.getElem_mem hlt) ks'[j] wr.drew _ _ (OKS.out _ (List.getElem_mem hlt')) (hrd.below (Below.refl _ _).drew) (hrd'.below (Below.refl _ _).drew))
            have HB := Lib.hid hb
            have SM := Lib.hid (hsm.out.trans (Nd.sames_drop hlt hlt'))
            clear hrd hcl hc hb hrd' hcl' hc' hsm
            generalize ks[j].same ks'[j] = q at *
            cases q with
            | true =>
              go_wp2_with fail
              go_still_tail 10, (by kernel_rfl)
              go_wp2_with fail
              refine CAL.out.mono ?_
              rintro e w1 ⟨rfl, hb1⟩
              have HB1 := Lib.hid (HB.out.drew.trans (hb1.mono HB.out.size))
              clear hb1 CAL
              go_wp2
              go_roundw
              case rel => exact ⟨j + 1, by omega, by go_num, HB1.out, Lib.hid (by simpa using SM.out)⟩
              case measure => simp [intOf]; omega
            | false =>
              go_wp2_with fail
              go_still_tail 10, (by kernel_rfl)
              go_wp2_with fail
              refine CAL.out.mono ?_
              rintro e w1 ⟨rfl, hb1⟩
              have HB1 := Lib.hid (HB.out.drew.trans (hb1.mono HB.out.size))
              clear hb1 CAL
              go_wp2
              go_ret
              exact ⟨by rw [HF.out, SM.out]; rfl, B2.out.trans (HB1.out.mono (by rw [HSW.out]; omega))⟩
          · obtain rfl : j = ks.length := by omega
            have HB := Lib.hid (B2.out.trans (hb.mono (by rw [HSW.out]; omega)))
            have SM := Lib.hid hsm
            clear hb hsm
            go_wp2
            go_ret
            refine ⟨?_, HB.out⟩
            have h1 := SM.out.out
            rw [List.drop_length, HL.out, List.drop_length] at h1
            rw [HF.out, h1]
            rfl
      · have hf : (Nd.mk k n ks).same (.mk k' n' ks') = false := by simp [Nd.same, Nd.sames_len hl]
        have HF := Lib.hid hf
        have t1 : ((ks.length : Int) != (ks'.length : Int)) = true := by rw [bne_iff_ne]; omega
        clear hf hl
        go_enter Try.func40, Try.ntmps40
        go_wp2_with fail
        go_ret
        exact ⟨by rw [HF.out]; rfl, B2.out⟩
    · have hf : (Nd.mk k n ks).same (.mk k' n' ks') = false := by simp [Nd.same, hnn]
      have HF := Lib.hid hf
      have t1 : (n.toList != n'.toList) = true := by rw [bne_iff_ne]; exact hnn
      clear hf
      go_enter Try.func40, Try.ntmps40
      go_wp2_with fail
      go_ret
      exact ⟨by rw [HF.out]; rfl, B2.out⟩
  · have hf : (Nd.mk k n ks).same (.mk k' n' ks') = false := by simp [Nd.same, hk]
    have HF := Lib.hid hf
    have t1 : (k != k') = true := by rw [bne_iff_ne]; exact hk
    clear hf hk
    go_enter Try.func40, Try.ntmps40
    go_wp2_with fail
    go_ret
    exact ⟨by rw [HF.out]; rfl, B2.out⟩

theorem ImplSame_all : ∀ (x : Nd), x.ok → ImplSame x :=
  Nd.induct fun k n ks ih h => by
    simp only [Nd.ok] at h
    exact ImplSame_of k n ks h.2.2.1 fun x hx => ih x hx (Nd.oks_mem h.2.2.2 x hx)

end Go.Proofs.Ytgogfloppnhceaa
