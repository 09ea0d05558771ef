/- Core terms: the reference's 'AllNames'; no condition. -/
import Derived.Test.YthidbmjdphfddaaCfIA
namespace Go.Proofs.Ythidbmjdphfddaa
open Go Go.RowKit
set_option linter.unusedVariables false
set_option linter.unusedSimpArgs false

def addN (out : List ByteArray) (s : ByteArray) : List ByteArray := if isIn out s = true then out else out ++ [s]
def adds (out ns : List ByteArray) : List ByteArray := ns.foldl addN out
theorem addN_len (out : List ByteArray) (s : ByteArray) : (addN out s).length ≤ out.length + 1 := by
  unfold addN
  split
  · omega
  · simp
theorem adds_len : ∀ (ns out : List ByteArray), (adds out ns).length ≤ out.length + ns.length
  | [], out => by simp [adds]
  | x :: ns, out => by
    have h1 := adds_len ns (addN out x)
    have h2 := addN_len out x
    simp only [adds, List.foldl_cons, List.length_cons] at h1 ⊢
    omega
theorem adds_step {ns : List ByteArray} {j : Nat} (hj : j < ns.length) (out : List ByteArray) : adds out (ns.take (j + 1)) = addN (adds out (ns.take j)) ns[j] := by
  rw [List.take_succ_eq_append_getElem hj, adds, List.foldl_append]; rfl
mutual
def Cr.alln : Cr → List ByteArray → List ByteArray
  | .mk k n _ _ ns ks qs, out => Ca.allns qs (Cr.allns ks (adds (if n.toList ≠ [] ∧ (k = 1 ∨ k = 8) then addN out n else out) ns))
def Cr.allns : List Cr → List ByteArray → List ByteArray
  | [], out => out
  | x :: xs, out => Cr.allns xs (x.alln out)
def Ca.alln : Ca → List ByteArray → List ByteArray
  | .mk _ ns b, out => b.alln (adds out ns)
def Ca.allns : List Ca → List ByteArray → List ByteArray
  | [], out => out
  | x :: xs, out => Ca.allns xs (x.alln out)
end
theorem Ca.alln_body (a : Ca) (out : List ByteArray) : a.alln out = a.body.alln (adds out a.names) := by cases a; simp only [Ca.alln, Ca.body, Ca.names]
theorem Cr.allns_take : ∀ {xs : List Cr} {j : Nat} (hj : j < xs.length) (out : List ByteArray), Cr.allns (xs.take (j + 1)) out = xs[j].alln (Cr.allns (xs.take j) out)
  | x :: xs, 0, _, out => by simp [Cr.allns]
  | x :: xs, j + 1, hj, out => by
    have := Cr.allns_take (xs := xs) (j := j) (by simpa using hj) (x.alln out)
    simpa only [List.take_succ_cons, Cr.allns, List.getElem_cons_succ] using this
theorem Ca.allns_take : ∀ {xs : List Ca} {j : Nat} (hj : j < xs.length) (out : List ByteArray), Ca.allns (xs.take (j + 1)) out = xs[j].body.alln (adds (Ca.allns (xs.take j) out) xs[j].names)
  | x :: xs, 0, _, out => by simp [Ca.allns, Ca.alln_body]
  | x :: xs, j + 1, hj, out => by
    have := Ca.allns_take (xs := xs) (j := j) (by simpa using hj) (x.alln out)
    simpa only [List.take_succ_cons, Ca.allns, List.getElem_cons_succ] using this
mutual
theorem Cr.alln_len : ∀ (x : Cr) (out : List ByteArray), (x.alln out).length ≤ out.length + x.wt
  | .mk k n m l ns ks qs, out => by
    rw [Cr.alln, Cr.wt]
    have h1 := Ca.allns_len qs (Cr.allns ks (adds (if n.toList ≠ [] ∧ (k = 1 ∨ k = 8) then addN out n else out) ns))
    have h2 := Cr.allns_len ks (adds (if n.toList ≠ [] ∧ (k = 1 ∨ k = 8) then addN out n else out) ns)
    have h3 := adds_len ns (if n.toList ≠ [] ∧ (k = 1 ∨ k = 8) then addN out n else out)
    have h4 : (if n.toList ≠ [] ∧ (k = 1 ∨ k = 8) then addN out n else out).length ≤ out.length + 1 := by
      split
      · exact addN_len out n
      · omega
    omega
theorem Cr.allns_len : ∀ (xs : List Cr) (out : List ByteArray), (Cr.allns xs out).length ≤ out.length + Cr.wts xs
  | [], out => by simp [Cr.allns, Cr.wts]
  | x :: xs, out => by
    rw [Cr.allns, Cr.wts]
    have h1 := Cr.alln_len x out
    have h2 := Cr.allns_len xs (x.alln out)
    omega
theorem Ca.alln_len : ∀ (x : Ca) (out : List ByteArray), (x.alln out).length ≤ out.length + (x.names.length + x.wt)
  | .mk c ns b, out => by
    rw [Ca.alln, Ca.wt, Ca.names]
    have h1 := Cr.alln_len b (adds out ns)
    have h2 := adds_len ns out
    omega
theorem Ca.allns_len : ∀ (xs : List Ca) (out : List ByteArray), (Ca.allns xs out).length ≤ out.length + (altN xs + Ca.wts xs)
  | [], out => by simp [Ca.allns, Ca.wts, altN]
  | x :: xs, out => by
    rw [Ca.allns, Ca.wts, altN]
    have h1 := Ca.alln_len x out
    have h2 := Ca.allns_len xs (x.alln out)
    omega
end
theorem Cr.wts_take {xs : List Cr} {j : Nat} (hj : j < xs.length) : Cr.wts (xs.take j) + xs[j].wt ≤ Cr.wts xs := by
  induction xs generalizing j with
  | nil => simp at hj
  | cons x xs ih =>
    cases j with
    | zero => simp [Cr.wts]
    | succ j =>
      have := ih (j := j) (by simpa using hj)
      simp only [List.take_succ_cons, Cr.wts, List.getElem_cons_succ]
      omega
theorem Ca.wts_take {xs : List Ca} {j : Nat} (hj : j < xs.length) : (altN (xs.take j) + Ca.wts (xs.take j)) + (xs[j].names.length + xs[j].body.wt) ≤ altN xs + Ca.wts xs := by
  induction xs generalizing j with
  | nil => simp at hj
  | cons x xs ih =>
    cases j with
    | zero => simp [Ca.wts, altN, Ca.wt_body]; omega
    | succ j =>
      have := ih (j := j) (by simpa using hj)
      simp only [List.take_succ_cons, Ca.wts, altN, List.getElem_cons_succ]
      omega

set_option maxRecDepth 100000 in
theorem specAdd (L : List ByteArray) (s : ByteArray) (hL : L.length ≤ 4000000) (W0 w : World) (v : Value) (hb : Below W0.heap.size W0 w) (hg : Grow W0.heap.size w v 9 1 (strs L)) :
    Calls Try.prog 154 #[v, .string s] w fun e w' => ∃ v', e = .returned v' ∧ Grow W0.heap.size w' v' 9 1 (strs (addN L s)) ∧ Grew w w' v v' := by
  have CT := Lib.hid (specIn L s (by omega) w v hg.fr.rd)
  have HG := Lib.hid hg
  have HB := Lib.hid hb
  have HL := Lib.hid hL
  clear hg hb hL
  cases hi : isIn L s
  · have hR : addN L s = L ++ [s] := by rw [addN, if_neg (by rw [hi]; decide)]
    rw [hR]
    rw [hi] at CT
    clear hR hi
    obtain ⟨i0', hi, hz0, hz1, hz2⟩ := info_parts infoStr
    have ALB := Lib.hid (below_alloc1 w (.cells #[.string s] 9))
    have CA : Hid (CellsAt (w.alloc (.cells #[.string s] 9)) w.heap.size 0 [.string s]) := cellsAt_new w [.string s] 9
    obtain ⟨vv, hvv⟩ : ∃ vv, vv = v := ⟨_, rfl⟩
    go_enter Try.func154, Try.ntmps154
    go_wp2_with fail
    refine CT.out.mono ?_
    rintro e w1 ⟨rfl, rfl⟩
    go_wp2_with (at_builtin; refine wpl_push rfl _ _ 25 rfl W0.heap.size 9 i0' (.string ⟨#[]⟩) 1 16 Try.underlying25 hi hz0 hz1 hz2 rfl (by decide) _ (strs L) rfl HG.out ALB.out (.str s) [.string s] (fr_str _ _ _) rfl w1.heap.size 1 rfl CA.out (by rw [strs_length]; have := HL.out; omega) (by rw [strs_length]; have := HL.out; omega) HB.out.size ?_; intro v' w2 hg' hgr' _)
    have HG2 := Lib.hid hg'
    have GR2 := Lib.hid hgr'
    clear hg' hgr'
    go_wp2
    go_ret
    exact ⟨_, rfl, by rw [strs_snoc]; exact HG2.out, (Grew.of_below ALB.out _).trans GR2.out⟩
  · have hR : addN L s = L := by rw [addN, if_pos hi]
    rw [hR]
    rw [hi] at CT
    clear hR hi
    go_enter Try.func154, Try.ntmps154
    go_wp2_with fail
    refine CT.out.mono ?_
    rintro e w1 ⟨rfl, rfl⟩
    go_wp2
    go_ret
    exact ⟨_, rfl, HG.out, Grew.refl _ _⟩

def SpecAll (x : Cr) : Prop := ∀ (W0 w : World) (cs : List Value) (v : Value) (L : List ByteArray), Rd W0 x.enc cs → Below W0.heap.size W0 w → Grow W0.heap.size w v 9 1 (strs L) → L.length + x.wt ≤ 3000000 →
  Calls Try.prog 118 #[.agg cs.toArray, v] w fun e w' => ∃ v', e = .returned v' ∧ Grow W0.heap.size w' v' 9 1 (strs (x.alln L)) ∧ Grew w w' v v'
set_option maxRecDepth 100000 in
set_option maxHeartbeats 2000000 in
theorem SpecAll_of (k : Int) (n : ByteArray) (m : Bool) (l : List Int) (ns : List ByteArray) (ks : List Cr) (qs : List Ca) (hnn : ns.length ≤ 140737488351232) (hkn : ks.length ≤ 140737488351232) (hqn : qs.length ≤ 140737488351232) (hqm : ∀ a ∈ qs, a.names.length ≤ 140737488351232) (ih : ∀ x ∈ ks, SpecAll x) (ia : ∀ a ∈ qs, SpecAll a.body) : SpecAll (.mk k n m l ns ks qs) := by
  intro W0 w cs v L h hb hg hl
  rw [Cr.wt] at hl
  rw [Cr.alln]
  obtain ⟨AL, cL, AN, cN, AK, cK, AA, cA, rfl, _, rN, rK, rA, _, _, _, _⟩ := Cr.open_ h
  have hal := below_alloc1 w (.cells #[.int .i64 k, .string n, .bool m, .slice AL l.length cL, .slice AN ns.length cN, .slice AK ks.length cK, .slice AA qs.length cA] 36)
  have HG := Lib.hid (hg.below hal)
  have NE := Lib.hid hg.new_ne
  have HB := Lib.hid (hb.trans (hal.mono hb.size))
  have BX := Lib.hid (blk_new w (.cells #[.int .i64 k, .string n, .bool m, .slice AL l.length cL, .slice AN ns.length cN, .slice AK ks.length cK, .slice AA qs.length cA] 36))
  have GR := Lib.hid (Grew.of_below hal v)
  have IH := Lib.hid ih
  have IA := Lib.hid ia
  have RN := Lib.hid rN
  have RK := Lib.hid rK
  have RA := Lib.hid rA
  have HL := Lib.hid hl
  have HQM := Lib.hid hqm
  have z0 : World.cell? (w.alloc (.cells #[.int .i64 k, .string n, .bool m, .slice AL l.length cL, .slice AN ns.length cN, .slice AK ks.length cK, .slice AA qs.length cA] 36)) ⟨w.heap.size, 0, none⟩ = some (.int .i64 k) := (blk_cell BX.out 0).trans rfl
  have z1 : World.cell? (w.alloc (.cells #[.int .i64 k, .string n, .bool m, .slice AL l.length cL, .slice AN ns.length cN, .slice AK ks.length cK, .slice AA qs.length cA] 36)) ⟨w.heap.size, 1, none⟩ = some (.string n) := (blk_cell BX.out 1).trans rfl
  obtain ⟨L1, hL1⟩ : ∃ L1, L1 = (if n.toList ≠ [] ∧ (k = 1 ∨ k = 8) then addN L n else L) := ⟨_, rfl⟩
  rw [← hL1]
  have HL1 := Lib.hid hL1
  obtain ⟨R, hR⟩ : ∃ R, R = Ca.allns qs (Cr.allns ks (adds L1 ns)) := ⟨_, rfl⟩
  rw [← hR]
  have HR := Lib.hid hR
  clear hR
  have LB : Hid (L1.length ≤ L.length + 1) := by
    show _ ≤ _
    rw [hL1]
    split
    · exact addN_len L n
    · omega
  have CADD := Lib.hid (fun (w' : World) (h1 : Below W0.heap.size W0 w') (h2 : Grow W0.heap.size w' v 9 1 (strs L)) => specAdd L n (by omega) W0 w' v h1 h2)
  clear h rN rK rA ih ia hal hb hg hl hL1 hqm
  cases hn : n.toList.isEmpty
  · have HN := Lib.hid (emp_f hn)
    by_cases hk1 : k = 1
    · subst hk1
      have E1 : Hid (L1 = addN L n) := by show _ = _; rw [HL1.out, if_pos ⟨HN.out, .inl rfl⟩]
      go_enter Try.func118, Try.ntmps118
      go_wp2_with fail
      generalize hW : w.alloc (.cells #[.int .i64 1, .string n, .bool m, .slice AL l.length cL, .slice AN ns.length cN, .slice AK ks.length cK, .slice AA qs.length cA] 36) = W at *
      clear hW z0 z1
      refine (CADD.out _ HB.out HG.out).mono ?_
      rintro e w1 ⟨v1, rfl, hg1, hgr1⟩
      have G1 : Hid (Grow W0.heap.size w1 v1 9 1 (strs L1) ∧ Grew W w1 v v1) := ⟨by rw [E1.out]; exact hg1, hgr1⟩
      clear hg1 hgr1 CADD
      have BW1 := Lib.hid (G1.out.2.below HB.out HB.out.size (fun g hg => (HG.out.bound g hg).1))
      have zz := (blk_cell (G1.out.2.blk BX.out NE.out) 4)
      simp at zz
      go_wp2_with fail
      clear zz
      go_loopw [1, 5] (fun q i wr => ∃ j : Nat, j ≤ ns.length ∧ i = .int .i64 j ∧ Hid (Grow W0.heap.size wr q 9 1 (strs (adds L1 (ns.take j))) ∧ Grew W wr v q)) (fun _ i _ => ns.length - (intOf i).toNat)
      case atStart => exact ⟨0, Nat.zero_le _, rfl, Lib.hid ⟨by simpa [adds] using G1.out.1, G1.out.2⟩⟩
      case round =>
        obtain ⟨j, hj, rfl, hrel⟩ := hrel
        have RL := Lib.hid hrel.out
        clear hrel G1
        have BW := Lib.hid (RL.out.2.below HB.out HB.out.size (fun g hg => (HG.out.bound g hg).1))
        have BXr := Lib.hid (RL.out.2.blk BX.out NE.out)
        have z4 : World.cell? wr ⟨w.heap.size, 4, none⟩ = some (.slice AN ns.length cN) := (blk_cell BXr.out 4).trans rfl
        by_cases hlt : j < ns.length
        · obtain ⟨b, off, rfl, e0⟩ := strs_get (RN.out.below (by omega) BW.out) hlt
          have ST := Lib.hid (adds_step hlt L1)
          have LN : Hid ((adds L1 (ns.take j)).length ≤ 4000000) := by
            have h1 := adds_len (ns.take j) L1
            have h2 := List.length_take_le j ns
            have h3 := LB.out
            have h4 := HL.out
            show _ ≤ _
            omega
          have CA := Lib.hid (specAdd (adds L1 (ns.take j)) ns[j] LN.out W0 wr _ BW.out RL.out.1)
          have i0 : (0 : Int) ≤ (j : Int) := Int.natCast_nonneg _
          have i1 : (j : Int) < (ns.length : Int) := by omega
          go_wp2_with fail
          refine CA.out.mono ?_
          rintro e w2 ⟨v2, rfl, hg2, hgr2⟩
          have G2 := Lib.hid hg2
          have R2 := Lib.hid (RL.out.2.trans hgr2)
          clear hg2 hgr2 CA
          go_wp2
          go_roundw
          case rel => exact ⟨j + 1, by omega, by go_num, Lib.hid ⟨by rw [ST.out]; exact G2.out, R2.out⟩⟩
          case measure => simp [intOf]; omega
        · obtain rfl : j = ns.length := by omega
          have h0 := RL.out
          rw [List.take_length] at h0
          obtain ⟨L2, hL2⟩ : ∃ L2, L2 = adds L1 ns := ⟨_, rfl⟩
          rw [← hL2] at h0
          have HL2 := Lib.hid hL2
          have LB2 : Hid (L2.length ≤ L.length + 1 + ns.length) := by
            have h1 := adds_len ns L1
            have h3 := LB.out
            show _ ≤ _
            rw [hL2]
            omega
          have G2 := Lib.hid h0
          have z5 : World.cell? wr ⟨w.heap.size, 5, none⟩ = some (.slice AK ks.length cK) := (blk_cell BXr.out 5).trans rfl
          clear h0 hL2 RL hj hlt
          go_wp2_with fail
          clear z4 z5 BXr BW
          go_loopw [1, 6] (fun q i wr => ∃ j : Nat, j ≤ ks.length ∧ i = .int .i64 j ∧ Hid (Grow W0.heap.size wr q 9 1 (strs (Cr.allns (ks.take j) L2)) ∧ Grew W wr v q)) (fun _ i _ => ks.length - (intOf i).toNat)
          case atStart => exact ⟨0, Nat.zero_le _, rfl, Lib.hid ⟨by simpa [Cr.allns] using G2.out.1, G2.out.2⟩⟩
          case round =>
            obtain ⟨j, hj, rfl, hrel⟩ := hrel
            have RL := Lib.hid hrel.out
            clear hrel G2
            have BW := Lib.hid (RL.out.2.below HB.out HB.out.size (fun g hg => (HG.out.bound g hg).1))
            have BXr := Lib.hid (RL.out.2.blk BX.out NE.out)
            have z5 : World.cell? wr ⟨w.heap.size, 5, none⟩ = some (.slice AK ks.length cK) := (blk_cell BXr.out 5).trans rfl
            by_cases hlt : j < ks.length
            · obtain ⟨b, off, es, rfl, hcl, hrd, hc⟩ := RK.out.get (i := j) (x := ks[j].enc) (by simp [Cr.encs_map, List.getElem?_eq_getElem hlt])
              obtain ⟨u0, u1, u2, u3, u4, u5, u6, rfl⟩ := cells7 hcl
              have e0 : wr.cell? ⟨b, off + j * 7, none⟩ = some u0 := cell_below BW.out (by simpa using hc 0 _ rfl)
              have e1 : wr.cell? ⟨b, off + j * 7 + 1, none⟩ = some u1 := cell_below BW.out (hc 1 _ rfl)
              have e2 : wr.cell? ⟨b, off + j * 7 + 2, none⟩ = some u2 := cell_below BW.out (hc 2 _ rfl)
              have e3 : wr.cell? ⟨b, off + j * 7 + 3, none⟩ = some u3 := cell_below BW.out (hc 3 _ rfl)
              have e4 : wr.cell? ⟨b, off + j * 7 + 4, none⟩ = some u4 := cell_below BW.out (hc 4 _ rfl)
              have e5 : wr.cell? ⟨b, off + j * 7 + 5, none⟩ = some u5 := cell_below BW.out (hc 5 _ rfl)
              have e6 : wr.cell? ⟨b, off + j * 7 + 6, none⟩ = some u6 := cell_below BW.out (hc 6 _ rfl)
              have ST := Lib.hid (Cr.allns_take hlt L2)
              have CA := Lib.hid (IH.out _ (List.getElem_mem hlt) W0 wr _ _ (Cr.allns (ks.take j) L2) hrd BW.out RL.out.1 (by
                have h1 := Cr.allns_len (ks.take j) L2
                have h2 := Cr.wts_take hlt
                have h3 := LB2.out
                have h4 := HL.out
                omega))
              have i0 : (0 : Int) ≤ (j : Int) := Int.natCast_nonneg _
              have i1 : (j : Int) < (ks.length : Int) := by omega
              clear hrd hc hcl
              go_wp2_with fail
              refine CA.out.mono ?_
              rintro e w2 ⟨v2, rfl, hg2, hgr2⟩
              have G2 := Lib.hid hg2
              have R2 := Lib.hid (RL.out.2.trans hgr2)
              clear hg2 hgr2 CA
              go_wp2
              go_roundw
              case rel => exact ⟨j + 1, by omega, by go_num, Lib.hid ⟨by rw [ST.out]; exact G2.out, R2.out⟩⟩
              case measure => simp [intOf]; omega
            · obtain rfl : j = ks.length := by omega
              have h0 := RL.out
              rw [List.take_length] at h0
              obtain ⟨L3, hL3⟩ : ∃ L3, L3 = Cr.allns ks L2 := ⟨_, rfl⟩
              rw [← hL3] at h0
              have HL3 := Lib.hid hL3
              have LB3 : Hid (L3.length ≤ L.length + 1 + ns.length + Cr.wts ks) := by
                have h1 := Cr.allns_len ks L2
                have h3 := LB2.out
                show _ ≤ _
                rw [hL3]
                omega
              have G3 := Lib.hid h0
              have z6 : World.cell? wr ⟨w.heap.size, 6, none⟩ = some (.slice AA qs.length cA) := (blk_cell BXr.out 6).trans rfl
              clear h0 hL3 RL hj hlt
              go_wp2_with fail
              clear z5 z6 BXr BW
              go_loopw [1, 7] (fun q i wr => ∃ j : Nat, j ≤ qs.length ∧ i = .int .i64 j ∧ Hid (Grow W0.heap.size wr q 9 1 (strs (Ca.allns (qs.take j) L3)) ∧ Grew W wr v q)) (fun _ i _ => qs.length - (intOf i).toNat)
              case atStart => exact ⟨0, Nat.zero_le _, rfl, Lib.hid ⟨by simpa [Ca.allns] using G3.out.1, G3.out.2⟩⟩
              case round =>
                obtain ⟨j, hj, rfl, hrel⟩ := hrel
                have RL := Lib.hid hrel.out
                clear hrel G3
                have BW := Lib.hid (RL.out.2.below HB.out HB.out.size (fun g hg => (HG.out.bound g hg).1))
                have BXr := Lib.hid (RL.out.2.blk BX.out NE.out)
                have z6 : World.cell? wr ⟨w.heap.size, 6, none⟩ = some (.slice AA qs.length cA) := (blk_cell BXr.out 6).trans rfl
                by_cases hlt : j < qs.length
                · obtain ⟨b, off, es, rfl, hcl, hrd, hc⟩ := RA.out.get (i := j) (x := qs[j].enc) (by simp [Ca.encs_map, List.getElem?_eq_getElem hlt])
                  obtain ⟨nv, bs, rfl, hbl, hnv, hbd⟩ := Ca.openB hrd
                  obtain ⟨u0, u1, u2, u3, u4, u5, u6, rfl⟩ := cells7 hbl
                  obtain ⟨An, cn, rfl, _, _, hrn⟩ := open_strs hnv
                  have HC := Lib.hid hc
                  have HBD := Lib.hid hbd
                  have HRN := Lib.hid hrn
                  have ST := Lib.hid (Ca.allns_take hlt L3)
                  have i0 : (0 : Int) ≤ (j : Int) := Int.natCast_nonneg _
                  have i1 : (j : Int) < (qs.length : Int) := by omega
                  have IAJ := Lib.hid (IA.out _ (List.getElem_mem hlt))
                  have NJ : Hid (qs[j].names.length ≤ 140737488351232) := HQM.out _ (List.getElem_mem hlt)
                  have LB4 : Hid ((Ca.allns (qs.take j) L3).length + (qs[j].names.length + qs[j].body.wt) ≤ 3000000) := by
                    have h1 := Ca.allns_len (qs.take j) L3
                    have h2 := Ca.wts_take hlt
                    have h3 := LB3.out
                    have h4 := HL.out
                    show _ ≤ _
                    omega
                  generalize qs[j].names = nms at *
                  generalize qs[j].body = bd at *
                  generalize Ca.allns (qs.take j) L3 = L4 at *
                  have nj0 := NJ.out
                  clear hrd hc hcl hbl hnv hbd hrn BW BXr
                  have RS := Lib.hid RL.out
                  clear RL
                  go_wp2_with fail
                  clear z6
                  go_loopw [1, 8] (fun q i wr => ∃ t : Nat, t ≤ nms.length ∧ i = .int .i64 t ∧ Hid (Grow W0.heap.size wr q 9 1 (strs (adds L4 (nms.take t))) ∧ Grew W wr v q)) (fun _ i _ => nms.length - (intOf i).toNat)
                  case atStart => exact ⟨0, Nat.zero_le _, rfl, Lib.hid ⟨by simpa [adds] using RS.out.1, RS.out.2⟩⟩
                  case round =>
                    obtain ⟨t, ht, rfl, hrel⟩ := hrel
                    have RL := Lib.hid hrel.out
                    clear hrel RS
                    have BW := Lib.hid (RL.out.2.below HB.out HB.out.size (fun g hg => (HG.out.bound g hg).1))
                    have BXr := Lib.hid (RL.out.2.blk BX.out NE.out)
                    have z6 := (blk_cell BXr.out 6)
                    simp at z6
                    have f1 := cell_below BW.out (HC.out 1 _ rfl)
                    by_cases hlt2 : t < nms.length
                    · obtain ⟨b2, off2, rfl, e0⟩ := strs_get (HRN.out.below (by omega) BW.out) hlt2
                      have ST2 := Lib.hid (adds_step hlt2 L4)
                      have LN : Hid ((adds L4 (nms.take t)).length ≤ 4000000) := by
                        have h1 := adds_len (nms.take t) L4
                        have h2 := List.length_take_le t nms
                        have h3 := LB4.out
                        show _ ≤ _
                        omega
                      have CA := Lib.hid (specAdd (adds L4 (nms.take t)) nms[t] LN.out W0 _ _ BW.out RL.out.1)
                      have j0 : (0 : Int) ≤ (t : Int) := Int.natCast_nonneg _
                      have j1 : (t : Int) < (nms.length : Int) := by omega
                      go_wp2_with fail
                      refine CA.out.mono ?_
                      rintro e w2 ⟨v2, rfl, hg2, hgr2⟩
                      have G2 := Lib.hid hg2
                      have R2 := Lib.hid (RL.out.2.trans hgr2)
                      clear hg2 hgr2 CA
                      go_wp2
                      go_roundw
                      case rel => exact ⟨t + 1, by omega, by go_num, Lib.hid ⟨by rw [ST2.out]; exact G2.out, R2.out⟩⟩
                      case measure => simp [intOf]; omega
                    · obtain rfl : t = nms.length := by omega
                      have h0 := RL.out
                      rw [List.take_length] at h0
                      have CA := Lib.hid (IAJ.out W0 _ _ _ (adds L4 nms) HBD.out BW.out h0.1 (by
                        have h1 := adds_len nms L4
                        have h3 := LB4.out
                        omega))
                      have f0 := cell_below BW.out (HC.out 2 _ rfl)
                      have f2 := cell_below BW.out (HC.out 3 _ rfl)
                      have f3 := cell_below BW.out (HC.out 4 _ rfl)
                      have f4 := cell_below BW.out (HC.out 5 _ rfl)
                      have f5 := cell_below BW.out (HC.out 6 _ rfl)
                      have f6 := cell_below BW.out (HC.out 7 _ rfl)
                      have f7 := cell_below BW.out (HC.out 8 _ rfl)
                      have G4 := Lib.hid h0
                      clear h0 RL
                      go_wp2_with fail
                      refine CA.out.mono ?_
                      rintro e w2 ⟨v2, rfl, hg2, hgr2⟩
                      have G2 := Lib.hid hg2
                      have R2 := Lib.hid (G4.out.2.trans hgr2)
                      clear hg2 hgr2 CA
                      go_wp2
                      go_roundw
                      case rel => exact ⟨j + 1, by omega, by go_num, Lib.hid ⟨by rw [ST.out]; exact G2.out, R2.out⟩⟩
                      case measure => simp [intOf]; omega
                · obtain rfl : j = qs.length := by omega
                  have h0 := RL.out
                  rw [List.take_length] at h0
                  have GX := Lib.hid h0
                  clear h0 RL
                  go_wp2_with fail
                  go_ret
                  exact ⟨_, rfl, by rw [HR.out, ← HL2.out, ← HL3.out]; exact GX.out.1, GR.out.trans GX.out.2⟩
    · by_cases hk8 : k = 8
      · subst hk8
        have E1 : Hid (L1 = addN L n) := by show _ = _; rw [HL1.out, if_pos ⟨HN.out, .inr rfl⟩]
        clear hk1
        go_enter Try.func118, Try.ntmps118
        go_wp2_with fail
        generalize hW : w.alloc (.cells #[.int .i64 8, .string n, .bool m, .slice AL l.length cL, .slice AN ns.length cN, .slice AK ks.length cK, .slice AA qs.length cA] 36) = W at *
        clear hW z0 z1
        refine (CADD.out _ HB.out HG.out).mono ?_
        rintro e w1 ⟨v1, rfl, hg1, hgr1⟩
        have G1 : Hid (Grow W0.heap.size w1 v1 9 1 (strs L1) ∧ Grew W w1 v v1) := ⟨by rw [E1.out]; exact hg1, hgr1⟩
        clear hg1 hgr1 CADD
        have BW1 := Lib.hid (G1.out.2.below HB.out HB.out.size (fun g hg => (HG.out.bound g hg).1))
        have zz := (blk_cell (G1.out.2.blk BX.out NE.out) 4)
        simp at zz
        go_wp2_with fail
        clear zz
        go_loopw [1, 5] (fun q i wr => ∃ j : Nat, j ≤ ns.length ∧ i = .int .i64 j ∧ Hid (Grow W0.heap.size wr q 9 1 (strs (adds L1 (ns.take j))) ∧ Grew W wr v q)) (fun _ i _ => ns.length - (intOf i).toNat)
        case atStart => exact ⟨0, Nat.zero_le _, rfl, Lib.hid ⟨by simpa [adds] using G1.out.1, G1.out.2⟩⟩
        case round =>
          obtain ⟨j, hj, rfl, hrel⟩ := hrel
          have RL := Lib.hid hrel.out
          clear hrel G1
          have BW := Lib.hid (RL.out.2.below HB.out HB.out.size (fun g hg => (HG.out.bound g hg).1))
          have BXr := Lib.hid (RL.out.2.blk BX.out NE.out)
          have z4 : World.cell? wr ⟨w.heap.size, 4, none⟩ = some (.slice AN ns.length cN) := (blk_cell BXr.out 4).trans rfl
          by_cases hlt : j < ns.length
          · obtain ⟨b, off, rfl, e0⟩ := strs_get (RN.out.below (by omega) BW.out) hlt
            have ST := Lib.hid (adds_step hlt L1)
            have LN : Hid ((adds L1 (ns.take j)).length ≤ 4000000) := by
              have h1 := adds_len (ns.take j) L1
              have h2 := List.length_take_le j ns
              have h3 := LB.out
              have h4 := HL.out
              show _ ≤ _
              omega
            have CA := Lib.hid (specAdd (adds L1 (ns.take j)) ns[j] LN.out W0 wr _ BW.out RL.out.1)
            have i0 : (0 : Int) ≤ (j : Int) := Int.natCast_nonneg _
            have i1 : (j : Int) < (ns.length : Int) := by omega
            go_wp2_with fail
            refine CA.out.mono ?_
            rintro e w2 ⟨v2, rfl, hg2, hgr2⟩
            have G2 := Lib.hid hg2
            have R2 := Lib.hid (RL.out.2.trans hgr2)
            clear hg2 hgr2 CA
            go_wp2
            go_roundw
            case rel => exact ⟨j + 1, by omega, by go_num, Lib.hid ⟨by rw [ST.out]; exact G2.out, R2.out⟩⟩
            case measure => simp [intOf]; omega
          · obtain rfl : j = ns.length := by omega
            have h0 := RL.out
            rw [List.take_length] at h0
            obtain ⟨L2, hL2⟩ : ∃ L2, L2 = adds L1 ns := ⟨_, rfl⟩
            rw [← hL2] at h0
            have HL2 := Lib.hid hL2
            have LB2 : Hid (L2.length ≤ L.length + 1 + ns.length) := by
              have h1 := adds_len ns L1
              have h3 := LB.out
              show _ ≤ _
              rw [hL2]
              omega
            have G2 := Lib.hid h0
            have z5 : World.cell? wr ⟨w.heap.size, 5, none⟩ = some (.slice AK ks.length cK) := (blk_cell BXr.out 5).trans rfl
            clear h0 hL2 RL hj hlt
            go_wp2_with fail
            clear z4 z5 BXr BW
            go_loopw [1, 6] (fun q i wr => ∃ j : Nat, j ≤ ks.length ∧ i = .int .i64 j ∧ Hid (Grow W0.heap.size wr q 9 1 (strs (Cr.allns (ks.take j) L2)) ∧ Grew W wr v q)) (fun _ i _ => ks.length - (intOf i).toNat)
            case atStart => exact ⟨0, Nat.zero_le _, rfl, Lib.hid ⟨by simpa [Cr.allns] using G2.out.1, G2.out.2⟩⟩
            case round =>
              obtain ⟨j, hj, rfl, hrel⟩ := hrel
              have RL := Lib.hid hrel.out
              clear hrel G2
              have BW := Lib.hid (RL.out.2.below HB.out HB.out.size (fun g hg => (HG.out.bound g hg).1))
              have BXr := Lib.hid (RL.out.2.blk BX.out NE.out)
              have z5 : World.cell? wr ⟨w.heap.size, 5, none⟩ = some (.slice AK ks.length cK) := (blk_cell BXr.out 5).trans rfl
              by_cases hlt : j < ks.length
              · obtain ⟨b, off, es, rfl, hcl, hrd, hc⟩ := RK.out.get (i := j) (x := ks[j].enc) (by simp [Cr.encs_map, List.getElem?_eq_getElem hlt])
                obtain ⟨u0, u1, u2, u3, u4, u5, u6, rfl⟩ := cells7 hcl
                have e0 : wr.cell? ⟨b, off + j * 7, none⟩ = some u0 := cell_below BW.out (by simpa using hc 0 _ rfl)
                have e1 : wr.cell? ⟨b, off + j * 7 + 1, none⟩ = some u1 := cell_below BW.out (hc 1 _ rfl)
                have e2 : wr.cell? ⟨b, off + j * 7 + 2, none⟩ = some u2 := cell_below BW.out (hc 2 _ rfl)
                have e3 : wr.cell? ⟨b, off + j * 7 + 3, none⟩ = some u3 := cell_below BW.out (hc 3 _ rfl)
                have e4 : wr.cell? ⟨b, off + j * 7 + 4, none⟩ = some u4 := cell_below BW.out (hc 4 _ rfl)
                have e5 : wr.cell? ⟨b, off + j * 7 + 5, none⟩ = some u5 := cell_below BW.out (hc 5 _ rfl)
                have e6 : wr.cell? ⟨b, off + j * 7 + 6, none⟩ = some u6 := cell_below BW.out (hc 6 _ rfl)
                have ST := Lib.hid (Cr.allns_take hlt L2)
                have CA := Lib.hid (IH.out _ (List.getElem_mem hlt) W0 wr _ _ (Cr.allns (ks.take j) L2) hrd BW.out RL.out.1 (by
                  have h1 := Cr.allns_len (ks.take j) L2
                  have h2 := Cr.wts_take hlt
                  have h3 := LB2.out
                  have h4 := HL.out
                  omega))
                have i0 : (0 : Int) ≤ (j : Int) := Int.natCast_nonneg _
                have i1 : (j : Int) < (ks.length : Int) := by omega
                clear hrd hc hcl
                go_wp2_with fail
                refine CA.out.mono ?_
                rintro e w2 ⟨v2, rfl, hg2, hgr2⟩
                have G2 := Lib.hid hg2
                have R2 := Lib.hid (RL.out.2.trans hgr2)
                clear hg2 hgr2 CA
                go_wp2
                go_roundw
                case rel => exact ⟨j + 1, by omega, by go_num, Lib.hid ⟨by rw [ST.out]; exact G2.out, R2.out⟩⟩
                case measure => simp [intOf]; omega
              · obtain rfl : j = ks.length := by omega
                have h0 := RL.out
                rw [List.take_length] at h0
                obtain ⟨L3, hL3⟩ : ∃ L3, L3 = Cr.allns ks L2 := ⟨_, rfl⟩
                rw [← hL3] at h0
                have HL3 := Lib.hid hL3
                have LB3 : Hid (L3.length ≤ L.length + 1 + ns.length + Cr.wts ks) := by
                  have h1 := Cr.allns_len ks L2
                  have h3 := LB2.out
                  show _ ≤ _
                  rw [hL3]
                  omega
                have G3 := Lib.hid h0
                have z6 : World.cell? wr ⟨w.heap.size, 6, none⟩ = some (.slice AA qs.length cA) := (blk_cell BXr.out 6).trans rfl
                clear h0 hL3 RL hj hlt
                go_wp2_with fail
                clear z5 z6 BXr BW
                go_loopw [1, 7] (fun q i wr => ∃ j : Nat, j ≤ qs.length ∧ i = .int .i64 j ∧ Hid (Grow W0.heap.size wr q 9 1 (strs (Ca.allns (qs.take j) L3)) ∧ Grew W wr v q)) (fun _ i _ => qs.length - (intOf i).toNat)
                case atStart => exact ⟨0, Nat.zero_le _, rfl, Lib.hid ⟨by simpa [Ca.allns] using G3.out.1, G3.out.2⟩⟩
                case round =>
                  obtain ⟨j, hj, rfl, hrel⟩ := hrel
                  have RL := Lib.hid hrel.out
                  clear hrel G3
                  have BW := Lib.hid (RL.out.2.below HB.out HB.out.size (fun g hg => (HG.out.bound g hg).1))
                  have BXr := Lib.hid (RL.out.2.blk BX.out NE.out)
                  have z6 : World.cell? wr ⟨w.heap.size, 6, none⟩ = some (.slice AA qs.length cA) := (blk_cell BXr.out 6).trans rfl
                  by_cases hlt : j < qs.length
                  · obtain ⟨b, off, es, rfl, hcl, hrd, hc⟩ := RA.out.get (i := j) (x := qs[j].enc) (by simp [Ca.encs_map, List.getElem?_eq_getElem hlt])
                    obtain ⟨nv, bs, rfl, hbl, hnv, hbd⟩ := Ca.openB hrd
                    obtain ⟨u0, u1, u2, u3, u4, u5, u6, rfl⟩ := cells7 hbl
                    obtain ⟨An, cn, rfl, _, _, hrn⟩ := open_strs hnv
                    have HC := Lib.hid hc
                    have HBD := Lib.hid hbd
                    have HRN := Lib.hid hrn
                    have ST := Lib.hid (Ca.allns_take hlt L3)
                    have i0 : (0 : Int) ≤ (j : Int) := Int.natCast_nonneg _
                    have i1 : (j : Int) < (qs.length : Int) := by omega
                    have IAJ := Lib.hid (IA.out _ (List.getElem_mem hlt))
                    have NJ : Hid (qs[j].names.length ≤ 140737488351232) := HQM.out _ (List.getElem_mem hlt)
                    have LB4 : Hid ((Ca.allns (qs.take j) L3).length + (qs[j].names.length + qs[j].body.wt) ≤ 3000000) := by
                      have h1 := Ca.allns_len (qs.take j) L3
                      have h2 := Ca.wts_take hlt
                      have h3 := LB3.out
                      have h4 := HL.out
                      show _ ≤ _
                      omega
                    generalize qs[j].names = nms at *
                    generalize qs[j].body = bd at *
                    generalize Ca.allns (qs.take j) L3 = L4 at *
                    have nj0 := NJ.out
                    clear hrd hc hcl hbl hnv hbd hrn BW BXr
                    have RS := Lib.hid RL.out
                    clear RL
                    go_wp2_with fail
                    clear z6
                    go_loopw [1, 8] (fun q i wr => ∃ t : Nat, t ≤ nms.length ∧ i = .int .i64 t ∧ Hid (Grow W0.heap.size wr q 9 1 (strs (adds L4 (nms.take t))) ∧ Grew W wr v q)) (fun _ i _ => nms.length - (intOf i).toNat)
                    case atStart => exact ⟨0, Nat.zero_le _, rfl, Lib.hid ⟨by simpa [adds] using RS.out.1, RS.out.2⟩⟩
                    case round =>
                      obtain ⟨t, ht, rfl, hrel⟩ := hrel
                      have RL := Lib.hid hrel.out
                      clear hrel RS
                      have BW := Lib.hid (RL.out.2.below HB.out HB.out.size (fun g hg => (HG.out.bound g hg).1))
                      have BXr := Lib.hid (RL.out.2.blk BX.out NE.out)
                      have z6 := (blk_cell BXr.out 6)
                      simp at z6
                      have f1 := cell_below BW.out (HC.out 1 _ rfl)
                      by_cases hlt2 : t < nms.length
                      · obtain ⟨b2, off2, rfl, e0⟩ := strs_get (HRN.out.below (by omega) BW.out) hlt2
                        have ST2 := Lib.hid (adds_step hlt2 L4)
                        have LN : Hid ((adds L4 (nms.take t)).length ≤ 4000000) := by
                          have h1 := adds_len (nms.take t) L4
                          have h2 := List.length_take_le t nms
                          have h3 := LB4.out
                          show _ ≤ _
                          omega
                        have CA := Lib.hid (specAdd (adds L4 (nms.take t)) nms[t] LN.out W0 _ _ BW.out RL.out.1)
                        have j0 : (0 : Int) ≤ (t : Int) := Int.natCast_nonneg _
                        have j1 : (t : Int) < (nms.length : Int) := by omega
                        go_wp2_with fail
                        refine CA.out.mono ?_
                        rintro e w2 ⟨v2, rfl, hg2, hgr2⟩
                        have G2 := Lib.hid hg2
                        have R2 := Lib.hid (RL.out.2.trans hgr2)
                        clear hg2 hgr2 CA
                        go_wp2
                        go_roundw
                        case rel => exact ⟨t + 1, by omega, by go_num, Lib.hid ⟨by rw [ST2.out]; exact G2.out, R2.out⟩⟩
                        case measure => simp [intOf]; omega
                      · obtain rfl : t = nms.length := by omega
                        have h0 := RL.out
                        rw [List.take_length] at h0
                        have CA := Lib.hid (IAJ.out W0 _ _ _ (adds L4 nms) HBD.out BW.out h0.1 (by
                          have h1 := adds_len nms L4
                          have h3 := LB4.out
                          omega))
                        have f0 := cell_below BW.out (HC.out 2 _ rfl)
                        have f2 := cell_below BW.out (HC.out 3 _ rfl)
                        have f3 := cell_below BW.out (HC.out 4 _ rfl)
                        have f4 := cell_below BW.out (HC.out 5 _ rfl)
                        have f5 := cell_below BW.out (HC.out 6 _ rfl)
                        have f6 := cell_below BW.out (HC.out 7 _ rfl)
                        have f7 := cell_below BW.out (HC.out 8 _ rfl)
                        have G4 := Lib.hid h0
                        clear h0 RL
                        go_wp2_with fail
                        refine CA.out.mono ?_
                        rintro e w2 ⟨v2, rfl, hg2, hgr2⟩
                        have G2 := Lib.hid hg2
                        have R2 := Lib.hid (G4.out.2.trans hgr2)
                        clear hg2 hgr2 CA
                        go_wp2
                        go_roundw
                        case rel => exact ⟨j + 1, by omega, by go_num, Lib.hid ⟨by rw [ST.out]; exact G2.out, R2.out⟩⟩
                        case measure => simp [intOf]; omega
                  · obtain rfl : j = qs.length := by omega
                    have h0 := RL.out
                    rw [List.take_length] at h0
                    have GX := Lib.hid h0
                    clear h0 RL
                    go_wp2_with fail
                    go_ret
                    exact ⟨_, rfl, by rw [HR.out, ← HL2.out, ← HL3.out]; exact GX.out.1, GR.out.trans GX.out.2⟩
      · have E1 : Hid (L1 = L) := by show _ = _; rw [HL1.out, if_neg (by rintro ⟨_, h | h⟩ <;> contradiction)]
        have k1 : (k == 1) = false := beq_eq_false_iff_ne.2 hk1
        have k8 : (k == 8) = false := beq_eq_false_iff_ne.2 hk8
        clear hk1 hk8
        go_enter Try.func118, Try.ntmps118
        have G1 : Hid (∀ W, W = w.alloc (.cells #[.int .i64 k, .string n, .bool m, .slice AL l.length cL, .slice AN ns.length cN, .slice AK ks.length cK, .slice AA qs.length cA] 36) → Grow W0.heap.size W v 9 1 (strs L1) ∧ Grew W W v v) := by
          rintro W rfl
          exact ⟨by rw [E1.out]; exact HG.out, Grew.refl _ _⟩
        go_wp2_with fail
        have G1 := Lib.hid (G1.out _ rfl)
        generalize hW : w.alloc (.cells #[.int .i64 k, .string n, .bool m, .slice AL l.length cL, .slice AN ns.length cN, .slice AK ks.length cK, .slice AA qs.length cA] 36) = W at *
        clear hW z0 z1
        go_loopw [1, 5] (fun q i wr => ∃ j : Nat, j ≤ ns.length ∧ i = .int .i64 j ∧ Hid (Grow W0.heap.size wr q 9 1 (strs (adds L1 (ns.take j))) ∧ Grew W wr v q)) (fun _ i _ => ns.length - (intOf i).toNat)
        case atStart => exact ⟨0, Nat.zero_le _, rfl, Lib.hid ⟨by simpa [adds] using G1.out.1, G1.out.2⟩⟩
        case round =>
          obtain ⟨j, hj, rfl, hrel⟩ := hrel
          have RL := Lib.hid hrel.out
          clear hrel G1
          have BW := Lib.hid (RL.out.2.below HB.out HB.out.size (fun g hg => (HG.out.bound g hg).1))
          have BXr := Lib.hid (RL.out.2.blk BX.out NE.out)
          have z4 : World.cell? wr ⟨w.heap.size, 4, none⟩ = some (.slice AN ns.length cN) := (blk_cell BXr.out 4).trans rfl
          by_cases hlt : j < ns.length
          · obtain ⟨b, off, rfl, e0⟩ := strs_get (RN.out.below (by omega) BW.out) hlt
            have ST := Lib.hid (adds_step hlt L1)
            have LN : Hid ((adds L1 (ns.take j)).length ≤ 4000000) := by
              have h1 := adds_len (ns.take j) L1
              have h2 := List.length_take_le j ns
              have h3 := LB.out
              have h4 := HL.out
              show _ ≤ _
              omega
            have CA := Lib.hid (specAdd (adds L1 (ns.take j)) ns[j] LN.out W0 wr _ BW.out RL.out.1)
            have i0 : (0 : Int) ≤ (j : Int) := Int.natCast_nonneg _
            have i1 : (j : Int) < (ns.length : Int) := by omega
            go_wp2_with fail
            refine CA.out.mono ?_
            rintro e w2 ⟨v2, rfl, hg2, hgr2⟩
            have G2 := Lib.hid hg2
            have R2 := Lib.hid (RL.out.2.trans hgr2)
            clear hg2 hgr2 CA
            go_wp2
            go_roundw
            case rel => exact ⟨j + 1, by omega, by go_num, Lib.hid ⟨by rw [ST.out]; exact G2.out, R2.out⟩⟩
            case measure => simp [intOf]; omega
          · obtain rfl : j = ns.length := by omega
            have h0 := RL.out
            rw [List.take_length] at h0
            obtain ⟨L2, hL2⟩ : ∃ L2, L2 = adds L1 ns := ⟨_, rfl⟩
            rw [← hL2] at h0
            have HL2 := Lib.hid hL2
            have LB2 : Hid (L2.length ≤ L.length + 1 + ns.length) := by
              have h1 := adds_len ns L1
              have h3 := LB.out
              show _ ≤ _
              rw [hL2]
              omega
            have G2 := Lib.hid h0
            have z5 : World.cell? wr ⟨w.heap.size, 5, none⟩ = some (.slice AK ks.length cK) := (blk_cell BXr.out 5).trans rfl
            clear h0 hL2 RL hj hlt
            go_wp2_with fail
            clear z4 z5 BXr BW
            go_loopw [1, 6] (fun q i wr => ∃ j : Nat, j ≤ ks.length ∧ i = .int .i64 j ∧ Hid (Grow W0.heap.size wr q 9 1 (strs (Cr.allns (ks.take j) L2)) ∧ Grew W wr v q)) (fun _ i _ => ks.length - (intOf i).toNat)
            case atStart => exact ⟨0, Nat.zero_le _, rfl, Lib.hid ⟨by simpa [Cr.allns] using G2.out.1, G2.out.2⟩⟩
            case round =>
              obtain ⟨j, hj, rfl, hrel⟩ := hrel
              have RL := Lib.hid hrel.out
              clear hrel G2
              have BW := Lib.hid (RL.out.2.below HB.out HB.out.size (fun g hg => (HG.out.bound g hg).1))
              have BXr := Lib.hid (RL.out.2.blk BX.out NE.out)
              have z5 : World.cell? wr ⟨w.heap.size, 5, none⟩ = some (.slice AK ks.length cK) := (blk_cell BXr.out 5).trans rfl
              by_cases hlt : j < ks.length
              · obtain ⟨b, off, es, rfl, hcl, hrd, hc⟩ := RK.out.get (i := j) (x := ks[j].enc) (by simp [Cr.encs_map, List.getElem?_eq_getElem hlt])
                obtain ⟨u0, u1, u2, u3, u4, u5, u6, rfl⟩ := cells7 hcl
                have e0 : wr.cell? ⟨b, off + j * 7, none⟩ = some u0 := cell_below BW.out (by simpa using hc 0 _ rfl)
                have e1 : wr.cell? ⟨b, off + j * 7 + 1, none⟩ = some u1 := cell_below BW.out (hc 1 _ rfl)
                have e2 : wr.cell? ⟨b, off + j * 7 + 2, none⟩ = some u2 := cell_below BW.out (hc 2 _ rfl)
                have e3 : wr.cell? ⟨b, off + j * 7 + 3, none⟩ = some u3 := cell_below BW.out (hc 3 _ rfl)
                have e4 : wr.cell? ⟨b, off + j * 7 + 4, none⟩ = some u4 := cell_below BW.out (hc 4 _ rfl)
                have e5 : wr.cell? ⟨b, off + j * 7 + 5, none⟩ = some u5 := cell_below BW.out (hc 5 _ rfl)
                have e6 : wr.cell? ⟨b, off + j * 7 + 6, none⟩ = some u6 := cell_below BW.out (hc 6 _ rfl)
                have ST := Lib.hid (Cr.allns_take hlt L2)
                have CA := Lib.hid (IH.out _ (List.getElem_mem hlt) W0 wr _ _ (Cr.allns (ks.take j) L2) hrd BW.out RL.out.1 (by
                  have h1 := Cr.allns_len (ks.take j) L2
                  have h2 := Cr.wts_take hlt
                  have h3 := LB2.out
                  have h4 := HL.out
                  omega))
                have i0 : (0 : Int) ≤ (j : Int) := Int.natCast_nonneg _
                have i1 : (j : Int) < (ks.length : Int) := by omega
                clear hrd hc hcl
                go_wp2_with fail
                refine CA.out.mono ?_
                rintro e w2 ⟨v2, rfl, hg2, hgr2⟩
                have G2 := Lib.hid hg2
                have R2 := Lib.hid (RL.out.2.trans hgr2)
                clear hg2 hgr2 CA
                go_wp2
                go_roundw
                case rel => exact ⟨j + 1, by omega, by go_num, Lib.hid ⟨by rw [ST.out]; exact G2.out, R2.out⟩⟩
                case measure => simp [intOf]; omega
              · obtain rfl : j = ks.length := by omega
                have h0 := RL.out
                rw [List.take_length] at h0
                obtain ⟨L3, hL3⟩ : ∃ L3, L3 = Cr.allns ks L2 := ⟨_, rfl⟩
                rw [← hL3] at h0
                have HL3 := Lib.hid hL3
                have LB3 : Hid (L3.length ≤ L.length + 1 + ns.length + Cr.wts ks) := by
                  have h1 := Cr.allns_len ks L2
                  have h3 := LB2.out
                  show _ ≤ _
                  rw [hL3]
                  omega
                have G3 := Lib.hid h0
                have z6 : World.cell? wr ⟨w.heap.size, 6, none⟩ = some (.slice AA qs.length cA) := (blk_cell BXr.out 6).trans rfl
                clear h0 hL3 RL hj hlt
                go_wp2_with fail
                clear z5 z6 BXr BW
                go_loopw [1, 7] (fun q i wr => ∃ j : Nat, j ≤ qs.length ∧ i = .int .i64 j ∧ Hid (Grow W0.heap.size wr q 9 1 (strs (Ca.allns (qs.take j) L3)) ∧ Grew W wr v q)) (fun _ i _ => qs.length - (intOf i).toNat)
                case atStart => exact ⟨0, Nat.zero_le _, rfl, Lib.hid ⟨by simpa [Ca.allns] using G3.out.1, G3.out.2⟩⟩
                case round =>
                  obtain ⟨j, hj, rfl, hrel⟩ := hrel
                  have RL := Lib.hid hrel.out
                  clear hrel G3
                  have BW := Lib.hid (RL.out.2.below HB.out HB.out.size (fun g hg => (HG.out.bound g hg).1))
                  have BXr := Lib.hid (RL.out.2.blk BX.out NE.out)
                  have z6 : World.cell? wr ⟨w.heap.size, 6, none⟩ = some (.slice AA qs.length cA) := (blk_cell BXr.out 6).trans rfl
                  by_cases hlt : j < qs.length
                  · obtain ⟨b, off, es, rfl, hcl, hrd, hc⟩ := RA.out.get (i := j) (x := qs[j].enc) (by simp [Ca.encs_map, List.getElem?_eq_getElem hlt])
                    obtain ⟨nv, bs, rfl, hbl, hnv, hbd⟩ := Ca.openB hrd
                    obtain ⟨u0, u1, u2, u3, u4, u5, u6, rfl⟩ := cells7 hbl
                    obtain ⟨An, cn, rfl, _, _, hrn⟩ := open_strs hnv
                    have HC := Lib.hid hc
                    have HBD := Lib.hid hbd
                    have HRN := Lib.hid hrn
                    have ST := Lib.hid (Ca.allns_take hlt L3)
                    have i0 : (0 : Int) ≤ (j : Int) := Int.natCast_nonneg _
                    have i1 : (j : Int) < (qs.length : Int) := by omega
                    have IAJ := Lib.hid (IA.out _ (List.getElem_mem hlt))
                    have NJ : Hid (qs[j].names.length ≤ 140737488351232) := HQM.out _ (List.getElem_mem hlt)
                    have LB4 : Hid ((Ca.allns (qs.take j) L3).length + (qs[j].names.length + qs[j].body.wt) ≤ 3000000) := by
                      have h1 := Ca.allns_len (qs.take j) L3
                      have h2 := Ca.wts_take hlt
                      have h3 := LB3.out
                      have h4 := HL.out
                      show _ ≤ _
                      omega
                    generalize qs[j].names = nms at *
                    generalize qs[j].body = bd at *
                    generalize Ca.allns (qs.take j) L3 = L4 at *
                    have nj0 := NJ.out
                    clear hrd hc hcl hbl hnv hbd hrn BW BXr
                    have RS := Lib.hid RL.out
                    clear RL
                    go_wp2_with fail
                    clear z6
                    go_loopw [1, 8] (fun q i wr => ∃ t : Nat, t ≤ nms.length ∧ i = .int .i64 t ∧ Hid (Grow W0.heap.size wr q 9 1 (strs (adds L4 (nms.take t))) ∧ Grew W wr v q)) (fun _ i _ => nms.length - (intOf i).toNat)
                    case atStart => exact ⟨0, Nat.zero_le _, rfl, Lib.hid ⟨by simpa [adds] using RS.out.1, RS.out.2⟩⟩
                    case round =>
                      obtain ⟨t, ht, rfl, hrel⟩ := hrel
                      have RL := Lib.hid hrel.out
                      clear hrel RS
                      have BW := Lib.hid (RL.out.2.below HB.out HB.out.size (fun g hg => (HG.out.bound g hg).1))
                      have BXr := Lib.hid (RL.out.2.blk BX.out NE.out)
                      have z6 := (blk_cell BXr.out 6)
                      simp at z6
                      have f1 := cell_below BW.out (HC.out 1 _ rfl)
                      by_cases hlt2 : t < nms.length
                      · obtain ⟨b2, off2, rfl, e0⟩ := strs_get (HRN.out.below (by omega) BW.out) hlt2
                        have ST2 := Lib.hid (adds_step hlt2 L4)
                        have LN : Hid ((adds L4 (nms.take t)).length ≤ 4000000) := by
                          have h1 := adds_len (nms.take t) L4
                          have h2 := List.length_take_le t nms
                          have h3 := LB4.out
                          show _ ≤ _
                          omega
                        have CA := Lib.hid (specAdd (adds L4 (nms.take t)) nms[t] LN.out W0 _ _ BW.out RL.out.1)
                        have j0 : (0 : Int) ≤ (t : Int) := Int.natCast_nonneg _
                        have j1 : (t : Int) < (nms.length : Int) := by omega
                        go_wp2_with fail
                        refine CA.out.mono ?_
                        rintro e w2 ⟨v2, rfl, hg2, hgr2⟩
                        have G2 := Lib.hid hg2
                        have R2 := Lib.hid (RL.out.2.trans hgr2)
                        clear hg2 hgr2 CA
                        go_wp2
                        go_roundw
                        case rel => exact ⟨t + 1, by omega, by go_num, Lib.hid ⟨by rw [ST2.out]; exact G2.out, R2.out⟩⟩
                        case measure => simp [intOf]; omega
                      · obtain rfl : t = nms.length := by omega
                        have h0 := RL.out
                        rw [List.take_length] at h0
                        have CA := Lib.hid (IAJ.out W0 _ _ _ (adds L4 nms) HBD.out BW.out h0.1 (by
                          have h1 := adds_len nms L4
                          have h3 := LB4.out
                          omega))
                        have f0 := cell_below BW.out (HC.out 2 _ rfl)
                        have f2 := cell_below BW.out (HC.out 3 _ rfl)
                        have f3 := cell_below BW.out (HC.out 4 _ rfl)
                        have f4 := cell_below BW.out (HC.out 5 _ rfl)
                        have f5 := cell_below BW.out (HC.out 6 _ rfl)
                        have f6 := cell_below BW.out (HC.out 7 _ rfl)
                        have f7 := cell_below BW.out (HC.out 8 _ rfl)
                        have G4 := Lib.hid h0
                        clear h0 RL
                        go_wp2_with fail
                        refine CA.out.mono ?_
                        rintro e w2 ⟨v2, rfl, hg2, hgr2⟩
                        have G2 := Lib.hid hg2
                        have R2 := Lib.hid (G4.out.2.trans hgr2)
                        clear hg2 hgr2 CA
                        go_wp2
                        go_roundw
                        case rel => exact ⟨j + 1, by omega, by go_num, Lib.hid ⟨by rw [ST.out]; exact G2.out, R2.out⟩⟩
                        case measure => simp [intOf]; omega
                  · obtain rfl : j = qs.length := by omega
                    have h0 := RL.out
                    rw [List.take_length] at h0
                    have GX := Lib.hid h0
                    clear h0 RL
                    go_wp2_with fail
                    go_ret
                    exact ⟨_, rfl, by rw [HR.out, ← HL2.out, ← HL3.out]; exact GX.out.1, GR.out.trans GX.out.2⟩
  · have E1 : Hid (L1 = L) := by show _ = _; rw [HL1.out, if_neg (fun h => h.1 (emp_t hn))]
    go_enter Try.func118, Try.ntmps118
    have G1 : Hid (∀ W, W = w.alloc (.cells #[.int .i64 k, .string n, .bool m, .slice AL l.length cL, .slice AN ns.length cN, .slice AK ks.length cK, .slice AA qs.length cA] 36) → Grow W0.heap.size W v 9 1 (strs L1) ∧ Grew W W v v) := by
      rintro W rfl
      exact ⟨by rw [E1.out]; exact HG.out, Grew.refl _ _⟩
    go_wp2_with fail
    have G1 := Lib.hid (G1.out _ rfl)
    generalize hW : w.alloc (.cells #[.int .i64 k, .string n, .bool m, .slice AL l.length cL, .slice AN ns.length cN, .slice AK ks.length cK, .slice AA qs.length cA] 36) = W at *
    clear hW z0 z1
    go_loopw [1, 5] (fun q i wr => ∃ j : Nat, j ≤ ns.length ∧ i = .int .i64 j ∧ Hid (Grow W0.heap.size wr q 9 1 (strs (adds L1 (ns.take j))) ∧ Grew W wr v q)) (fun _ i _ => ns.length - (intOf i).toNat)
    case atStart => exact ⟨0, Nat.zero_le _, rfl, Lib.hid ⟨by simpa [adds] using G1.out.1, G1.out.2⟩⟩
    case round =>
      obtain ⟨j, hj, rfl, hrel⟩ := hrel
      have RL := Lib.hid hrel.out
      clear hrel G1
      have BW := Lib.hid (RL.out.2.below HB.out HB.out.size (fun g hg => (HG.out.bound g hg).1))
      have BXr := Lib.hid (RL.out.2.blk BX.out NE.out)
      have z4 : World.cell? wr ⟨w.heap.size, 4, none⟩ = some (.slice AN ns.length cN) := (blk_cell BXr.out 4).trans rfl
      by_cases hlt : j < ns.length
      · obtain ⟨b, off, rfl, e0⟩ := strs_get (RN.out.below (by omega) BW.out) hlt
        have ST := Lib.hid (adds_step hlt L1)
        have LN : Hid ((adds L1 (ns.take j)).length ≤ 4000000) := by
          have h1 := adds_len (ns.take j) L1
          have h2 := List.length_take_le j ns
          have h3 := LB.out
          have h4 := HL.out
          show _ ≤ _
          omega
        have CA := Lib.hid (specAdd (adds L1 (ns.take j)) ns[j] LN.out W0 wr _ BW.out RL.out.1)
        have i0 : (0 : Int) ≤ (j : Int) := Int.natCast_nonneg _
        have i1 : (j : Int) < (ns.length : Int) := by omega
        go_wp2_with fail
        refine CA.out.mono ?_
        rintro e w2 ⟨v2, rfl, hg2, hgr2⟩
        have G2 := Lib.hid hg2
        have R2 := Lib.hid (RL.out.2.trans hgr2)
        clear hg2 hgr2 CA
        go_wp2
        go_roundw
        case rel => exact ⟨j + 1, by omega, by go_num, Lib.hid ⟨by rw [ST.out]; exact G2.out, R2.out⟩⟩
        case measure => simp [intOf]; omega
      · obtain rfl : j = ns.length := by omega
        have h0 := RL.out
        rw [List.take_length] at h0
        obtain ⟨L2, hL2⟩ : ∃ L2, L2 = adds L1 ns := ⟨_, rfl⟩
        rw [← hL2] at h0
        have HL2 := Lib.hid hL2
        have LB2 : Hid (L2.length ≤ L.length + 1 + ns.length) := by
          have h1 := adds_len ns L1
          have h3 := LB.out
          show _ ≤ _
          rw [hL2]
          omega
        have G2 := Lib.hid h0
        have z5 : World.cell? wr ⟨w.heap.size, 5, none⟩ = some (.slice AK ks.length cK) := (blk_cell BXr.out 5).trans rfl
        clear h0 hL2 RL hj hlt
        go_wp2_with fail
        clear z4 z5 BXr BW
        go_loopw [1, 6] (fun q i wr => ∃ j : Nat, j ≤ ks.length ∧ i = .int .i64 j ∧ Hid (Grow W0.heap.size wr q 9 1 (strs (Cr.allns (ks.take j) L2)) ∧ Grew W wr v q)) (fun _ i _ => ks.length - (intOf i).toNat)
        case atStart => exact ⟨0, Nat.zero_le _, rfl, Lib.hid ⟨by simpa [Cr.allns] using G2.out.1, G2.out.2⟩⟩
        case round =>
          obtain ⟨j, hj, rfl, hrel⟩ := hrel
          have RL := Lib.hid hrel.out
          clear hrel G2
          have BW := Lib.hid (RL.out.2.below HB.out HB.out.size (fun g hg => (HG.out.bound g hg).1))
          have BXr := Lib.hid (RL.out.2.blk BX.out NE.out)
          have z5 : World.cell? wr ⟨w.heap.size, 5, none⟩ = some (.slice AK ks.length cK) := (blk_cell BXr.out 5).trans rfl
          by_cases hlt : j < ks.length
          · obtain ⟨b, off, es, rfl, hcl, hrd, hc⟩ := RK.out.get (i := j) (x := ks[j].enc) (by simp [Cr.encs_map, List.getElem?_eq_getElem hlt])
            obtain ⟨u0, u1, u2, u3, u4, u5, u6, rfl⟩ := cells7 hcl
            have e0 : wr.cell? ⟨b, off + j * 7, none⟩ = some u0 := cell_below BW.out (by simpa using hc 0 _ rfl)
            have e1 : wr.cell? ⟨b, off + j * 7 + 1, none⟩ = some u1 := cell_below BW.out (hc 1 _ rfl)
            have e2 : wr.cell? ⟨b, off + j * 7 + 2, none⟩ = some u2 := cell_below BW.out (hc 2 _ rfl)
            have e3 : wr.cell? ⟨b, off + j * 7 + 3, none⟩ = some u3 := cell_below BW.out (hc 3 _ rfl)
            have e4 : wr.cell? ⟨b, off + j * 7 + 4, none⟩ = some u4 := cell_below BW.out (hc 4 _ rfl)
            have e5 : wr.cell? ⟨b, off + j * 7 + 5, none⟩ = some u5 := cell_below BW.out (hc 5 _ rfl)
            have e6 : wr.cell? ⟨b, off + j * 7 + 6, none⟩ = some u6 := cell_below BW.out (hc 6 _ rfl)
            have ST := Lib.hid (Cr.allns_take hlt L2)
            have CA := Lib.hid (IH.out _ (List.getElem_mem hlt) W0 wr _ _ (Cr.allns (ks.take j) L2) hrd BW.out RL.out.1 (by
              have h1 := Cr.allns_len (ks.take j) L2
              have h2 := Cr.wts_take hlt
              have h3 := LB2.out
              have h4 := HL.out
              omega))
            have i0 : (0 : Int) ≤ (j : Int) := Int.natCast_nonneg _
            have i1 : (j : Int) < (ks.length : Int) := by omega
            clear hrd hc hcl
            go_wp2_with fail
            refine CA.out.mono ?_
            rintro e w2 ⟨v2, rfl, hg2, hgr2⟩
            have G2 := Lib.hid hg2
            have R2 := Lib.hid (RL.out.2.trans hgr2)
            clear hg2 hgr2 CA
            go_wp2
            go_roundw
            case rel => exact ⟨j + 1, by omega, by go_num, Lib.hid ⟨by rw [ST.out]; exact G2.out, R2.out⟩⟩
            case measure => simp [intOf]; omega
          · obtain rfl : j = ks.length := by omega
            have h0 := RL.out
            rw [List.take_length] at h0
            obtain ⟨L3, hL3⟩ : ∃ L3, L3 = Cr.allns ks L2 := ⟨_, rfl⟩
            rw [← hL3] at h0
            have HL3 := Lib.hid hL3
            have LB3 : Hid (L3.length ≤ L.length + 1 + ns.length + Cr.wts ks) := by
              have h1 := Cr.allns_len ks L2
              have h3 := LB2.out
              show _ ≤ _
              rw [hL3]
              omega
            have G3 := Lib.hid h0
            have z6 : World.cell? wr ⟨w.heap.size, 6, none⟩ = some (.slice AA qs.length cA) := (blk_cell BXr.out 6).trans rfl
            clear h0 hL3 RL hj hlt
            go_wp2_with fail
            clear z5 z6 BXr BW
            go_loopw [1, 7] (fun q i wr => ∃ j : Nat, j ≤ qs.length ∧ i = .int .i64 j ∧ Hid (Grow W0.heap.size wr q 9 1 (strs (Ca.allns (qs.take j) L3)) ∧ Grew W wr v q)) (fun _ i _ => qs.length - (intOf i).toNat)
            case atStart => exact ⟨0, Nat.zero_le _, rfl, Lib.hid ⟨by simpa [Ca.allns] using G3.out.1, G3.out.2⟩⟩
            case round =>
              obtain ⟨j, hj, rfl, hrel⟩ := hrel
              have RL := Lib.hid hrel.out
              clear hrel G3
              have BW := Lib.hid (RL.out.2.below HB.out HB.out.size (fun g hg => (HG.out.bound g hg).1))
              have BXr := Lib.hid (RL.out.2.blk BX.out NE.out)
              have z6 : World.cell? wr ⟨w.heap.size, 6, none⟩ = some (.slice AA qs.length cA) := (blk_cell BXr.out 6).trans rfl
              by_cases hlt : j < qs.length
              · obtain ⟨b, off, es, rfl, hcl, hrd, hc⟩ := RA.out.get (i := j) (x := qs[j].enc) (by simp [Ca.encs_map, List.getElem?_eq_getElem hlt])
                obtain ⟨nv, bs, rfl, hbl, hnv, hbd⟩ := Ca.openB hrd
                obtain ⟨u0, u1, u2, u3, u4, u5, u6, rfl⟩ := cells7 hbl
                obtain ⟨An, cn, rfl, _, _, hrn⟩ := open_strs hnv
                have HC := Lib.hid hc
                have HBD := Lib.hid hbd
                have HRN := Lib.hid hrn
                have ST := Lib.hid (Ca.allns_take hlt L3)
                have i0 : (0 : Int) ≤ (j : Int) := Int.natCast_nonneg _
                have i1 : (j : Int) < (qs.length : Int) := by omega
                have IAJ := Lib.hid (IA.out _ (List.getElem_mem hlt))
                have NJ : Hid (qs[j].names.length ≤ 140737488351232) := HQM.out _ (List.getElem_mem hlt)
                have LB4 : Hid ((Ca.allns (qs.take j) L3).length + (qs[j].names.length + qs[j].body.wt) ≤ 3000000) := by
                  have h1 := Ca.allns_len (qs.take j) L3
                  have h2 := Ca.wts_take hlt
                  have h3 := LB3.out
                  have h4 := HL.out
                  show _ ≤ _
                  omega
                generalize qs[j].names = nms at *
                generalize qs[j].body = bd at *
                generalize Ca.allns (qs.take j) L3 = L4 at *
                have nj0 := NJ.out
                clear hrd hc hcl hbl hnv hbd hrn BW BXr
                have RS := Lib.hid RL.out
                clear RL
                go_wp2_with fail
                clear z6
                go_loopw [1, 8] (fun q i wr => ∃ t : Nat, t ≤ nms.length ∧ i = .int .i64 t ∧ Hid (Grow W0.heap.size wr q 9 1 (strs (adds L4 (nms.take t))) ∧ Grew W wr v q)) (fun _ i _ => nms.length - (intOf i).toNat)
                case atStart => exact ⟨0, Nat.zero_le _, rfl, Lib.hid ⟨by simpa [adds] using RS.out.1, RS.out.2⟩⟩
                case round =>
                  obtain ⟨t, ht, rfl, hrel⟩ := hrel
                  have RL := Lib.hid hrel.out
                  clear hrel RS
                  have BW := Lib.hid (RL.out.2.below HB.out HB.out.size (fun g hg => (HG.out.bound g hg).1))
                  have BXr := Lib.hid (RL.out.2.blk BX.out NE.out)
                  have z6 := (blk_cell BXr.out 6)
                  simp at z6
                  have f1 := cell_below BW.out (HC.out 1 _ rfl)
                  by_cases hlt2 : t < nms.length
                  · obtain ⟨b2, off2, rfl, e0⟩ := strs_get (HRN.out.below (by omega) BW.out) hlt2
                    have ST2 := Lib.hid (adds_step hlt2 L4)
                    have LN : Hid ((adds L4 (nms.take t)).length ≤ 4000000) := by
                      have h1 := adds_len (nms.take t) L4
                      have h2 := List.length_take_le t nms
                      have h3 := LB4.out
                      show _ ≤ _
                      omega
                    have CA := Lib.hid (specAdd (adds L4 (nms.take t)) nms[t] LN.out W0 _ _ BW.out RL.out.1)
                    have j0 : (0 : Int) ≤ (t : Int) := Int.natCast_nonneg _
                    have j1 : (t : Int) < (nms.length : Int) := by omega
                    go_wp2_with fail
                    refine CA.out.mono ?_
                    rintro e w2 ⟨v2, rfl, hg2, hgr2⟩
                    have G2 := Lib.hid hg2
                    have R2 := Lib.hid (RL.out.2.trans hgr2)
                    clear hg2 hgr2 CA
                    go_wp2
                    go_roundw
                    case rel => exact ⟨t + 1, by omega, by go_num, Lib.hid ⟨by rw [ST2.out]; exact G2.out, R2.out⟩⟩
                    case measure => simp [intOf]; omega
                  · obtain rfl : t = nms.length := by omega
                    have h0 := RL.out
                    rw [List.take_length] at h0
                    have CA := Lib.hid (IAJ.out W0 _ _ _ (adds L4 nms) HBD.out BW.out h0.1 (by
                      have h1 := adds_len nms L4
                      have h3 := LB4.out
                      omega))
                    have f0 := cell_below BW.out (HC.out 2 _ rfl)
                    have f2 := cell_below BW.out (HC.out 3 _ rfl)
                    have f3 := cell_below BW.out (HC.out 4 _ rfl)
                    have f4 := cell_below BW.out (HC.out 5 _ rfl)
                    have f5 := cell_below BW.out (HC.out 6 _ rfl)
                    have f6 := cell_below BW.out (HC.out 7 _ rfl)
                    have f7 := cell_below BW.out (HC.out 8 _ rfl)
                    have G4 := Lib.hid h0
                    clear h0 RL
                    go_wp2_with fail
                    refine CA.out.mono ?_
                    rintro e w2 ⟨v2, rfl, hg2, hgr2⟩
                    have G2 := Lib.hid hg2
                    have R2 := Lib.hid (G4.out.2.trans hgr2)
                    clear hg2 hgr2 CA
                    go_wp2
                    go_roundw
                    case rel => exact ⟨j + 1, by omega, by go_num, Lib.hid ⟨by rw [ST.out]; exact G2.out, R2.out⟩⟩
                    case measure => simp [intOf]; omega
              · obtain rfl : j = qs.length := by omega
                have h0 := RL.out
                rw [List.take_length] at h0
                have GX := Lib.hid h0
                clear h0 RL
                go_wp2_with fail
                go_ret
                exact ⟨_, rfl, by rw [HR.out, ← HL2.out, ← HL3.out]; exact GX.out.1, GR.out.trans GX.out.2⟩
theorem SpecAll_all : ∀ (x : Cr), x.ok → SpecAll x :=
  Cr.induct fun k n m l ns ks qs ih ia h => by
    simp only [Cr.ok] at h
    exact SpecAll_of k n m l ns ks qs h.2.2.2.1.1 h.2.2.2.2.1 h.2.2.2.2.2.1 (alts_names h.2.2.2.2.2.2.2) (fun x hx => ih x hx (Cr.oks_mem h.2.2.2.2.2.2.1 x hx)) (fun a ha => ia a ha (Ca.body_ok (Ca.oks_mem h.2.2.2.2.2.2.2 a ha)))

end Go.Proofs.Ythidbmjdphfddaa
