/- The program's shape of a core term: cases; no condition. -/
import Derived.Test.YthidbmjdphfddaaCfI5
namespace Go.Proofs.Ythidbmjdphfddaa
open Go Go.RowKit Go.Sort
set_option linter.unusedVariables false
set_option linter.unusedSimpArgs false

def altO (qs : List Ca) : Bool := qs.all fun a => okNames a.names
theorem altO_step {qs : List Ca} {j : Nat} (hj : j < qs.length) : altO (qs.drop j) = (okNames qs[j].names && altO (qs.drop (j + 1))) := by
  rw [List.drop_eq_getElem_cons hj, altO, List.all_cons]; rfl
theorem altsOk_eqO (qs : List Ca) : altsOk qs = (altO qs && okNames (qs.map Ca.con)) := rfl
theorem infoSzAlt : (Try.prog.info? 173).map (·.size) = some 9 := by kernel_rfl
structure Gat2 (w : World) (qs : List Ca) (j : Nat) (v : Value) (wr : World) : Prop where
  all : altO qs = altO (qs.drop j)
  row : Grow w.heap.size wr v 9 1 (strs ((qs.take j).map Ca.con))
  below : Below w.heap.size w wr

section
variable {W0 w : World} {b off : Nat} {n : ByteArray} {m : Bool} {l : List Int} {ns : List ByteArray} {nk : Nat} {qs : List Ca} {AL AN AK AA : Option Addr} {cL cN cK cA : Nat}
set_option maxRecDepth 100000 in
set_option maxHeartbeats 2000000 in
theorem fits8 (A : At W0 b off 8 n m l.length ns.length nk qs.length AL AN AK AA cL cN cK cA) (hb : Below W0.heap.size W0 w) (hk : nk ≤ 140737488351232) (hq : qs.length ≤ 1048576) (ho : Ca.oks qs) (hd : Rd W0 (.slice 9 (Ca.encs qs)) [.slice AA qs.length cA]) :
    Calls Try.prog 226 #[.agg #[.pointer (some ⟨b, off, none⟩)]] w (Says (fitP 8 n m l ns nk qs) w) := by
  have FIT : Hid (fitP 8 n m l ns nk qs ↔ ((ns.length == 0) = true ∧ (!m && l.length == 0) = true ∧ 1 ≤ nk ∧ nk ≤ 2 ∧ 2 ≤ nk + qs.length ∧ altsOk qs = true)) := by
    show _ ↔ _
    constructor
    · rintro ⟨h1, _, h3, h⟩
      have h1' := h1 (by decide)
      have h3' := h3 (by decide) (by decide)
      rcases h with h | h | h | h | h | h | h | ⟨_, g1, g2, g3, h⟩ | h | h
      all_goals first | exact absurd h.1 (by decide) | skip
      exact ⟨by simp [h3'], by simp [h1'.1, h1'.2], g1, g2, by omega, h⟩
    · rintro ⟨h1, h2, g1, g2, g3, h⟩
      simp only [beq_iff_eq] at h1
      simp only [Bool.and_eq_true, Bool.not_eq_true', beq_iff_eq] at h2
      exact ⟨fun _ => h2, fun h => absurd rfl h, fun _ _ => h1, .inr (.inr (.inr (.inr (.inr (.inr (.inr (.inl ⟨rfl, g1, g2, by omega, h⟩)))))))⟩
  obtain ⟨A', c', e, _, _, hr⟩ := rd_slice hd
  rw [Ca.encs_length] at e
  simp only [List.cons.injEq, Value.slice.injEq, and_true, true_and] at e
  obtain ⟨rfl, rfl⟩ := e
  have RA := Lib.hid hr
  have HO := Lib.hid ho
  obtain ⟨W, hW⟩ : ∃ W, W = w.alloc (.cells #[.pointer (some ⟨b, off, none⟩)] 241) := ⟨_, rfl⟩
  have HC0 := Lib.hid (below_al hb hb.size (.cells #[.pointer (some ⟨b, off, none⟩)] 241))
  have HB0 := Lib.hid (below_alloc1 w (.cells #[.pointer (some ⟨b, off, none⟩)] 241))
  have BX0 := Lib.hid (blk_new w (.cells #[.pointer (some ⟨b, off, none⟩)] 241))
  rw [← hW] at HC0 HB0 BX0
  have y5 := fun d os => cell_regrown (A.c5 _ HC0.out) d os
  have y6 := fun d os => cell_regrown (A.c6 _ HC0.out) d os
  have z0 := fun d os => cell_regrown (show W.cell? ⟨w.heap.size, 0, none⟩ = some (.pointer (some ⟨b, off, none⟩)) from (blk_cell BX0.out 0).trans rfl) d os
  have GW : Hid (∀ d os, Below W0.heap.size W0 (grow (redrawn W d) os)) := fun d os => HC0.out.trans ((below_regrown W d os).mono HC0.out.size)
  have NOA : Hid (∀ z, (ns.length == 0) = z → ∀ d os, Calls Try.prog 216 #[.agg #[.pointer (some ⟨b, off, none⟩)]] (grow (redrawn W d) os) fun e w' => e = .returned (.bool z) ∧ Below (grow (redrawn W d) os).heap.size (grow (redrawn W d) os) w') := fun z hz d os => cNoNames A (GW.out d os) z hz
  have NOB : Hid (∀ z, (!m && l.length == 0) = z → ∀ d os, Calls Try.prog 215 #[.agg #[.pointer (some ⟨b, off, none⟩)]] (grow (redrawn W d) os) fun e w' => e = .returned (.bool z) ∧ Below (grow (redrawn W d) os).heap.size (grow (redrawn W d) os) w') := fun z hz d os => cNoNumber A (GW.out d os) z hz
  obtain ⟨za, qa⟩ : ∃ z, (ns.length == 0) = z := ⟨_, rfl⟩
  obtain ⟨zb, qb⟩ : ∃ z, (!m && l.length == 0) = z := ⟨_, rfl⟩
  have NOA := Lib.hid (NOA.out za qa)
  have NOB := Lib.hid (NOB.out zb qb)
  rw [qa, qb] at FIT
  have HW := Lib.hid hW
  have AD := Lib.hid A
  have s1 : IntKind.i64.wrap ((nk : Int) + (qs.length : Int)) = (nk : Int) + (qs.length : Int) := IntWalk.i64_in _ (by omega)
  have s2 : (0 : Int) ≤ (nk : Int) + (qs.length : Int) := by omega
  clear A hb hd qa qb hW hr ho
  have CLOSE : Hid (∀ (wq : World) (r : Bool), Below W.heap.size W wq → (r = true ↔ fitP 8 n m l ns nk qs) → Says (fitP 8 n m l ns nk qs) w (.returned (.bool r)) wq) := fun wq r h1 h2 => says_of h2 (HB0.out.trans (h1.mono HB0.out.size))
  by_cases hbad : za = false ∨ (za = true ∧ zb = false) ∨ (za = true ∧ zb = true ∧ nk < 1) ∨ (za = true ∧ zb = true ∧ ¬ nk < 1 ∧ 2 < nk) ∨ (za = true ∧ zb = true ∧ ¬ nk < 1 ∧ ¬ 2 < nk ∧ nk + qs.length < 2)
  · have NO : Hid (¬ fitP 8 n m l ns nk qs) := by
      show ¬ _
      rw [FIT.out]
      rintro ⟨g1, g2, g3, g4, g5, _⟩
      rcases hbad with h | h | h | h | h
      · rw [h] at g1; cases g1
      · rw [h.2] at g2; cases g2
      all_goals omega
    clear FIT
    rcases hbad with rfl | ⟨rfl, rfl⟩ | ⟨rfl, rfl, hc⟩ | ⟨rfl, rfl, hc1, hc⟩ | ⟨rfl, rfl, hc1, hc2, hc⟩
    case' inr.inr.inl =>
      obtain rfl : nk = 0 := by omega
      clear hc
    case' inr.inr.inr.inl =>
      have f1 : ¬ (nk : Int) < 1 := by omega
      have f2 : (2 : Int) < (nk : Int) := by omega
      have f1' : decide ((nk : Int) < 1) = false := by simpa using f1
      have f2' : decide ((2 : Int) < (nk : Int)) = true := by simpa using f2
    case' inr.inr.inr.inr =>
      have f1 : ¬ (nk : Int) < 1 := by omega
      have f2 : ¬ (2 : Int) < (nk : Int) := by omega
      have f3 : (nk : Int) + (qs.length : Int) < 2 := by omega
      have f1' : decide ((nk : Int) < 1) = false := by simpa using f1
      have f2' : decide ((2 : Int) < (nk : Int)) = false := by simpa using f2
      have f3' : decide ((nk : Int) + (qs.length : Int) < 2) = true := by simpa using f3
    all_goals (
      go_enter Try.func226, Try.ntmps226
      go_wp2_with fail
      simp only [← HW.out]
      refine wp_region_quiet_below (by kernel_rfl) (by kernel_rfl) ?_
      repeat (first | go_big_quiet_skip | quiet_step (first | (go_at_call 216; exact Calls.regrown_of (NOA.out _ _)) | (go_at_call 215; exact Calls.regrown_of (NOB.out _ _))))
      refine wpQuiet_nil ?_
      intro _ hw'
      obtain ⟨⟨dq, osq⟩, hw''⟩ := hw'
      subst hw''
      have HBQ := Lib.hid (below_regrown W dq osq)
      clear y5 y6 z0 s1 s2
      generalize grow (redrawn W dq) osq = wq at *
      go_wp2
      go_ret
      exact CLOSE.out _ _ HBQ.out (iff_of_false (by decide) NO.out))
  · have hgood : za = true ∧ zb = true ∧ ¬ nk < 1 ∧ ¬ 2 < nk ∧ ¬ nk + qs.length < 2 := by
      refine ⟨?_, ?_, ?_, ?_, ?_⟩
      all_goals (cases za <;> cases zb <;> simp at hbad ⊢)
      all_goals omega
    obtain ⟨rfl, rfl, g1, g2, g3⟩ := hgood
    have FI2 : Hid (fitP 8 n m l ns nk qs ↔ altsOk qs = true) := by
      show _ ↔ _
      rw [FIT.out]
      simp only [true_and]
      constructor
      · intro h; exact h.2.2.2
      · intro h; exact ⟨by omega, by omega, by omega, h⟩
    clear FIT hbad
    have f1 : ¬ (nk : Int) < 1 := by omega
    have f2 : ¬ (2 : Int) < (nk : Int) := by omega
    have f3 : ¬ (nk : Int) + (qs.length : Int) < 2 := by omega
    have f1' : decide ((nk : Int) < 1) = false := by simpa using f1
    have f2' : decide ((2 : Int) < (nk : Int)) = false := by simpa using f2
    have f3' : decide ((nk : Int) + (qs.length : Int) < 2) = false := by simpa using f3
    clear g1 g2 g3
    go_enter Try.func226, Try.ntmps226
    go_wp2_with fail
    simp only [← HW.out]
    refine wp_region_quiet_below (by kernel_rfl) (by kernel_rfl) ?_
    repeat (first | go_big_quiet_skip | quiet_step (first | (go_at_call 216; exact Calls.regrown_of (NOA.out _ _)) | (go_at_call 215; exact Calls.regrown_of (NOB.out _ _))))
    refine wpQuiet_nil ?_
    intro _ hw'
    obtain ⟨⟨dq, osq⟩, hw''⟩ := hw'
    subst hw''
    have HBQ := Lib.hid (below_regrown W dq osq)
    clear y5 y6 z0 s1 s2
    generalize grow (redrawn W dq) osq = wq at *
    have HCQ := Lib.hid (HC0.out.trans (HBQ.out.mono HC0.out.size))
    have y6 := AD.out.c6 _ (below_al HCQ.out HCQ.out.size (.cells #[] 9))
    have BXQ := Lib.hid (blk_old (blk_below BX0.out HBQ.out) (.cells #[] 9))
    have z0 : World.cell? (wq.alloc (.cells #[] 9)) ⟨w.heap.size, 0, none⟩ = some (.pointer (some ⟨b, off, none⟩)) := (blk_cell BXQ.out 0).trans rfl
    have START : Hid (Gat2 W qs 0 (.slice (some ⟨wq.heap.size, 0, none⟩) 0 0) (wq.alloc (.cells #[] 9))) := ⟨by simp, by simpa [strs] using grow_made wq 9 1 HBQ.out.size, HBQ.out.alloc HBQ.out.size _⟩
    go_wp2_with fail
    clear y6 z0 f1 f2 f3 f1' f2' f3'
    go_loopw [3, 62] (fun v i wr => ∃ j : Nat, j ≤ qs.length ∧ i = .int .i64 j ∧ Hid (Gat2 W qs j v wr)) (fun _ i _ => qs.length - (intOf i).toNat)
    case atStart => exact ⟨0, Nat.zero_le _, rfl, START⟩
    case round =>
      obtain ⟨j, hj, rfl, hrel⟩ := hrel
      have G := Lib.hid hrel.out
      clear hrel START
      have HCr := Lib.hid (HC0.out.trans (G.out.below.mono HC0.out.size))
      by_cases hlt : j < qs.length
      · obtain ⟨bb, oo, es, rfl, hcl, hrd, hc⟩ := RA.out.get (i := j) (x := qs[j].enc) (by simp [Ca.encs_map, List.getElem?_eq_getElem hlt])
        have hone : es.toArray.all (·.oneCell') = true := by
          obtain ⟨fp, hf⟩ := hrd
          exact all_oneCell_toArray (D.K_one _ hf)
        obtain ⟨nv, bs, rfl, hbl, hnv, _⟩ := Ca.openB hrd
        obtain ⟨u0, u1, u2, u3, u4, u5, u6, rfl⟩ := cells7 hbl
        have e0 : wr.cell? ⟨bb, oo + j * 9, none⟩ = some (.string qs[j].con) := cell_below HCr.out (by simpa using hc 0 _ rfl)
        have e1 : wr.cell? ⟨bb, oo + j * 9 + 1, none⟩ = some nv := cell_below HCr.out (hc 1 _ rfl)
        have e2 : wr.cell? ⟨bb, oo + j * 9 + 2, none⟩ = some u0 := cell_below HCr.out (hc 2 _ rfl)
        have e3 : wr.cell? ⟨bb, oo + j * 9 + 3, none⟩ = some u1 := cell_below HCr.out (hc 3 _ rfl)
        have e4 : wr.cell? ⟨bb, oo + j * 9 + 4, none⟩ = some u2 := cell_below HCr.out (hc 4 _ rfl)
        have e5 : wr.cell? ⟨bb, oo + j * 9 + 5, none⟩ = some u3 := cell_below HCr.out (hc 5 _ rfl)
        have e6 : wr.cell? ⟨bb, oo + j * 9 + 6, none⟩ = some u4 := cell_below HCr.out (hc 6 _ rfl)
        have e7 : wr.cell? ⟨bb, oo + j * 9 + 7, none⟩ = some u5 := cell_below HCr.out (hc 7 _ rfl)
        have e8 : wr.cell? ⟨bb, oo + j * 9 + 8, none⟩ = some u6 := cell_below HCr.out (hc 8 _ rfl)
        have hok := Ca.oks_mem HO.out _ (List.getElem_mem hlt)
        have hnm : qs[j].names.length ≤ 140737488351232 ∧ ∀ x ∈ qs[j].names, x.size ≤ 140737488351232 := by
          generalize qs[j] = a at hok
          cases a
          simp only [Ca.ok] at hok
          exact hok.2.1
        have CT : Hid (∀ w1, Below W0.heap.size W0 w1 → Calls Try.prog 224 #[nv] w1 (Ret (okNames qs[j].names) w1)) := fun w1 h1 => implUnlike _ hnm.1 hnm.2 w1 _ (hnv.below h1)
        obtain ⟨An, cn, hnvE, _, _, _⟩ := open_strs hnv
        have NVE := Lib.hid hnvE
        have AS := Lib.hid (altO_step hlt)
        have TK := Lib.hid (con_take hlt)
        have ONE := Lib.hid hone
        clear hrd hc hcl hbl hnv hok hnm hone hnvE
        generalize qs[j].con = x at *
        generalize okNames qs[j].names = g at *
        have i0 : (0 : Int) ≤ (j : Int) := Int.natCast_nonneg _
        have i1 : (j : Int) < (qs.length : Int) := by omega
        have BX := Lib.hid (blk_new wr (.cells #[.string x, nv, u0, u1, u2, u3, u4, u5, u6] 173))
        have AB := Lib.hid (below_alloc1 wr (.cells #[.string x, nv, u0, u1, u2, u3, u4, u5, u6] 173))
        have SZ : Hid ((wr.alloc (.cells #[.string x, nv, u0, u1, u2, u3, u4, u5, u6] 173)).heap.size = wr.heap.size + 1) := by simp [Hid]
        have GR := Lib.hid (G.out.row.below AB.out)
        have NEW := Lib.hid G.out.row.new_ne
        obtain ⟨i0', hi, hz0, hz1, hz2⟩ := info_parts infoStr
        have t0 : World.cell? (wr.alloc (.cells #[.string x, nv, u0, u1, u2, u3, u4, u5, u6] 173)) ⟨wr.heap.size, 0, none⟩ = some (.string x) := (blk_cell BX.out 0).trans rfl
        have ALB := Lib.hid (below_alloc1 (wr.alloc (.cells #[.string x, nv, u0, u1, u2, u3, u4, u5, u6] 173)) (.cells #[.string x] 9))
        have CA := Lib.hid (cellsAt_new (wr.alloc (.cells #[.string x, nv, u0, u1, u2, u3, u4, u5, u6] 173)) [.string x] 9)
        rw [SZ.out] at CA
        have LE : Hid ((strs ((qs.take j).map Ca.con)).length ≤ 1048576) := by show _ ≤ _; rw [strs_length, List.length_map]; exact Nat.le_trans (List.length_take_le _ _) (by omega)
        have BW : Hid (W.heap.size ≤ (wr.alloc (.cells #[.string x, nv, u0, u1, u2, u3, u4, u5, u6] 173)).heap.size) := Nat.le_trans G.out.below.size AB.out.size
        go_wp2_with (first
          | (refine wpl_store_new rfl 173 (.tmp 5) (.tmp 65) rfl _ #[.string x, nv, u0, u1, u2, u3, u4, u5, u6] rfl rfl infoSzAlt rfl ONE.out ?_)
          | (at_builtin; refine wpl_push rfl _ _ 25 rfl W.heap.size 9 i0' (.string ⟨#[]⟩) 1 16 Try.underlying25 hi hz0 hz1 hz2 rfl (by decide) _ _ rfl GR.out ALB.out (.str x) [.string x] (fr_str _ _ _) rfl (wr.heap.size + 1) 1 rfl CA.out (by have := LE.out; omega) (by have := LE.out; omega) BW.out ?_; intro v' w2 hg' hgr' _; have HG2 := Lib.hid hg'; have GR2 := Lib.hid hgr'; have BK2 := Lib.hid (hgr'.blk (blk_old BX.out _) NEW.out); have B2 := Lib.hid (hgr'.below (G.out.below.trans ((AB.out.trans (ALB.out.mono AB.out.size)).mono G.out.below.size)) (Nat.le_trans BW.out ALB.out.size) (fun q hq => (GR.out.bound q hq).1)); have t1 : World.cell? w2 ⟨wr.heap.size, 1, none⟩ = some nv := (blk_cell BK2.out 1).trans rfl; clear hg' hgr'))
        refine (CT.out _ (HC0.out.trans (B2.out.mono HC0.out.size))).mono ?_
        rintro e w3 ⟨rfl, hb3⟩
        have HB3 := Lib.hid hb3
        have B3 := Lib.hid (B2.out.trans (hb3.mono B2.out.size))
        clear hb3 t1 t0
        cases g
        · go_wp2_with fail
          go_ret
          refine CLOSE.out _ _ B3.out ?_
          rw [FI2.out, altsOk_eqO, G.out.all, AS.out]
          simp
        · go_wp2
          go_roundw
          case rel => exact ⟨j + 1, by omega, by go_num, Lib.hid ⟨by rw [G.out.all, AS.out]; rfl, by rw [TK.out, strs_snoc]; exact HG2.out.below HB3.out, B3.out⟩⟩
          case measure => simp [intOf]; omega
      · obtain rfl : j = qs.length := by omega
        have hfr := G.out.row.fr.rd
        have ha := G.out.all
        rw [List.drop_length] at ha
        rw [List.take_length] at hfr
        have AL1 := Lib.hid ha
        obtain ⟨A2, c2, rfl, _, _, _⟩ := open_strs hfr
        rw [List.length_map] at hfr
        have hcs : ∀ x ∈ qs.map Ca.con, x.size ≤ 140737488351232 := fun x hx => by
          obtain ⟨a, ham, rfl⟩ := List.mem_map.1 hx
          have := Ca.oks_mem HO.out a ham
          cases a
          simp only [Ca.ok] at this
          exact this.1
        have CT := Lib.hid (implUnlike (qs.map Ca.con) (by rw [List.length_map]; omega) hcs wr _ hfr)
        clear ha hfr hcs
        go_wp2_with fail
        refine CT.out.mono ?_
        rintro e w1 ⟨rfl, hb⟩
        have B2 := Lib.hid (G.out.below.trans (hb.mono G.out.below.size))
        clear hb CT
        go_wp2
        go_ret
        refine CLOSE.out _ _ B2.out ?_
        rw [FI2.out, altsOk_eqO, AL1.out]
        simp [altO]
end
end Go.Proofs.Ythidbmjdphfddaa
