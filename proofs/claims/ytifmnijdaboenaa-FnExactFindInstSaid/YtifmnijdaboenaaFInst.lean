/- Instances searched: what both answer; no condition. -/
import Derived.Test.YtifmnijdaboenaaApA
import Derived.Test.YtifmnijdaboenaaCpy
import Derived.Outline
namespace Go.Proofs.Ytifmnijdaboenaa
open Go.RowKit
set_option linter.unusedVariables false
set_option linter.unusedSimpArgs false

def fInst : List InstI → ByteArray → ByteArray → InstI
  | [], _, _ => ⟨⟨#[]⟩, ⟨#[]⟩, 0, []⟩
  | x :: xs, a, b => if (x.cls.toList == a.toList) = true ∧ (x.con.toList == b.toList) = true then x else fInst xs a b
theorem fInst_found {l : List InstI} {a b : ByteArray} {j : Nat} (hj : j < l.length) (h : fInst l a b = fInst (l.drop j) a b) (h1 : (l[j].cls.toList == a.toList) = true) (h2 : (l[j].con.toList == b.toList) = true) : fInst l a b = l[j] := by
  rw [h, List.drop_eq_getElem_cons hj, fInst, if_pos ⟨h1, h2⟩]
theorem fInst_next1 {l : List InstI} {a b : ByteArray} {j : Nat} (hj : j < l.length) (h : fInst l a b = fInst (l.drop j) a b) (h1 : (l[j].cls.toList == a.toList) = false) : fInst l a b = fInst (l.drop (j + 1)) a b := by
  rw [h, List.drop_eq_getElem_cons hj, fInst, if_neg (by rw [h1]; simp)]
theorem fInst_next2 {l : List InstI} {a b : ByteArray} {j : Nat} (hj : j < l.length) (h : fInst l a b = fInst (l.drop j) a b) (h2 : (l[j].con.toList == b.toList) = false) : fInst l a b = fInst (l.drop (j + 1)) a b := by
  rw [h, List.drop_eq_getElem_cons hj, fInst, if_neg (by rw [h2]; simp)]
theorem fInst_end {l : List InstI} {a b : ByteArray} (h : fInst l a b = fInst (l.drop l.length) a b) : fInst l a b = ⟨⟨#[]⟩, ⟨#[]⟩, 0, []⟩ := by rw [h, List.drop_length, fInst]
theorem fr_inst {B : Nat} {w : World} (x : InstI) {v : Value} (h : Fr B w (.slice 2 (predsD x.preds)) [v]) : Fr B w x.d [.string x.cls, .string x.con, .int .i64 x.vars, v] := by
  unfold InstI.d
  rw [fr_struct]
  exact frF_str (frF_str (frF_int (frF_last h)))
theorem infoSzInst : (Try.prog.info? 55).map (·.size) = some 4 := by kernel_rfl
theorem infoPred : (Try.prog.info? 193).map (fun i => (i.zero, i.size, i.bytes)) = some (some (.agg #[.string ⟨#[]⟩, .int .i64 0]), 2, 24) := by kernel_rfl

set_option maxRecDepth 100000 in
set_option maxHeartbeats 8000000 in
theorem specFInst (t : Tabs) (a b : ByteArray) (hl : t.insts.length ≤ 1048576) (hp : ∀ x ∈ t.insts, x.preds.length ≤ 1048576) (w : World) (cs : List Value) (h : Rd w t.d cs) :
    Calls Try.prog 24 #[.agg cs.toArray, .string a, .string b] w fun e w' => ∃ cs', e = .returned (.agg cs'.toArray) ∧ Fr w.heap.size w' (fInst t.insts a b).d cs' ∧ Below w.heap.size w w' := by
  unfold Tabs.d at h
  obtain ⟨AC, cC, AD, cD, AM, cM, AS, cS, AI, cI, rfl, _, _, _, _, hI⟩ := openTables h
  obtain ⟨A, c, he, _, _, hr⟩ := rd_slice1 hI
  injection he with he1 he2 he3
  obtain ⟨rfl, rfl⟩ : A = AI ∧ c = cI := ⟨he1.symm, he3.symm⟩
  simp only [List.length_map]
  have HR := Lib.hid (hr.below (by omega) (((Below.refl w.heap.size w).alloc (Nat.le_refl _) (.cells #[.slice AC t.cons.length cC, .slice AD t.datas.length cD, .slice AM t.methods.length cM, .slice AS t.classes.length cS, .slice A t.insts.length c] 40)).alloc (by simp) (.cells #[.string ⟨#[]⟩, .string ⟨#[]⟩, .int .i64 0, .slice none 0 0] 55)))
  have S1 := Lib.hid (blk_new (w.alloc (.cells #[.slice AC t.cons.length cC, .slice AD t.datas.length cD, .slice AM t.methods.length cM, .slice AS t.classes.length cS, .slice A t.insts.length c] 40)) (.cells #[.string ⟨#[]⟩, .string ⟨#[]⟩, .int .i64 0, .slice none 0 0] 55))
  have y4 : World.cell? ((w.alloc (.cells #[.slice AC t.cons.length cC, .slice AD t.datas.length cD, .slice AM t.methods.length cM, .slice AS t.classes.length cS, .slice A t.insts.length c] 40)).alloc (.cells #[.string ⟨#[]⟩, .string ⟨#[]⟩, .int .i64 0, .slice none 0 0] 55)) ⟨w.heap.size, 4, none⟩ = some (.slice A t.insts.length c) := (blk_cell (blk_old (blk_new w (.cells #[.slice AC t.cons.length cC, .slice AD t.datas.length cD, .slice AM t.methods.length cM, .slice AS t.classes.length cS, .slice A t.insts.length c] 40)) (.cells #[.string ⟨#[]⟩, .string ⟨#[]⟩, .int .i64 0, .slice none 0 0] 55)) 4).trans rfl
  have HP := Lib.hid hp
  clear hp
  generalize t.insts = l at *
  clear h hI hr he1 he2 he3
  rename_i q1 q2 q3 q4 q5 q6
  clear q1 q2 q3 q4 q5 q6
  go_enter Try.func24, Try.ntmps24
  go_wp2_with fail
  go_loop [7] (fun i => ∃ j : Nat, j ≤ l.length ∧ i = .int .i64 j ∧ Hid (fInst l a b = fInst (l.drop j) a b)) (fun i => l.length - (intOf i).toNat)
  case atStart => exact ⟨0, Nat.zero_le _, rfl, rfl⟩
  case round =>
    obtain ⟨j, hj, rfl, hf⟩ := hrel
    by_cases hlt : j < l.length
    · obtain ⟨b0, off, es, rfl, hcl, hrd, hc⟩ := HR.out.get (i := j) (x := l[j].d) (by simp [List.getElem?_eq_getElem hlt])
      have hpj := HP.out _ (List.getElem_mem hlt)
      have NEXT1 := Lib.hid (fInst_next1 (a := a) (b := b) hlt hf.out)
      have NEXT2 := Lib.hid (fInst_next2 (a := a) (b := b) hlt hf.out)
      have FOUND := Lib.hid (fInst_found (a := a) (b := b) hlt hf.out)
      clear hf
      generalize l[j] = x at *
      obtain ⟨AP, cP, rfl, hP⟩ := openInstInfo (show Rd _ (.struct [.str x.cls, .str x.con, .int .i64 x.vars, .slice 2 (predsD x.preds)]) es from hrd)
      have c0 : World.cell? _ ⟨b0, off + j * 4, none⟩ = some (.string x.cls) := hc 0 _ rfl
      have c1 : World.cell? _ ⟨b0, off + j * 4 + 1, none⟩ = some (.string x.con) := hc 1 _ rfl
      have c2 : World.cell? _ ⟨b0, off + j * 4 + 2, none⟩ = some (.int .i64 x.vars) := hc 2 _ rfl
      have c3 : World.cell? _ ⟨b0, off + j * 4 + 3, none⟩ = some (.slice AP (predsD x.preds).length cP) := hc 3 _ rfl
      have HPP := Lib.hid hP
      clear hc hcl hrd hP
      cases h1 : (x.cls.toList == a.toList)
      · have NX := Lib.hid (NEXT1.out h1)
        go_wp2
        go_round
        case rel => exact ⟨j + 1, by omega, by go_num, NX.out⟩
        case measure => simp [intOf]; omega
      cases h2 : (x.con.toList == b.toList)
      · have NX := Lib.hid (NEXT2.out h2)
        go_wp2
        go_round
        case rel => exact ⟨j + 1, by omega, by go_num, NX.out⟩
        case measure => simp [intOf]; omega
      have FD := Lib.hid (FOUND.out h1 h2)
      obtain ⟨ap, cp, he, _, hcm, hrp⟩ := rd_slice1 HPP.out
      injection he with e1 e2 e3
      subst e1 e3
      by_cases hz : x.preds = []
      · have hn0 : (predsD x.preds).length = 0 := by rw [hz]; rfl
        rw [hn0] at *
        clear e2 hrp HPP
        rcases AP with _ | ⟨b1, o1, f1⟩
        · go_wp2
          refine bodyPost_ret (v := .agg #[.string x.cls, .string x.con, .int .i64 x.vars, .slice (some ⟨w.heap.size + 1 + 1 + 1, 0, none⟩) 0 0]) (by simp [results, Try.results24, go_sem]) rfl ⟨[.string x.cls, .string x.con, .int .i64 x.vars, .slice (some ⟨w.heap.size + 1 + 1 + 1, 0, none⟩) 0 0], rfl, ?_, ?_⟩
          · rw [FD.out]
            exact fr_inst _ (by rw [hz]; exact fr_nil _ _ 2 _ 0 (Nat.zero_le _))
          · exact ((((Below.refl w.heap.size w).alloc (Nat.le_refl _) _).alloc (by simp) _).alloc (by simp <;> omega) _).alloc (by simp <;> omega) _
        · go_wp2
          refine bodyPost_ret (v := .agg #[.string x.cls, .string x.con, .int .i64 x.vars, .slice (some ⟨w.heap.size + 1 + 1 + 1, 0, none⟩) 0 0]) (by simp [results, Try.results24, go_sem]) rfl ⟨[.string x.cls, .string x.con, .int .i64 x.vars, .slice (some ⟨w.heap.size + 1 + 1 + 1, 0, none⟩) 0 0], rfl, ?_, ?_⟩
          · rw [FD.out]
            exact fr_inst _ (by rw [hz]; exact fr_nil _ _ 2 _ 0 (Nat.zero_le _))
          · exact ((((Below.refl w.heap.size w).alloc (Nat.le_refl _) _).alloc (by simp) _).alloc (by simp <;> omega) _).alloc (by simp <;> omega) _
      obtain ⟨bp, op, rfl, hpc⟩ := preds_cells hrp hz
      obtain ⟨vp, hvp⟩ : ∃ v, v = Value.slice (some ⟨bp, op, none⟩) (predsD x.preds).length cP := ⟨_, rfl⟩
      rw [← hvp] at c3
      have HVP := Lib.hid hvp
      have ONE : Hid ((#[.string x.cls, .string x.con, .int .i64 x.vars, vp] : Array Value).all (·.oneCell') = true) := by show _ = _; rw [hvp]; simp [Value.oneCell']
      clear hvp
      have HV : Hid (World.ownsRow ((((w.alloc (.cells #[.slice AC t.cons.length cC, .slice AD t.datas.length cD, .slice AM t.methods.length cM, .slice AS t.classes.length cS, .slice (some ⟨b0, off, none⟩) l.length c] 40)).alloc (.cells #[.string ⟨#[]⟩, .string ⟨#[]⟩, .int .i64 0, .slice none 0 0] 55)).alloc (.cells #[.string x.cls, .string x.con, .int .i64 x.vars, vp] 55)).alloc (.cells #[] 193)) w.heap.size 193 2 (.slice (some ⟨w.heap.size + 1 + 1 + 1, 0, none⟩) 0 0) 0 []) := ⟨rfl, .inr ⟨w.heap.size + 1 + 1 + 1, 0, #[], rfl, by omega, blk_new_g (by simp), Nat.le_refl _, by decide, rfl, rfl⟩⟩
      have HB : Hid (Below w.heap.size w ((((w.alloc (.cells #[.slice AC t.cons.length cC, .slice AD t.datas.length cD, .slice AM t.methods.length cM, .slice AS t.classes.length cS, .slice (some ⟨b0, off, none⟩) l.length c] 40)).alloc (.cells #[.string ⟨#[]⟩, .string ⟨#[]⟩, .int .i64 0, .slice none 0 0] 55)).alloc (.cells #[.string x.cls, .string x.con, .int .i64 x.vars, vp] 55)).alloc (.cells #[] 193))) := ((((Below.refl w.heap.size w).alloc (Nat.le_refl _) _).alloc (by simp) _).alloc (by simp <;> omega) _).alloc (by simp <;> omega) _
      have HG : Hid (CellsAt ((((w.alloc (.cells #[.slice AC t.cons.length cC, .slice AD t.datas.length cD, .slice AM t.methods.length cM, .slice AS t.classes.length cS, .slice (some ⟨b0, off, none⟩) l.length c] 40)).alloc (.cells #[.string ⟨#[]⟩, .string ⟨#[]⟩, .int .i64 0, .slice none 0 0] 55)).alloc (.cells #[.string x.cls, .string x.con, .int .i64 x.vars, vp] 55)).alloc (.cells #[] 193)) bp op (pcells x.preds)) := fun j u hu => cell_below (((Below.refl _ _).alloc (Nat.le_refl _) (.cells #[.string x.cls, .string x.con, .int .i64 x.vars, vp] 55)).alloc (by simp) (.cells #[] 193)) (hpc j u hu)
      have BC : Hid ((World.heap ((((w.alloc (.cells #[.slice AC t.cons.length cC, .slice AD t.datas.length cD, .slice AM t.methods.length cM, .slice AS t.classes.length cS, .slice (some ⟨b0, off, none⟩) l.length c] 40)).alloc (.cells #[.string ⟨#[]⟩, .string ⟨#[]⟩, .int .i64 0, .slice none 0 0] 55)).alloc (.cells #[.string x.cls, .string x.con, .int .i64 x.vars, vp] 55)).alloc (.cells #[] 193)))[w.heap.size + 1 + 1]? = some (.cells #[.string x.cls, .string x.con, .int .i64 x.vars, vp] 55 (0, 0))) := blk_old (blk_new_g (by simp)) _
      have BR : Hid ((World.heap ((((w.alloc (.cells #[.slice AC t.cons.length cC, .slice AD t.datas.length cD, .slice AM t.methods.length cM, .slice AS t.classes.length cS, .slice (some ⟨b0, off, none⟩) l.length c] 40)).alloc (.cells #[.string ⟨#[]⟩, .string ⟨#[]⟩, .int .i64 0, .slice none 0 0] 55)).alloc (.cells #[.string x.cls, .string x.con, .int .i64 x.vars, vp] 55)).alloc (.cells #[] 193)))[w.heap.size + 1]? = some (.cells #[.string ⟨#[]⟩, .string ⟨#[]⟩, .int .i64 0, .slice none 0 0] 55 (0, 0))) := blk_old (blk_old (blk_new_g (by simp)) _) _
      obtain ⟨i0, hi, hz0, hz1, hz2⟩ := info_parts infoPred
      have PN := Lib.hid (predsD_length x.preds)
      have PL := Lib.hid (pcells_length x.preds)
      have PZ : Hid (0 < x.preds.length) := List.length_pos_iff.2 hz
      clear hrp hpc HPP e2
      go_wp2_with (first | (refine wpl_store_new rfl 55 (.tmp 8) (.tmp 38) rfl _ #[.string x.cls, .string x.con, .int .i64 x.vars, vp] (show Value.pointer (some ⟨w.heap.size + 1 + 1, 0, none⟩) = _ by simp) rfl infoSzInst rfl ONE.out ?_) | (at_builtin; go_loud (refine wpl_app (w1 := w) rfl _ _ 53 rfl w.heap.size 193 i0 (.agg #[.string ⟨#[]⟩, .int .i64 0]) 2 24 Try.underlying53 hi hz0 hz1 hz2 rfl (by decide) (.slice (some ⟨w.heap.size + 1 + 1 + 1, 0, none⟩) 0 0) rfl HV.out HB.out (predsD x.preds) (pcells x.preds) (frF_preds _ _ _) (predsD_mem fun _ _ => rfl) (by rw [PN.out, PL.out]) (by rw [PN.out]; exact PZ.out) bp op cP HVP.out HG.out (by rw [PN.out]; omega) (by rw [PN.out]; omega) (Nat.le_refl _) ?_; intro v' w2 hfr hbw hgw; obtain ⟨A', c', rfl, _, hcm, _⟩ := (hfr w2 (Nat.le_refl _) (fun _ _ _ => rfl)).slice; have FR := Lib.hid hfr; have BW := Lib.hid hbw; have BR2 := Lib.hid ((hgw.block (w.heap.size + 1) (by simp <;> omega) (by simp [Value.ownBlock])).trans BR.out); have BC2 := Lib.hid ((hgw.block (w.heap.size + 1 + 1) (by simp <;> omega) (by simp [Value.ownBlock])).trans BC.out); have zr0 : World.cell? w2 ⟨w.heap.size + 1, 0, none⟩ = some (.string ⟨#[]⟩) := (blk_cell BR2.out 0).trans rfl; have zr1 : World.cell? w2 ⟨w.heap.size + 1, 1, none⟩ = some (.string ⟨#[]⟩) := (blk_cell BR2.out 1).trans rfl; have zr2 : World.cell? w2 ⟨w.heap.size + 1, 2, none⟩ = some (.int .i64 0) := (blk_cell BR2.out 2).trans rfl; have zr3 : World.cell? w2 ⟨w.heap.size + 1, 3, none⟩ = some (.slice none 0 0) := (blk_cell BR2.out 3).trans rfl; have zf0 := blk_frozen BR2.out 0; have zf1 := blk_frozen BR2.out 1; have zf2 := blk_frozen BR2.out 2; have zf3 := blk_frozen BR2.out 3; have zc0 : World.cell? w2 ⟨w.heap.size + 1 + 1, 0, none⟩ = some (.string x.cls) := (blk_cell BC2.out 0).trans rfl; have zc1 : World.cell? w2 ⟨w.heap.size + 1 + 1, 1, none⟩ = some (.string x.con) := (blk_cell BC2.out 1).trans rfl; have zc2 : World.cell? w2 ⟨w.heap.size + 1 + 1, 2, none⟩ = some (.int .i64 x.vars) := (blk_cell BC2.out 2).trans rfl; have zc3 : World.cell? w2 ⟨w.heap.size + 1 + 1, 3, none⟩ = some (vp) := (blk_cell BC2.out 3).trans rfl; have xf3 := blk_frozen BC2.out 3; clear hfr hbw hgw hcm)))
      refine bodyPost_ret (v := .agg #[.string x.cls, .string x.con, .int .i64 x.vars, .slice A' (predsD x.preds).length c']) (by simp [results, Try.results24, go_sem, zr0, zr1, zr2, zr3]) rfl ⟨[.string x.cls, .string x.con, .int .i64 x.vars, .slice A' (predsD x.preds).length c'], rfl, ?_, ?_⟩
      · rw [FD.out]
        refine fr_inst _ (FR.out _ (by simp [World.setCell]) fun k hk hc => ?_)
        have hne : k ≠ w.heap.size + 1 ∧ k ≠ w.heap.size + 1 + 1 := by
          rcases hc with hc | hc | hc
          · omega
          · simp [Value.ownBlock] at hc
            omega
          · simp at hc
            omega
        exact ((grown_set4 _ (w.heap.size + 1) _ _ _ _).block k (by simpa [World.setCell] using hk) (by simpa using hne.1)).trans (Below.heap_setCell w2 ⟨w.heap.size + 1 + 1, 3, none⟩ _ k hne.2)
      · exact ((((BW.out.setCell (by simp <;> omega) _).setCell (by simp) _).setCell (by simp) _).setCell (by simp) _).setCell (by simp) _
    · obtain rfl : j = l.length := by omega
      have END := Lib.hid (fInst_end hf.out)
      have S1 := S1.out
      have z0 := blk_cell S1 0
      have z1 := blk_cell S1 1
      have z2 := blk_cell S1 2
      have z3 := blk_cell S1 3
      have zf0 := blk_frozen S1 0
      have zf1 := blk_frozen S1 1
      have zf2 := blk_frozen S1 2
      have zf3 := blk_frozen S1 3
      clear S1 hf
      go_wp2
      refine bodyPost_ret (v := .agg #[.string ⟨#[]⟩, .string ⟨#[]⟩, .int .i64 0, .slice none 0 0]) (by simp [results, Try.results24, go_sem, z0, z1, z2, z3]) rfl ⟨[.string ⟨#[]⟩, .string ⟨#[]⟩, .int .i64 0, .slice none 0 0], rfl, ?_, ?_⟩
      · rw [END.out]
        exact fr_inst _ (fr_nil _ _ 2 none 0 (Nat.zero_le _))
      · exact ((Below.refl w.heap.size w).alloc (Nat.le_refl _) _).alloc (by simp) _

end Go.Proofs.Ytifmnijdaboenaa
