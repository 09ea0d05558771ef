/- Constructors searched: what the program answers; no condition. -/
import Derived.Test.YtifmnijdaboenaaFCon
import Derived.Test.YtifmnijdaboenaaCpyI
namespace Go.Proofs.Ytifmnijdaboenaa
open Go.RowKit
set_option linter.unusedVariables false
set_option linter.unusedSimpArgs false

theorem Fd.store {w wr : World} {Z G B : Nat} {cz : Array Value} {c0 c1 c2 c3 v v' : Value} {ys : List D} (h : Fd w Z G B cz #[c0, c1, c2, c3, v] v' ys wr) (hz : Z ≠ G) (hG : w.heap.size ≤ G) : Fd w Z G B cz #[c0, c1, c2, c3, v'] v' ys (wr.setCell ⟨G, 4, none⟩ v') :=
  ⟨h.below.setCell hG _, blk_far h.zero (p := ⟨G, 4, none⟩) (by first | exact hz | exact hz.symm) _, (blk_set h.cpy 4 v').trans rfl, h.grow.grown grownBy_set (fun g hg => by injection hg with hg; subst hg; exact h.gb), by simpa [World.setCell] using h.size, h.zb, h.gb, h.wb⟩

set_option maxRecDepth 100000 in
set_option maxHeartbeats 8000000 in
theorem implFCon (t : Tabs) (a : ByteArray) (hl : t.cons.length ≤ 1048576) (hp : ∀ x ∈ t.cons, x.fields.length ≤ 1048576 ∧ ∀ y ∈ x.fields, y.enc.bulk ≤ 1048576) (w : World) (cs : List Value) (h : Rd w t.d cs) :
    Calls Try.prog 31 #[.agg cs.toArray, .string a] w fun e w' => ∃ cs', e = .returned (.agg cs'.toArray) ∧ Fr w.heap.size w' (fCon t.cons a).d cs' ∧ Below w.heap.size w w' := by
  unfold Tabs.d at h
  obtain ⟨AC, cC, AD, cD, AM, cM, AS, cS, AI, cI, rfl, hC, _, _, _, _⟩ := openTables h
  obtain ⟨A, c, he, _, _, hr⟩ := rd_slice1 hC
  injection he with he1 he2 he3
  obtain ⟨rfl, rfl⟩ : A = AC ∧ c = cC := ⟨he1.symm, he3.symm⟩
  simp only [List.length_map]
  have HR := Lib.hid hr
  have S1 := Lib.hid (show (World.heap ((w.alloc (.cells #[.slice A t.cons.length c, .slice AD t.datas.length cD, .slice AM t.methods.length cM, .slice AS t.classes.length cS, .slice AI t.insts.length cI] 40)).alloc (.cells #[.string ⟨#[]⟩, .string ⟨#[]⟩, .int .i64 0, .int .i64 0, .slice none 0 0] 63)))[w.heap.size + 1]? = some (.cells #[.string ⟨#[]⟩, .string ⟨#[]⟩, .int .i64 0, .int .i64 0, .slice none 0 0] 63 (0, 0)) from blk_new_g (by simp))
  have B1 := Lib.hid (show Below w.heap.size w ((w.alloc (.cells #[.slice A t.cons.length c, .slice AD t.datas.length cD, .slice AM t.methods.length cM, .slice AS t.classes.length cS, .slice AI t.insts.length cI] 40)).alloc (.cells #[.string ⟨#[]⟩, .string ⟨#[]⟩, .int .i64 0, .int .i64 0, .slice none 0 0] 63)) from ((Below.refl w.heap.size w).alloc (Nat.le_refl _) _).alloc (by simp) _)
  have HP := Lib.hid hp
  clear hp
  generalize t.cons = l at *
  clear h hC hr he1 he2 he3
  rename_i q1 q2 q3 q4 q5 q6
  clear q1 q2 q3 q4 q5 q6
  go_enter Try.func31, Try.ntmps31
  go_wp2_with fail
  go_loopw [13] (fun i wr => ∃ j : Nat, j ≤ l.length ∧ i = .int .i64 j ∧ Hid (Below w.heap.size w wr) ∧ Hid (wr.heap[w.heap.size + 1]? = some (.cells #[.string ⟨#[]⟩, .string ⟨#[]⟩, .int .i64 0, .int .i64 0, .slice none 0 0] 63 (0, 0))) ∧ Hid (fCon l a = fCon (l.drop j) a)) (fun i _ => l.length - (intOf i).toNat)
  case atStart => exact ⟨0, Nat.zero_le _, rfl, B1.out, S1.out, rfl⟩
  case round =>
    clear S1 B1
    obtain ⟨j, hj, rfl, HB, HK, hf⟩ := hrel
    generalize wr = wo at *
    by_cases hlt : j < l.length
    · obtain ⟨b0, off, es, rfl, hcl, hrd, hc⟩ := HR.out.get (i := j) (x := l[j].d) (by simp [List.getElem?_eq_getElem hlt])
      have hpj := HP.out _ (List.getElem_mem hlt)
      have NEXT := Lib.hid (fCon_next (a := a) hlt hf.out)
      have FOUND := Lib.hid (fCon_found (a := a) hlt hf.out)
      clear hf
      generalize l[j] = x at *
      obtain ⟨AF, cF, rfl, hP⟩ := openConInfo (show Rd _ (.struct [.str x.name, .str x.data, .int .i64 x.tag, .int .i64 x.vars, .slice 4 (Ty.encs x.fields)]) es from hrd)
      rw [Ty.encs_length] at hc
      have c0 := cell_below (p := ⟨b0, off + j * 5, none⟩) (v := .string x.name) HB.out (by simpa using hc 0 _ rfl)
      have c1 := cell_below (p := ⟨b0, off + j * 5 + 1, none⟩) (v := .string x.data) HB.out (hc 1 _ rfl)
      have c2 := cell_below (p := ⟨b0, off + j * 5 + 2, none⟩) (v := .int .i64 x.tag) HB.out (hc 2 _ rfl)
      have c3 := cell_below (p := ⟨b0, off + j * 5 + 3, none⟩) (v := .int .i64 x.vars) HB.out (hc 3 _ rfl)
      have c4 := cell_below (p := ⟨b0, off + j * 5 + 4, none⟩) (v := .slice AF x.fields.length cF) HB.out (hc 4 _ rfl)
      obtain ⟨ap, cp, he, _, hcm, hrp⟩ := rd_slice1 hP
      injection he with e1 e2 e3
      subst e1 e3
      have HRP := Lib.hid hrp
      have sz := blk_lt HK.out
      have szl := HB.out.size
      clear hc hcl hrd hP hrp e2
      cases h1 : (x.name.toList == a.toList)
      · have NX := Lib.hid (NEXT.out h1)
        go_wp2
        go_roundw
        case rel => exact ⟨j + 1, by omega, by go_num, HB.out.alloc (by omega) _, blk_old HK.out _, NX.out⟩
        case measure => simp [intOf]; omega
      have FDX := Lib.hid (FOUND.out h1)
      have FD0 : Hid (Fd w (w.heap.size + 1) (wo.heap.size + 1) (wo.heap.size + 1 + 1) #[.string ⟨#[]⟩, .string ⟨#[]⟩, .int .i64 0, .int .i64 0, .slice none 0 0] #[.string x.name, .string x.data, .int .i64 x.tag, .int .i64 x.vars, .slice none 0 0] (.slice none 0 0) [] ((wo.alloc (.cells #[.string x.name, .string x.data, .int .i64 x.tag, .int .i64 x.vars, .slice AF x.fields.length cF] 63)).alloc (.cells #[.string x.name, .string x.data, .int .i64 x.tag, .int .i64 x.vars, .slice none 0 0] 63))) :=
        ⟨(HB.out.alloc szl _).alloc (by simp <;> omega) _, blk_old (blk_old HK.out _) _, blk_new_g (by simp), Grow.nil _ _ _ _, by simp, by omega, by omega, by omega⟩
      have ZG : Hid (w.heap.size + 1 ≠ wo.heap.size + 1) := show _ ≠ _ by omega
      have WG : Hid (w.heap.size ≤ wo.heap.size + 1) := show _ ≤ _ by omega
      go_wp2_with fail
      clear c0 c1 c2 c3 c4
      go_loopw [26] (fun i wr => ∃ k : Nat, k ≤ x.fields.length ∧ i = .int .i64 k ∧ Hid (∃ v, Fd w (w.heap.size + 1) (wo.heap.size + 1) (wo.heap.size + 1 + 1) #[.string ⟨#[]⟩, .string ⟨#[]⟩, .int .i64 0, .int .i64 0, .slice none 0 0] #[.string x.name, .string x.data, .int .i64 x.tag, .int .i64 x.vars, v] v (Ty.encs (x.fields.take k)) wr)) (fun i _ => x.fields.length - (intOf i).toNat)
      case atStart => exact ⟨0, Nat.zero_le _, rfl, Lib.hid ⟨_, FD0.out⟩⟩
      case round =>
        obtain ⟨k, hk, rfl, hrel⟩ := hrel
        obtain ⟨v, hfd⟩ := hrel.out
        have FD := Lib.hid hfd
        clear hrel hfd
        have y4 : wr.cell? ⟨wo.heap.size + 1, 4, none⟩ = some v := (blk_cell FD.out.cpy 4).trans rfl
        by_cases hlk : k < x.fields.length
        · obtain ⟨b1, of1, es1, rfl, hcl1, hrd1, hc1⟩ := HRP.out.get (i := k) (x := x.fields[k].enc) (by simp [Ty.encs_map, List.getElem?_eq_getElem hlk])
          have hes : ∃ (k' d' : Int) (n' : ByteArray) (A' : Option Addr) (l' c' : Nat), es1 = [.int .i64 k', .int .i64 d', .string n', .slice A' l' c'] := by
            generalize x.fields[k] = y at hrd1
            cases y with
            | mk k' d' n' ks' =>
              obtain ⟨A', c', rfl, _⟩ := Ty.open_ hrd1
              exact ⟨_, _, _, _, _, _, rfl⟩
          obtain ⟨k', d', n', A1, l1, c1, rfl⟩ := hes
          have e0 : wr.cell? ⟨b1, of1 + k * 4, none⟩ = some (.int .i64 k') := cell_below FD.out.below (by simpa using hc1 0 _ rfl)
          have e1 : wr.cell? ⟨b1, of1 + k * 4 + 1, none⟩ = some (.int .i64 d') := cell_below FD.out.below (hc1 1 _ rfl)
          have e2 : wr.cell? ⟨b1, of1 + k * 4 + 2, none⟩ = some (.string n') := cell_below FD.out.below (hc1 2 _ rfl)
          have e3 : wr.cell? ⟨b1, of1 + k * 4 + 3, none⟩ = some (.slice A1 l1 c1) := cell_below FD.out.below (hc1 3 _ rfl)
          have AX := Lib.hid (below_alloc1 wr (.cells #[.int .i64 k', .int .i64 d', .string n', .slice A1 l1 c1] 97))
          have RD := Lib.hid ((hrd1.below FD.out.below).below AX.out)
          have BX := Lib.hid (FD.out.more AX.out)
          have SX := Lib.hid (blk_new wr (.cells #[.int .i64 k', .int .i64 d', .string n', .slice A1 l1 c1] 97))
          have TK := Lib.hid (show Ty.encs (x.fields.take (k + 1)) = Ty.encs (x.fields.take k) ++ [x.fields[k].enc] by rw [List.take_succ_eq_append_getElem hlk, Ty.encs_snoc])
          have LN := Lib.hid (show (Ty.encs (x.fields.take k)).length = k by rw [Ty.encs_length, List.length_take]; omega)
          have LN1 := Lib.hid (show (Ty.encs (x.fields.take k) ++ [x.fields[k].enc]).length = k + 1 by rw [List.length_append, LN.out]; rfl)
          have IHJ := Lib.hid (implCopy x.fields[k] (hpj.2 _ (List.getElem_mem hlk)))
          obtain ⟨i0, hi, hz0, hz1, hz2⟩ := info_parts infoTyp
          have hpl := hpj.1
          have i1 : (0 : Int) ≤ (k : Int) := Int.natCast_nonneg _
          have i2 : (k : Int) < (x.fields.length : Int) := by omega
          clear hcl1 hrd1 hc1 hpj
          go_wp2_with fail
          generalize hwx : wr.alloc (.cells #[.int .i64 k', .int .i64 d', .string n', .slice A1 l1 c1] 97) = wx at *
          have x0 : wx.cell? ⟨wr.heap.size, 0, none⟩ = some (.int .i64 k') := (blk_cell SX.out 0).trans rfl
          have x1 : wx.cell? ⟨wr.heap.size, 1, none⟩ = some (.int .i64 d') := (blk_cell SX.out 1).trans rfl
          have x2 : wx.cell? ⟨wr.heap.size, 2, none⟩ = some (.string n') := (blk_cell SX.out 2).trans rfl
          have x3' : wx.cell? ⟨wr.heap.size, 3, none⟩ = some (.slice A1 l1 c1) := (blk_cell SX.out 3).trans rfl
          have y4x : wx.cell? ⟨wo.heap.size + 1, 4, none⟩ = some v := (blk_cell BX.out.cpy 4).trans rfl
          clear hwx AX SX e0 e1 e2 e3
          go_region_law (first
            | (go_simp; go_at_call 91; have CT := IHJ.out wx.drew _ (RD.out.below (Below.refl _ _).drew); (with_reducible refine CT.mono ?_); clear CT; rintro e w1 ⟨cs', rfl, hfr, hb⟩; obtain ⟨t0, t1, t2, t3, rfl⟩ := cells4 (hfr.len.trans (Ty.n _)); have BW1 := Lib.hid ((Below.refl wx.heap.size wx).drew.trans hb); have FR := Lib.hid hfr; have BW2 := Lib.hid (BW1.out.alloc BW1.out.size (.cells #[t0, t1, t2, t3] 97)); have AL := Lib.hid (below_alloc1 w1 (.cells #[t0, t1, t2, t3] 97)); have CA := Lib.hid (cellsAt_new w1 [t0, t1, t2, t3] 97); have D1 := Lib.hid (BX.out.more BW1.out); have D2 := Lib.hid (BX.out.more BW2.out); have y3 : World.cell? _ ⟨wo.heap.size + 1, 4, none⟩ = some v := (blk_cell D1.out.cpy 4).trans rfl; have y3b : World.cell? _ ⟨wo.heap.size + 1, 4, none⟩ = some v := (blk_cell D2.out.cpy 4).trans rfl; clear hfr hb)
            | (refine step_push rfl _ _ 61 rfl (wo.heap.size + 1 + 1) 97 i0 (.agg #[.int .i64 0, .int .i64 0, .string ⟨#[]⟩, .slice none 0 0]) 4 56 Try.underlying61 hi hz0 hz1 hz2 rfl (by decide) v (Ty.encs (x.fields.take k)) rfl BX.out.grow BW2.out x.fields[k].enc [t0, t1, t2, t3] (FR.out.below AL.out) (Ty.n _) w1.heap.size 1 rfl CA.out (by rw [LN.out]; omega) (by rw [LN.out]; omega) BX.out.size ?_; intro v' w2 hg' hgr' _; have B1 := Lib.hid ((BX.out.more BW2.out).push hg' hgr'); obtain ⟨A', c', hv', _, _, _⟩ := hg'.form; rw [LN1.out] at hv'; subst hv'; have x3 : World.cell? _ ⟨wo.heap.size + 1, 4, none⟩ = some v := (blk_cell B1.out.cpy 4).trans rfl; have xf : World.frozen? _ ⟨wo.heap.size + 1, 4, none⟩ = false := blk_frozen B1.out.cpy 4; clear hg' hgr'))
          all_goals
            go_wp2
            go_roundw
            case rel => exact ⟨k + 1, by omega, by go_num, Lib.hid ⟨_, by rw [TK.out]; exact B1.out.store ZG.out WG.out⟩⟩
            case measure => simp [intOf]; omega
        · obtain rfl : k = x.fields.length := by omega
          have hg := FD.out.grow
          rw [List.take_length] at hg
          obtain ⟨A', c', hv', _, _, _⟩ := hg.form
          rw [Ty.encs_length] at hv'
          subst hv'
          have HG := Lib.hid hg.fr
          clear hg
          have zr0 : wr.cell? ⟨w.heap.size + 1, 0, none⟩ = some (.string ⟨#[]⟩) := (blk_cell FD.out.zero 0).trans rfl
          have zf0 := blk_frozen FD.out.zero 0
          have zr1 : wr.cell? ⟨w.heap.size + 1, 1, none⟩ = some (.string ⟨#[]⟩) := (blk_cell FD.out.zero 1).trans rfl
          have zf1 := blk_frozen FD.out.zero 1
          have zr2 : wr.cell? ⟨w.heap.size + 1, 2, none⟩ = some (.int .i64 0) := (blk_cell FD.out.zero 2).trans rfl
          have zf2 := blk_frozen FD.out.zero 2
          have zr3 : wr.cell? ⟨w.heap.size + 1, 3, none⟩ = some (.int .i64 0) := (blk_cell FD.out.zero 3).trans rfl
          have zf3 := blk_frozen FD.out.zero 3
          have zr4 : wr.cell? ⟨w.heap.size + 1, 4, none⟩ = some (.slice none 0 0) := (blk_cell FD.out.zero 4).trans rfl
          have zf4 := blk_frozen FD.out.zero 4
          have zc0 : wr.cell? ⟨wo.heap.size + 1, 0, none⟩ = some (.string x.name) := (blk_cell FD.out.cpy 0).trans rfl
          have zc1 : wr.cell? ⟨wo.heap.size + 1, 1, none⟩ = some (.string x.data) := (blk_cell FD.out.cpy 1).trans rfl
          have zc2 : wr.cell? ⟨wo.heap.size + 1, 2, none⟩ = some (.int .i64 x.tag) := (blk_cell FD.out.cpy 2).trans rfl
          have zc3 : wr.cell? ⟨wo.heap.size + 1, 3, none⟩ = some (.int .i64 x.vars) := (blk_cell FD.out.cpy 3).trans rfl
          go_wp2
          refine bodyPost_ret (v := .agg #[.string x.name, .string x.data, .int .i64 x.tag, .int .i64 x.vars, .slice A' x.fields.length c']) (by simp [results, Try.results31, go_sem, zr0, zr1, zr2, zr3, zr4]) rfl ⟨[.string x.name, .string x.data, .int .i64 x.tag, .int .i64 x.vars, .slice A' x.fields.length c'], rfl, ?_, ?_⟩
          · rw [FDX.out]
            refine fr_con _ ?_
            exact (((((HG.out.set (by simp <;> omega) _).set (by simp <;> omega) _).set (by simp <;> omega) _).set (by simp <;> omega) _).set (by simp <;> omega) _).lower (by omega)
          · exact ((((FD.out.below.setCell (by simp) _).setCell (by simp) _).setCell (by simp) _).setCell (by simp) _).setCell (by simp) _
    · obtain rfl : j = l.length := by omega
      have END := Lib.hid (fCon_end hf.out)
      have S1 := HK.out
      have z0 := blk_cell S1 0
      have z1 := blk_cell S1 1
      have z2 := blk_cell S1 2
      have z3 := blk_cell S1 3
      have z4 := blk_cell S1 4
      have zf0 := blk_frozen S1 0
      have zf1 := blk_frozen S1 1
      have zf2 := blk_frozen S1 2
      have zf3 := blk_frozen S1 3
      have zf4 := blk_frozen S1 4
      simp at z0 z1 z2 z3 z4 zf0 zf1 zf2 zf3 zf4
      clear S1 hf
      go_wp2
      refine bodyPost_ret (v := .agg #[.string ⟨#[]⟩, .string ⟨#[]⟩, .int .i64 0, .int .i64 0, .slice none 0 0]) (by simp [results, Try.results31, go_sem, z0, z1, z2, z3, z4]) rfl ⟨[.string ⟨#[]⟩, .string ⟨#[]⟩, .int .i64 0, .int .i64 0, .slice none 0 0], rfl, ?_, ?_⟩
      · rw [END.out]
        exact fr_con _ (fr_nil _ _ 4 none 0 (Nat.zero_le _))
      · exact ((((HB.out.setCell (by simp) _).setCell (by simp) _).setCell (by simp) _).setCell (by simp) _).setCell (by simp) _

end Go.Proofs.Ytifmnijdaboenaa
