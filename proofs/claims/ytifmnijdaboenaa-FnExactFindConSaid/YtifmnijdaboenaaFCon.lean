/- Constructors searched: what the reference answers; no condition. -/
import Derived.Test.YtifmnijdaboenaaApA
import Derived.Test.YtifmnijdaboenaaCpy
import Derived.Outline
namespace Go.Proofs.Ytifmnijdaboenaa
open Go.RowKit
set_option linter.unusedVariables false
set_option linter.unusedSimpArgs false

def fCon : List ConI → ByteArray → ConI
  | [], _ => ⟨⟨#[]⟩, ⟨#[]⟩, 0, 0, []⟩
  | x :: xs, a => if (x.name.toList == a.toList) = true then x else fCon xs a
theorem fCon_found {l : List ConI} {a : ByteArray} {j : Nat} (hj : j < l.length) (h : fCon l a = fCon (l.drop j) a) (h1 : (l[j].name.toList == a.toList) = true) : fCon l a = l[j] := by
  rw [h, List.drop_eq_getElem_cons hj, fCon, if_pos h1]
theorem fCon_next {l : List ConI} {a : ByteArray} {j : Nat} (hj : j < l.length) (h : fCon l a = fCon (l.drop j) a) (h1 : (l[j].name.toList == a.toList) = false) : fCon l a = fCon (l.drop (j + 1)) a := by
  rw [h, List.drop_eq_getElem_cons hj, fCon, if_neg (by rw [h1]; simp)]
theorem fCon_end {l : List ConI} {a : ByteArray} (h : fCon l a = fCon (l.drop l.length) a) : fCon l a = ⟨⟨#[]⟩, ⟨#[]⟩, 0, 0, []⟩ := by rw [h, List.drop_length, fCon]
theorem fr_con {B : Nat} {w : World} (x : ConI) {v : Value} (h : Fr B w (.slice 4 (Ty.encs x.fields)) [v]) : Fr B w x.d [.string x.name, .string x.data, .int .i64 x.tag, .int .i64 x.vars, v] := by
  unfold ConI.d
  rw [fr_struct]
  exact frF_str (frF_str (frF_int (frF_int (frF_last h))))
theorem grow_made_g {B g : Nat} (w : World) (e sz : Nat) (hg : g = w.heap.size) (hB : B ≤ w.heap.size) : Grow B (w.alloc (.cells #[] e)) (.slice (some ⟨g, 0, none⟩) 0 0) e sz [] := by
  subst hg
  exact ⟨[], [], World.ownsRow_made w #[] 0 hB (Nat.zero_le _) (by simp), by simp [D.Fields], by simp, by simp [Value.ownBlock], fun k hk => by
    obtain rfl : k = w.heap.size := by simpa [Value.ownBlock] using hk
    exact ⟨hB, #[], e, blk_new w _⟩⟩
/-- What the world holds while the fields are copied: the zero answer in block Z, the constructor's copy in block G, the row that grows behind B. -/
structure Fd (w : World) (Z G B : Nat) (cz cg : Array Value) (v : Value) (ys : List D) (wr : World) : Prop where
  below : Below w.heap.size w wr
  zero : wr.heap[Z]? = some (.cells cz 63 (0, 0))
  cpy : wr.heap[G]? = some (.cells cg 63 (0, 0))
  grow : Grow B wr v 97 4 ys
  size : B ≤ wr.heap.size
  zb : Z < B
  gb : G < B
  wb : w.heap.size ≤ B
theorem Fd.more {w wr w1 : World} {Z G B : Nat} {cz cg : Array Value} {v : Value} {ys : List D} (h : Fd w Z G B cz cg v ys wr) (hb : Below wr.heap.size wr w1) : Fd w Z G B cz cg v ys w1 :=
  ⟨h.below.trans (hb.mono h.below.size), blk_below h.zero hb, blk_below h.cpy hb, h.grow.below hb, Nat.le_trans h.size hb.size, h.zb, h.gb, h.wb⟩
theorem Fd.push {w wr w1 : World} {Z G B : Nat} {cz cg : Array Value} {v v' : Value} {ys zs : List D} (h : Fd w Z G B cz cg v ys wr) (hg : Grow B w1 v' 97 4 zs) (hw : Grew wr w1 v v') : Fd w Z G B cz cg v' zs w1 := by
  have hne : ∀ g, g < B → some g ≠ v.ownBlock := fun g hg e => by
    have := (h.grow.bound g e.symm).1
    omega
  have := h.wb
  exact ⟨hw.below h.below h.below.size (fun g hg => by have := (h.grow.bound g hg).1; omega), hw.blk h.zero (hne _ h.zb), hw.blk h.cpy (hne _ h.gb), hg, Nat.le_trans h.size hw.grown.size, h.zb, h.gb, h.wb⟩

set_option maxRecDepth 100000 in
set_option maxHeartbeats 8000000 in
theorem specFCon (t : Tabs) (a : ByteArray) (hl : t.cons.length ≤ 1048576) (hp : ∀ x ∈ t.cons, x.fields.length ≤ 1048576 ∧ ∀ y ∈ x.fields, y.enc.bulk ≤ 1048576) (w : World) (cs : List Value) (h : Rd w t.d cs) :
    Calls Try.prog 30 #[.agg cs.toArray, .string a] w fun e w' => ∃ cs', e = .returned (.agg cs'.toArray) ∧ Fr w.heap.size w' (fCon t.cons a).d cs' ∧ Below w.heap.size w w' := by
  unfold Tabs.d at h
  obtain ⟨AC, cC, AD, cD, AM, cM, AS, cS, AI, cI, rfl, hC, _, _, _, _⟩ := openTables h
  obtain ⟨A, c, he, _, _, hr⟩ := rd_slice1 hC
  injection he with he1 he2 he3
  obtain ⟨rfl, rfl⟩ : A = AC ∧ c = cC := ⟨he1.symm, he3.symm⟩
  simp only [List.length_map]
  have HR := Lib.hid hr
  have S1 := Lib.hid (show (World.heap ((w.alloc (.cells #[.slice A t.cons.length c, .slice AD t.datas.length cD, .slice AM t.methods.length cM, .slice AS t.classes.length cS, .slice AI t.insts.length cI] 40)).alloc (.cells #[.string ⟨#[]⟩, .string ⟨#[]⟩, .int .i64 0, .int .i64 0, .slice none 0 0] 63)))[w.heap.size + 1]? = some (.cells #[.string ⟨#[]⟩, .string ⟨#[]⟩, .int .i64 0, .int .i64 0, .slice none 0 0] 63 (0, 0)) from blk_new_g (by simp))
  have B1 := Lib.hid (show Below w.heap.size w ((w.alloc (.cells #[.slice A t.cons.length c, .slice AD t.datas.length cD, .slice AM t.methods.length cM, .slice AS t.classes.length cS, .slice AI t.insts.length cI] 40)).alloc (.cells #[.string ⟨#[]⟩, .string ⟨#[]⟩, .int .i64 0, .int .i64 0, .slice none 0 0] 63)) from ((Below.refl w.heap.size w).alloc (Nat.le_refl _) _).alloc (by simp) _)
  have y4 : World.cell? ((w.alloc (.cells #[.slice A t.cons.length c, .slice AD t.datas.length cD, .slice AM t.methods.length cM, .slice AS t.classes.length cS, .slice AI t.insts.length cI] 40)).alloc (.cells #[.string ⟨#[]⟩, .string ⟨#[]⟩, .int .i64 0, .int .i64 0, .slice none 0 0] 63)) ⟨w.heap.size, 0, none⟩ = some (.slice A t.cons.length c) := by simp
  have HP := Lib.hid hp
  clear hp
  generalize t.cons = l at *
  clear h hC hr he1 he2 he3
  rename_i q1 q2 q3 q4 q5 q6
  clear q1 q2 q3 q4 q5 q6
  go_enter Try.func30, Try.ntmps30
  go_wp2_with fail
  go_loop [5] (fun i => ∃ j : Nat, j ≤ l.length ∧ i = .int .i64 j ∧ Hid (fCon l a = fCon (l.drop j) a)) (fun i => l.length - (intOf i).toNat)
  case atStart => exact ⟨0, Nat.zero_le _, rfl, rfl⟩
  case round =>
    obtain ⟨j, hj, rfl, hf⟩ := hrel
    by_cases hlt : j < l.length
    · obtain ⟨b0, off, es, rfl, hcl, hrd, hc⟩ := HR.out.get (i := j) (x := l[j].d) (by simp [List.getElem?_eq_getElem hlt])
      have hpj := HP.out _ (List.getElem_mem hlt)
      have NEXT := Lib.hid (fCon_next (a := a) hlt hf.out)
      have FOUND := Lib.hid (fCon_found (a := a) hlt hf.out)
      clear hf
      generalize l[j] = x at *
      obtain ⟨AF, cF, rfl, hP⟩ := openConInfo (show Rd _ (.struct [.str x.name, .str x.data, .int .i64 x.tag, .int .i64 x.vars, .slice 4 (Ty.encs x.fields)]) es from hrd)
      rw [Ty.encs_length] at hc
      have c0 := cell_below (p := ⟨b0, off + j * 5, none⟩) (v := .string x.name) B1.out (by simpa using hc 0 _ rfl)
      have c1 := cell_below (p := ⟨b0, off + j * 5 + 1, none⟩) (v := .string x.data) B1.out (hc 1 _ rfl)
      have c2 := cell_below (p := ⟨b0, off + j * 5 + 2, none⟩) (v := .int .i64 x.tag) B1.out (hc 2 _ rfl)
      have c3 := cell_below (p := ⟨b0, off + j * 5 + 3, none⟩) (v := .int .i64 x.vars) B1.out (hc 3 _ rfl)
      have c4 := cell_below (p := ⟨b0, off + j * 5 + 4, none⟩) (v := .slice AF x.fields.length cF) B1.out (hc 4 _ rfl)
      obtain ⟨ap, cp, he, _, hcm, hrp⟩ := rd_slice1 hP
      injection he with e1 e2 e3
      subst e1 e3
      have HRP := Lib.hid hrp
      clear hc hcl hrd hP hrp e2
      cases h1 : (x.name.toList == a.toList)
      · have NX := Lib.hid (NEXT.out h1)
        go_wp2
        go_round
        case rel => exact ⟨j + 1, by omega, by go_num, NX.out⟩
        case measure => simp [intOf]; omega
      have FDX := Lib.hid (FOUND.out h1)
      have FD0 : Hid (Fd w (w.heap.size + 1) (w.heap.size + 1 + 1) (w.heap.size + 1 + 1 + 1) #[.string ⟨#[]⟩, .string ⟨#[]⟩, .int .i64 0, .int .i64 0, .slice none 0 0] #[.string x.name, .string x.data, .int .i64 x.tag, .int .i64 x.vars, .slice AF x.fields.length cF] (.slice (some ⟨w.heap.size + 1 + 1 + 1, 0, none⟩) 0 0) [] (((((w.alloc (.cells #[.slice (some ⟨b0, off, none⟩) l.length c, .slice AD t.datas.length cD, .slice AM t.methods.length cM, .slice AS t.classes.length cS, .slice AI t.insts.length cI] 40)).alloc (.cells #[.string ⟨#[]⟩, .string ⟨#[]⟩, .int .i64 0, .int .i64 0, .slice none 0 0] 63))).alloc (.cells #[.string x.name, .string x.data, .int .i64 x.tag, .int .i64 x.vars, .slice AF x.fields.length cF] 63)).alloc (.cells #[] 97))) :=
        ⟨((((Below.refl w.heap.size w).alloc (Nat.le_refl _) _).alloc (by simp) _).alloc (by simp <;> omega) _).alloc (by simp <;> omega) _, blk_old (blk_old (blk_new_g (by simp)) _) _, blk_old (blk_new_g (by simp)) _, grow_made_g _ _ _ (by simp) (by simp), by simp, by omega, by omega, by omega⟩
      go_wp2_with fail
      clear y4 c0 c1 c2 c3 c4
      go_loopw [7, 8] (fun v i wr => ∃ k : Nat, k ≤ x.fields.length ∧ i = .int .i64 k ∧ Hid (Fd w (w.heap.size + 1) (w.heap.size + 1 + 1) (w.heap.size + 1 + 1 + 1) #[.string ⟨#[]⟩, .string ⟨#[]⟩, .int .i64 0, .int .i64 0, .slice none 0 0] #[.string x.name, .string x.data, .int .i64 x.tag, .int .i64 x.vars, .slice AF x.fields.length cF] v (Ty.encs (x.fields.take k)) wr)) (fun _ i _ => x.fields.length - (intOf i).toNat)
      case atStart => exact ⟨0, Nat.zero_le _, rfl, FD0.out⟩
      case round =>
        obtain ⟨k, hk, rfl, FD⟩ := hrel
        have y4 : wr.cell? ⟨w.heap.size + 1 + 1, 4, none⟩ = some (.slice AF x.fields.length cF) := (blk_cell FD.out.cpy 4).trans rfl
        by_cases hlk : k < x.fields.length
        · obtain ⟨b1, of1, es1, rfl, hcl1, hrd1, hc1⟩ := HRP.out.get (i := k) (x := x.fields[k].enc) (by simp [Ty.encs_map, List.getElem?_eq_getElem hlk])
          obtain ⟨u0, u1, u2, u3, rfl⟩ := cells4 hcl1
          have e0 : wr.cell? ⟨b1, of1 + k * 4, none⟩ = some u0 := cell_below FD.out.below (by simpa using hc1 0 _ rfl)
          have e1 : wr.cell? ⟨b1, of1 + k * 4 + 1, none⟩ = some u1 := cell_below FD.out.below (hc1 1 _ rfl)
          have e2 : wr.cell? ⟨b1, of1 + k * 4 + 2, none⟩ = some u2 := cell_below FD.out.below (hc1 2 _ rfl)
          have e3 : wr.cell? ⟨b1, of1 + k * 4 + 3, none⟩ = some u3 := cell_below FD.out.below (hc1 3 _ rfl)
          have CAL := Lib.hid (specCopy x.fields[k] (hpj.2 _ (List.getElem_mem hlk)) wr _ (hrd1.below FD.out.below))
          have TK := Lib.hid (show Ty.encs (x.fields.take (k + 1)) = Ty.encs (x.fields.take k) ++ [x.fields[k].enc] by rw [List.take_succ_eq_append_getElem hlk, Ty.encs_snoc])
          have LN := Lib.hid (show (Ty.encs (x.fields.take k)).length = k by rw [Ty.encs_length, List.length_take]; omega)
          obtain ⟨i0, hi, hz0, hz1, hz2⟩ := info_parts infoTyp
          have i1 : (0 : Int) ≤ (k : Int) := Int.natCast_nonneg _
          have i2 : (k : Int) < (x.fields.length : Int) := by omega
          clear hcl1 hrd1 hc1
          go_wp2_with fail
          refine CAL.out.mono ?_
          rintro e w1 ⟨cs', rfl, hfr, hb⟩
          obtain ⟨t0, t1, t2, t3, rfl⟩ := cells4 (hfr.len.trans (Ty.n _))
          have FR := Lib.hid hfr
          have AL := Lib.hid (below_alloc1 w1 (.cells #[t0, t1, t2, t3] 97))
          have BW := Lib.hid (hb.alloc hb.size (.cells #[t0, t1, t2, t3] 97))
          have CA := Lib.hid (cellsAt_new w1 [t0, t1, t2, t3] 97)
          clear hfr hb e0 e1 e2 e3 y4
          go_wp2_with (at_builtin; refine wpl_push rfl _ _ 61 rfl (w.heap.size + 1 + 1 + 1) 97 i0 (.agg #[.int .i64 0, .int .i64 0, .string ⟨#[]⟩, .slice none 0 0]) 4 56 Try.underlying61 hi hz0 hz1 hz2 rfl (by decide) _ (Ty.encs (x.fields.take k)) rfl FD.out.grow BW.out x.fields[k].enc [t0, t1, t2, t3] (FR.out.below AL.out) (Ty.n _) w1.heap.size 1 rfl CA.out (by rw [LN.out]; have := hpj.1; omega) (by rw [LN.out]; have := hpj.1; omega) FD.out.size ?_; intro v' w2 hg' hgr' _; have F2 := Lib.hid ((FD.out.more BW.out).push hg' hgr'); clear hg' hgr')
          go_roundw
          case rel => exact ⟨k + 1, by omega, by go_num, Lib.hid (by rw [TK.out]; exact F2.out)⟩
          case measure => simp [intOf]; omega
        · obtain rfl : k = x.fields.length := by omega
          have hg := FD.out.grow
          rw [List.take_length] at hg
          obtain ⟨A', c', hv', _, _, _⟩ := hg.form
          rw [Ty.encs_length] at hv'
          subst hv'
          have HG := Lib.hid hg.fr
          clear hg
          have zr0 : wr.cell? ⟨w.heap.size + 1, 0, none⟩ = some (.string ⟨#[]⟩) := (blk_cell FD.out.zero 0).trans rfl
          have zf0 := blk_frozen FD.out.zero 0
          have zr1 : wr.cell? ⟨w.heap.size + 1, 1, none⟩ = some (.string ⟨#[]⟩) := (blk_cell FD.out.zero 1).trans rfl
          have zf1 := blk_frozen FD.out.zero 1
          have zr2 : wr.cell? ⟨w.heap.size + 1, 2, none⟩ = some (.int .i64 0) := (blk_cell FD.out.zero 2).trans rfl
          have zf2 := blk_frozen FD.out.zero 2
          have zr3 : wr.cell? ⟨w.heap.size + 1, 3, none⟩ = some (.int .i64 0) := (blk_cell FD.out.zero 3).trans rfl
          have zf3 := blk_frozen FD.out.zero 3
          have zr4 : wr.cell? ⟨w.heap.size + 1, 4, none⟩ = some (.slice none 0 0) := (blk_cell FD.out.zero 4).trans rfl
          have zf4 := blk_frozen FD.out.zero 4
          have zc0 : wr.cell? ⟨w.heap.size + 1 + 1, 0, none⟩ = some (.string x.name) := (blk_cell FD.out.cpy 0).trans rfl
          have zc1 : wr.cell? ⟨w.heap.size + 1 + 1, 1, none⟩ = some (.string x.data) := (blk_cell FD.out.cpy 1).trans rfl
          have zc2 : wr.cell? ⟨w.heap.size + 1 + 1, 2, none⟩ = some (.int .i64 x.tag) := (blk_cell FD.out.cpy 2).trans rfl
          have zc3 : wr.cell? ⟨w.heap.size + 1 + 1, 3, none⟩ = some (.int .i64 x.vars) := (blk_cell FD.out.cpy 3).trans rfl
          have xf4 := blk_frozen FD.out.cpy 4
          go_wp2
          refine bodyPost_ret (v := .agg #[.string x.name, .string x.data, .int .i64 x.tag, .int .i64 x.vars, .slice A' x.fields.length c']) (by simp [results, Try.results30, go_sem, zr0, zr1, zr2, zr3, zr4]) rfl ⟨[.string x.name, .string x.data, .int .i64 x.tag, .int .i64 x.vars, .slice A' x.fields.length c'], rfl, ?_, ?_⟩
          · rw [FDX.out]
            refine fr_con _ ?_
            exact ((((((HG.out.set (by simp) _).set (by simp) _).set (by simp) _).set (by simp) _).set (by simp) _).set (by simp) _).lower (by omega)
          · exact (((((FD.out.below.setCell (by simp <;> omega) _).setCell (by simp) _).setCell (by simp) _).setCell (by simp) _).setCell (by simp) _).setCell (by simp) _
    · obtain rfl : j = l.length := by omega
      have END := Lib.hid (fCon_end hf.out)
      clear hf
      go_wp2
      refine bodyPost_ret (v := .agg #[.string ⟨#[]⟩, .string ⟨#[]⟩, .int .i64 0, .int .i64 0, .slice none 0 0]) (by simp [results, Try.results30, go_sem]) rfl ⟨[.string ⟨#[]⟩, .string ⟨#[]⟩, .int .i64 0, .int .i64 0, .slice none 0 0], rfl, ?_, ?_⟩
      · rw [END.out]
        exact fr_con _ (fr_nil _ _ 4 none 0 (Nat.zero_le _))
      · exact ((Below.refl w.heap.size w).alloc (Nat.le_refl _) _).alloc (by simp) _

end Go.Proofs.Ytifmnijdaboenaa
