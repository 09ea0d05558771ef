/- The reference's 'Lex' walked; no condition. -/
import Derived.Test.YtifmnijdaboenaaDoorLxG
namespace Go.Proofs.YtifmnijdaboenaaDoor
open Go.RowKit
set_option linter.unusedVariables false
set_option linter.unusedSimpArgs false

def LexR.d (r : LexR) : D := .struct [.int .i64 r.code, .int .i64 r.l, .int .i64 r.c, .slice 4 (r.ts.map Tk.d)]
theorem lexR_small {t : ByteArray} (h : ¬ 60000 < t.size) : lexR t = lexL t (t.size + 1) 0 (1, 1) [] := by unfold lexR; rw [if_neg h]
theorem lexR_big {t : ByteArray} (h : 60000 < t.size) : lexR t = ⟨5, 1, 1, []⟩ := by unfold lexR; rw [if_pos h]
theorem fr_lexR {B : Nat} {w : World} {r : LexR} {v : Value} (h : Fr B w (.slice 4 (r.ts.map Tk.d)) [v]) : Fr B w r.d [.int .i64 r.code, .int .i64 r.l, .int .i64 r.c, v] := by
  unfold LexR.d
  rw [fr_struct]
  exact frF_int (frF_int (frF_int (frF_last h)))

/-- Behind the reading: the lexer's answer is taken over into the result's cells. -/
theorem fin_cells {W0 w : World} {t : ByteArray} {R : LexR} (h : Fin_ W0 t R w) : ∃ v, (w.cell? ⟨W0.heap.size, 4, none⟩ = some (.int .i64 R.code) ∧ w.cell? ⟨W0.heap.size, 5, none⟩ = some (.int .i64 R.l) ∧ w.cell? ⟨W0.heap.size, 6, none⟩ = some (.int .i64 R.c) ∧ w.cell? ⟨W0.heap.size, 7, none⟩ = some v) ∧ Grow (W0.heap.size + 1) w v 33 4 (R.ts.map Tk.d) ∧ Below W0.heap.size W0 w := by
  obtain ⟨a, p, v, h⟩ := h
  exact ⟨v, ⟨h.c4, h.c5, h.c6, h.c7⟩, h.grow, h.below⟩

set_option maxRecDepth 100000 in
set_option maxHeartbeats 8000000 in
theorem specLex (t : ByteArray) (ht : t.size ≤ 1048576) (w : World) :
    Calls Tryd.prog 7 #[.string t] w fun e w' => ∃ cs', e = .returned (.agg cs'.toArray) ∧ Fr w.heap.size w' (lexR t).d cs' ∧ Below w.heap.size w w' := by
  obtain ⟨W0, hW⟩ : ∃ W0, W0 = w.alloc (.cells #[.int .i64 0, .int .i64 0, .int .i64 0, .slice none 0 0] 24) := ⟨_, rfl⟩
  have HS := Lib.hid (show W0.heap.size = w.heap.size + 1 by rw [hW]; simp)
  have HB := Lib.hid (show Below w.heap.size w W0 by rw [hW]; exact below_alloc1 _ _)
  have BR := Lib.hid (show W0.heap[w.heap.size]? = some (.cells #[.int .i64 0, .int .i64 0, .int .i64 0, .slice none 0 0] 24 (0, 0)) by rw [hW]; exact blk_new w _)
  have z0 := (blk_cell BR.out 0).trans rfl
  have z1 := (blk_cell BR.out 1).trans rfl
  have z2 := (blk_cell BR.out 2).trans rfl
  have z3 := (blk_cell BR.out 3).trans rfl
  have HW := Lib.hid hW
  go_enter Tryd.func7, Tryd.ntmps7
  by_cases hbig : 60000 < t.size
  · have hb1 : (60000 : Int) < (t.size : Int) := by omega
    have HR := Lib.hid (lexR_big hbig)
    clear hbig hW z0 z1 z2 z3
    have y0 := (blk_cell (blk_new w (.cells #[.int .i64 5, .int .i64 1, .int .i64 1, .slice none 0 0] 24)) 0).trans rfl
    have y1 := (blk_cell (blk_new w (.cells #[.int .i64 5, .int .i64 1, .int .i64 1, .slice none 0 0] 24)) 1).trans rfl
    have y2 := (blk_cell (blk_new w (.cells #[.int .i64 5, .int .i64 1, .int .i64 1, .slice none 0 0] 24)) 2).trans rfl
    have y3 := (blk_cell (blk_new w (.cells #[.int .i64 5, .int .i64 1, .int .i64 1, .slice none 0 0] 24)) 3).trans rfl
    go_wp2
    refine bodyPost_ret (v := .agg #[.int .i64 5, .int .i64 1, .int .i64 1, .slice none 0 0]) (by simp [results, Tryd.results7, go_sem, y0, y1, y2, y3]) rfl ⟨_, rfl, ?_, below_alloc1 _ _⟩
    rw [HR.out]
    exact fr_lexR (r := ⟨5, 1, 1, []⟩) (fr_nil _ _ _ _ _ (Nat.zero_le _))
  · have hb1 : ¬ (60000 : Int) < (t.size : Int) := by omega
    have HR := Lib.hid (lexR_small hbig)
    clear hbig
    obtain ⟨R, hR⟩ : ∃ R, R = lexR t := ⟨_, rfl⟩
    rw [← hR] at HR ⊢
    have M0 : Hid (Mid W0 t R 0 (W0.alloc (.cells #[.string t, .int .i64 0, .int .i64 1, .int .i64 1, .int .i64 0, .int .i64 0, .int .i64 0, .slice none 0 0] 45))) :=
      ⟨(1, 1), .slice none 0 0, [], ⟨below_alloc1 _ _, blk_new _ _, Grow.nil _ _ _ _⟩, ⟨Nat.zero_le _, Nat.le_refl _, by decide, by decide, by decide, by decide, t.size + 1, by omega, HR.out.symm⟩⟩
    clear hR HR
    go_wp2
    rw [← HW.out, ← HS.out]
    clear hW z0 z1 z2 z3
    go_loopw [] (fun wr => ∃ a', Hid (Mid W0 t R a' wr)) (fun wr => t.size - atOf W0 wr)
    case atStart => exact ⟨0, M0⟩
    case round =>
      obtain ⟨q, hm⟩ := hrel
      clear M0
      have M := Lib.hid (show atOf W0 wr = q by obtain ⟨p, v, ts, hx, _⟩ := hm.out; exact hx.atOf)
      have CB := Lib.hid (specBlank W0 t ht R q wr hm.out)
      clear hm
      go_wp2_with fail
      refine CB.out.mono ?_
      clear CB
      rintro e w2 (⟨rfl, a2, hqa, hm2, hnb⟩ | ⟨rfl, hfin⟩)
      · have z1 : w2.cell? ⟨W0.heap.size, 1, none⟩ = some (.int .i64 a2) := by obtain ⟨p, v, ts, hx, _⟩ := hm2; exact hx.c1
        have M2 := Lib.hid hm2
        clear hm2
        by_cases hlt : a2 < t.size
        · have hd : decide ((a2 : Int) < (t.size : Int)) = true := by simp; omega
          have CT := Lib.hid (specToken W0 t ht R a2 w2 M2.out hlt (hnb hlt))
          clear hnb
          go_wp2_with fail
          clear z1
          refine CT.out.mono ?_
          clear CT
          rintro e w3 (⟨rfl, a3, hqa3, hm3⟩ | ⟨rfl, hfin⟩)
          · have M3 := Lib.hid (show atOf W0 w3 = a3 by obtain ⟨p, v, ts, hx, _⟩ := hm3; exact hx.atOf)
            have M4 := Lib.hid hm3
            clear hm3
            go_wp2
            go_roundw
            case rel => exact ⟨a3, M4⟩
            case measure => rw [M3.out, M.out]; omega
          · obtain ⟨v, ⟨y4, y5, y6, y7⟩, hg, hb⟩ := fin_cells hfin
            obtain ⟨A, c, hv, _, _, _⟩ := hg.form
            generalize (R.ts.map Tk.d).length = L at hv
            subst hv
            have G := Lib.hid hg
            have BB := Lib.hid hb
            have BR2 := Lib.hid (blk_below BR.out (hb.mono (Nat.le_refl _)))
            have x0 := (blk_cell BR2.out 0).trans rfl
            have x1 := (blk_cell BR2.out 1).trans rfl
            have x2 := (blk_cell BR2.out 2).trans rfl
            have x3 := (blk_cell BR2.out 3).trans rfl
            have f0 := blk_frozen BR2.out 0
            have f1 := blk_frozen BR2.out 1
            have f2 := blk_frozen BR2.out 2
            have f3 := blk_frozen BR2.out 3
            clear hfin hg hb
            go_wp2
            refine bodyPost_ret (v := .agg #[.int .i64 R.code, .int .i64 R.l, .int .i64 R.c, .slice A L c]) (by simp [results, Tryd.results7, go_sem, x0, x1, x2, x3]) rfl ⟨[.int .i64 R.code, .int .i64 R.l, .int .i64 R.c, .slice A L c], rfl, ?_, ?_⟩
            · have hs := HS.out
              exact (fr_lexR ((((G.out.fr.set (p := ⟨w.heap.size, 0, none⟩) (by show w.heap.size < _; omega) _).set (p := ⟨w.heap.size, 1, none⟩) (by show w.heap.size < _; omega) _).set (p := ⟨w.heap.size, 2, none⟩) (by show w.heap.size < _; omega) _).set (p := ⟨w.heap.size, 3, none⟩) (by show w.heap.size < _; omega) _)).lower (by omega)
            · exact ((((HB.out.trans (BB.out.mono (by have := HS.out; omega))).setCell (Nat.le_refl _) _).setCell (Nat.le_refl _) _).setCell (Nat.le_refl _) _).setCell (Nat.le_refl _) _
        · have hd : decide ((a2 : Int) < (t.size : Int)) = false := by simp; omega
          have hfin : Fin_ W0 t R w2 := by
            obtain ⟨p, v, ts, hx, htl⟩ := M2.out
            refine ⟨a2, p, v, ?_⟩
            rw [htl.fin hlt]
            exact hx
          clear hnb
          obtain ⟨v, ⟨y4, y5, y6, y7⟩, hg, hb⟩ := fin_cells hfin
          obtain ⟨A, c, hv, _, _, _⟩ := hg.form
          generalize (R.ts.map Tk.d).length = L at hv
          subst hv
          have G := Lib.hid hg
          have BB := Lib.hid hb
          have BR2 := Lib.hid (blk_below BR.out (hb.mono (Nat.le_refl _)))
          have x0 := (blk_cell BR2.out 0).trans rfl
          have x1 := (blk_cell BR2.out 1).trans rfl
          have x2 := (blk_cell BR2.out 2).trans rfl
          have x3 := (blk_cell BR2.out 3).trans rfl
          have f0 := blk_frozen BR2.out 0
          have f1 := blk_frozen BR2.out 1
          have f2 := blk_frozen BR2.out 2
          have f3 := blk_frozen BR2.out 3
          clear hfin hg hb
          go_wp2
          refine bodyPost_ret (v := .agg #[.int .i64 R.code, .int .i64 R.l, .int .i64 R.c, .slice A L c]) (by simp [results, Tryd.results7, go_sem, x0, x1, x2, x3]) rfl ⟨[.int .i64 R.code, .int .i64 R.l, .int .i64 R.c, .slice A L c], rfl, ?_, ?_⟩
          · have hs := HS.out
            exact (fr_lexR ((((G.out.fr.set (p := ⟨w.heap.size, 0, none⟩) (by show w.heap.size < _; omega) _).set (p := ⟨w.heap.size, 1, none⟩) (by show w.heap.size < _; omega) _).set (p := ⟨w.heap.size, 2, none⟩) (by show w.heap.size < _; omega) _).set (p := ⟨w.heap.size, 3, none⟩) (by show w.heap.size < _; omega) _)).lower (by omega)
          · exact ((((HB.out.trans (BB.out.mono (by have := HS.out; omega))).setCell (Nat.le_refl _) _).setCell (Nat.le_refl _) _).setCell (Nat.le_refl _) _).setCell (Nat.le_refl _) _
      · obtain ⟨v, ⟨y4, y5, y6, y7⟩, hg, hb⟩ := fin_cells hfin
        obtain ⟨A, c, hv, _, _, _⟩ := hg.form
        generalize (R.ts.map Tk.d).length = L at hv
        subst hv
        have G := Lib.hid hg
        have BB := Lib.hid hb
        have BR2 := Lib.hid (blk_below BR.out (hb.mono (Nat.le_refl _)))
        have x0 := (blk_cell BR2.out 0).trans rfl
        have x1 := (blk_cell BR2.out 1).trans rfl
        have x2 := (blk_cell BR2.out 2).trans rfl
        have x3 := (blk_cell BR2.out 3).trans rfl
        have f0 := blk_frozen BR2.out 0
        have f1 := blk_frozen BR2.out 1
        have f2 := blk_frozen BR2.out 2
        have f3 := blk_frozen BR2.out 3
        clear hfin hg hb
        go_wp2
        refine bodyPost_ret (v := .agg #[.int .i64 R.code, .int .i64 R.l, .int .i64 R.c, .slice A L c]) (by simp [results, Tryd.results7, go_sem, x0, x1, x2, x3]) rfl ⟨[.int .i64 R.code, .int .i64 R.l, .int .i64 R.c, .slice A L c], rfl, ?_, ?_⟩
        · have hs := HS.out
          exact (fr_lexR ((((G.out.fr.set (p := ⟨w.heap.size, 0, none⟩) (by show w.heap.size < _; omega) _).set (p := ⟨w.heap.size, 1, none⟩) (by show w.heap.size < _; omega) _).set (p := ⟨w.heap.size, 2, none⟩) (by show w.heap.size < _; omega) _).set (p := ⟨w.heap.size, 3, none⟩) (by show w.heap.size < _; omega) _)).lower (by omega)
        · exact ((((HB.out.trans (BB.out.mono (by have := HS.out; omega))).setCell (Nat.le_refl _) _).setCell (Nat.le_refl _) _).setCell (Nat.le_refl _) _).setCell (Nat.le_refl _) _

end Go.Proofs.YtifmnijdaboenaaDoor
