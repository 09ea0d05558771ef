/- The program's 'Lex' walked; one condition: the library's table of blanks holds what its text lays. -/
import Derived.Test.YtifmnijdaboenaaDoorIxN
namespace Go.Proofs.YtifmnijdaboenaaDoor
open Go Go.RowKit
set_option linter.unusedVariables false
set_option linter.unusedSimpArgs false

theorem ix_atOf {W0 w : World} {t : ByteArray} {a : Nat} {p : Int × Int} {m v : Value} {ts : List Tk} (h : Ix W0 t a p m v ts w) : atOf W0 w = a := by
  unfold atOf
  rw [h.c1]
  simp
set_option maxRecDepth 100000 in
set_option maxHeartbeats 8000000 in
theorem implLex (t : ByteArray) (ht : t.size ≤ 1048576) (w : World) (hT : Tab w) :
    Calls Tryd.prog 8 #[.string t] w fun e w' => ∃ cs', e = .returned (.agg cs'.toArray) ∧ Fr w.heap.size w' (lexR t).d cs' ∧ Below w.heap.size w w' := by
  obtain ⟨wa, hwa⟩ : ∃ wa, wa = w.alloc (.cells #[.int .i64 0, .int .i64 0, .int .i64 0, .slice none 0 0] 24) := ⟨_, rfl⟩
  have HSa := Lib.hid (show wa.heap.size = w.heap.size + 1 by rw [hwa]; simp)
  have HBa := Lib.hid (show Below w.heap.size w wa by rw [hwa]; exact below_alloc1 _ _)
  have BRa := Lib.hid (show wa.heap[w.heap.size]? = some (.cells #[.int .i64 0, .int .i64 0, .int .i64 0, .slice none 0 0] 24 (0, 0)) by rw [hwa]; exact blk_new w _)
  have HWa := Lib.hid hwa
  have HTa := Lib.hid (hT.below HBa.out)
  clear hT
  go_enter Tryd.func8, Tryd.ntmps8
  by_cases hbig : 60000 < t.size
  · have hb1 : (60000 : Int) < (t.size : Int) := by omega
    have HR := Lib.hid (lexR_big hbig)
    clear hbig hwa
    have y0 := (blk_cell (blk_new w (.cells #[.int .i64 5, .int .i64 1, .int .i64 1, .slice none 0 0] 24)) 0).trans rfl
    have y1 := (blk_cell (blk_new w (.cells #[.int .i64 5, .int .i64 1, .int .i64 1, .slice none 0 0] 24)) 1).trans rfl
    have y2 := (blk_cell (blk_new w (.cells #[.int .i64 5, .int .i64 1, .int .i64 1, .slice none 0 0] 24)) 2).trans rfl
    have y3 := (blk_cell (blk_new w (.cells #[.int .i64 5, .int .i64 1, .int .i64 1, .slice none 0 0] 24)) 3).trans rfl
    go_wp2
    refine bodyPost_ret (v := .agg #[.int .i64 5, .int .i64 1, .int .i64 1, .slice none 0 0]) (by simp [results, Tryd.results8, go_sem, y0, y1, y2, y3]) rfl ⟨_, rfl, ?_, below_alloc1 _ _⟩
    rw [HR.out]
    exact fr_lexR (r := ⟨5, 1, 1, []⟩) (fr_nil _ _ _ _ _ (Nat.zero_le _))
  · have hb1 : ¬ (60000 : Int) < (t.size : Int) := by omega
    have HR := Lib.hid (lexR_small hbig)
    clear hbig
    obtain ⟨R, hR⟩ : ∃ R, R = lexR t := ⟨_, rfl⟩
    rw [← hR] at HR ⊢
    clear hR
    have CW := Lib.hid (implWordKinds wa HTa.out)
    go_wp2_with fail
    rw [← hwa]
    clear hwa
    refine CW.out.mono ?_
    clear CW
    rintro e W0 ⟨es, rfl, hmp, hwk, hbW⟩
    have HMAP := Lib.hid (show MapI W0 wa.heap.size from ⟨es, hmp, hwk⟩)
    have HS := Lib.hid (show w.heap.size + 1 ≤ W0.heap.size by have := hbW.size; have := HSa.out; omega)
    have HB := Lib.hid (HBa.out.trans (hbW.mono HBa.out.size))
    have BR := Lib.hid (blk_below BRa.out hbW)
    clear hmp hwk hbW
    generalize wa.heap.size = mb at *
    have M0 : Hid (MidI W0 t R mb 0 (W0.alloc (.cells #[.string t, .int .i64 0, .int .i64 1, .int .i64 1, .map (some mb), .slice none 0 0] 51))) :=
      ⟨(1, 1), .slice none 0 0, [], ⟨below_alloc1 _ _, blk_new _ _, Grow.nil _ _ _ _⟩, ⟨Nat.zero_le _, Nat.le_refl _, by decide, by decide, by decide, by decide, t.size + 1, by omega, HR.out.symm⟩⟩
    clear HR HSa HBa BRa HTa HWa
    go_wp2
    go_loopw [4] (fun _ wr => ∃ a', Hid (MidI W0 t R mb a' wr)) (fun _ wr => t.size - atOf W0 wr)
    case atStart => exact ⟨0, M0⟩
    case round =>
      obtain ⟨q, hm⟩ := hrel
      clear M0
      obtain ⟨p, v, ts, hx, htl⟩ := hm.out
      have M := Lib.hid (ix_atOf hx)
      have z0 := hx.c0
      have z1 := hx.c1
      have HX := Lib.hid hx
      have HT := Lib.hid htl
      clear hm
      by_cases hlt : q < t.size
      · have hd : decide ((q : Int) < (t.size : Int)) = true := by simp; omega
        clear hx htl
        go_wp2
        go_quiet (fail)
        have CN := Lib.hid (implNext W0 t ht R mb q _ ⟨p, v, ts, HX.out.mv (drewN_below (Below.refl _ _) nq), HT.out⟩ HMAP.out hlt)
        generalize World.drewN wr nq = w2 at *
        clear z0 z1
        go_wp2_with fail
        refine CN.out.mono ?_
        clear CN
        rintro e w3 (⟨rfl, a3, hqa3, hm3⟩ | ⟨c, hc0, rfl, p3, v3, ts3, hx3, hR3⟩)
        · have M3 := Lib.hid (show atOf W0 w3 = a3 by obtain ⟨p, v, ts, hx, _⟩ := hm3; exact ix_atOf hx)
          have M4 := Lib.hid hm3
          clear hm3
          go_wp2
          go_roundw
          case rel => exact ⟨a3, M4⟩
          case measure => rw [M3.out, M.out]; omega
        · have hce : (c != 0) = true := by simpa using hc0
          have H3 := Lib.hid hx3
          have z2 := hx3.c2
          have z3 := hx3.c3
          have HRR := Lib.hid hR3
          have BR3 := Lib.hid (blk_drew (blk_below BR.out (hx3.below.mono (Nat.le_refl _))))
          have BR4 := Lib.hid (blk_below BR.out (hx3.below.mono (Nat.le_refl _)))
          clear hx3 hR3 hc0
          go_wp2
          go_still_tail 10, (by kernel_rfl)
          refine wpList_store_mid rfl 24 (.tmp 2) (.tmp 36) rfl w.heap.size 0 #[.int .i64 c, .int .i64 p3.1, .int .i64 p3.2, .slice none 0 0] rfl rfl (there_live BR3.out (Nat.le_refl 4)) (by kernel_rfl) (by simp [Value.oneCell']) ?_
          have BB := Lib.hid (below_setCells (Nat.le_refl w.heap.size) [.int .i64 c, .int .i64 p3.1, .int .i64 p3.2, .slice none 0 0] 0 (HB.out.trans (H3.out.below.drew.mono (by have := HS.out; omega))))
          have e0 := (blk_cell (blk_set (blk_set (blk_set (blk_set BR4.out 0 (.int .i64 c)) 1 (.int .i64 p3.1)) 2 (.int .i64 p3.2)) 3 (.slice none 0 0)) 0).trans rfl
          have e1 := (blk_cell (blk_set (blk_set (blk_set (blk_set BR4.out 0 (.int .i64 c)) 1 (.int .i64 p3.1)) 2 (.int .i64 p3.2)) 3 (.slice none 0 0)) 1).trans rfl
          have e2 := (blk_cell (blk_set (blk_set (blk_set (blk_set BR4.out 0 (.int .i64 c)) 1 (.int .i64 p3.1)) 2 (.int .i64 p3.2)) 3 (.slice none 0 0)) 2).trans rfl
          have e3 := (blk_cell (blk_set (blk_set (blk_set (blk_set BR4.out 0 (.int .i64 c)) 1 (.int .i64 p3.1)) 2 (.int .i64 p3.2)) 3 (.slice none 0 0)) 3).trans rfl
          go_wp2
          refine bodyPost_ret (v := .agg #[.int .i64 c, .int .i64 p3.1, .int .i64 p3.2, .slice none 0 0]) (by simp [results, Tryd.results8, go_sem, World.setCells, e0, e1, e2, e3]) rfl ⟨_, rfl, ?_, BB.out⟩
          rw [HRR.out]
          exact fr_lexR (r := ⟨c, p3.1, p3.2, []⟩) (fr_nil _ _ _ _ _ (Nat.zero_le _))
      · have hd : decide ((q : Int) < (t.size : Int)) = false := by simp; omega
        have HRR := Lib.hid (htl.fin hlt)
        clear hx htl
        go_wp2
        go_quiet (fail)
        have H3 := Lib.hid (HX.out.mv (drewN_below (Below.refl _ _) nq))
        generalize World.drewN wr nq = w3 at *
        clear z0 z1
        obtain ⟨A, cc, hv, _, _, _⟩ := H3.out.grow.form
        generalize (ts.map Tk.d).length = L at hv
        subst hv
        have z5 := H3.out.c5
        have BR2 := Lib.hid (blk_below BR.out (H3.out.below.mono (Nat.le_refl _)))
        have G := Lib.hid H3.out.grow
        have x0 := (blk_cell BR2.out 0).trans rfl
        have x1 := (blk_cell BR2.out 1).trans rfl
        have x2 := (blk_cell BR2.out 2).trans rfl
        have x3 := (blk_cell BR2.out 3).trans rfl
        have f0 := blk_frozen BR2.out 0
        have f1 := blk_frozen BR2.out 1
        have f2 := blk_frozen BR2.out 2
        have f3 := blk_frozen BR2.out 3
        go_wp2
        refine bodyPost_ret (v := .agg #[.int .i64 0, .int .i64 0, .int .i64 0, .slice A L cc]) (by simp [results, Tryd.results8, go_sem, x0, x1, x2, x3]) rfl ⟨[.int .i64 0, .int .i64 0, .int .i64 0, .slice A L cc], rfl, ?_, ?_⟩
        · have hs := HS.out
          rw [HRR.out]
          exact (fr_lexR (r := ⟨0, 0, 0, ts⟩) ((((G.out.fr.set (p := ⟨w.heap.size, 0, none⟩) (by show w.heap.size < _; omega) _).set (p := ⟨w.heap.size, 1, none⟩) (by show w.heap.size < _; omega) _).set (p := ⟨w.heap.size, 2, none⟩) (by show w.heap.size < _; omega) _).set (p := ⟨w.heap.size, 3, none⟩) (by show w.heap.size < _; omega) _)).lower (by omega)
        · exact ((((HB.out.trans (H3.out.below.mono (by have := HS.out; omega))).setCell (Nat.le_refl _) _).setCell (Nat.le_refl _) _).setCell (Nat.le_refl _) _).setCell (Nat.le_refl _) _

end Go.Proofs.YtifmnijdaboenaaDoor
