/- The program's putter at a variable that is not bound; no condition. -/
import Derived.Test.YtbbpkjcmbakfeaaPutV
namespace Go.Proofs.Ytbbpkjcmbakfeaa
open Go.RowKit
set_option linter.unusedVariables false
set_option linter.unusedSimpArgs false

set_option maxRecDepth 100000 in
set_option maxHeartbeats 8000000 in
theorem ImplPut_none (bs : List (Int × Ty)) (d : Int) (n : ByteArray) (hy : bget bs d = none) (hd : (Lit.int .i64 d).wf = true) : ImplPut bs (.mk 1 d n []) := by
  intro W0 w cs b off G mb me deep c h hc hbG hb hg hG h0 h1 h2 h3 hmo
  obtain ⟨A, cp, rfl, _, _, h4⟩ := Ty.open_ h
  have HG := Lib.hid hg
  have HGB := Lib.hid hG
  have HB := Lib.hid hb
  have GL := Lib.hid (blk_lt hg)
  have gl : G < w.heap.size := blk_lt hg
  have hq : mget me d = none := by
    have := hmo.2 d hd
    rw [hy] at this
    exact this
  have HMK : Hid (∀ w', Below W0.heap.size W0 w' → HasMap keyI64 mb me w') := fun w' hb => hmo.1.below hb
  have MG := Lib.hid (show (mget me d).getD (.agg #[.int .i64 0, .int .i64 0, .string ⟨#[]⟩, .slice none 0 0]) = .agg #[.int .i64 0, .int .i64 0, .string ⟨#[]⟩, .slice none 0 0] by rw [hq]; rfl)
  have MS := Lib.hid (show (mget me d).isSome = false by rw [hq]; rfl)
  have k0 : (w.alloc (.cells #[.int .i64 0, .int .i64 0, .string ⟨#[]⟩, .slice none 0 0] 30)).cell? ⟨b, off, none⟩ = some (.int .i64 1) := (cell_below (w1 := (w.alloc (.cells #[.int .i64 0, .int .i64 0, .string ⟨#[]⟩, .slice none 0 0] 30))) (below_alloc1 _ _) (hc 0 _ rfl))
  have HB0 : Hid (Below w.heap.size w (w.alloc (.cells #[.int .i64 0, .int .i64 0, .string ⟨#[]⟩, .slice none 0 0] 30))) := below_alloc1 _ _
  have KS0 : Hid (∀ w', Below w.heap.size w w' → w'.cell? ⟨G, 0, none⟩ = some (.map (some mb)) ∧ w'.cell? ⟨b, off + 1, none⟩ = some (.int .i64 d)) := fun w' hb => ⟨(blk_cell (blk_below hg hb) 0).trans rfl, cell_below hb (hc 1 _ rfl)⟩
  have KY0 := Lib.hid (KS0.out _ HB0.out)
  have KZ0 : Hid (∀ o, (World.alloc (w.alloc (.cells #[.int .i64 0, .int .i64 0, .string ⟨#[]⟩, .slice none 0 0] 30)) o).cell? ⟨G, 0, none⟩ = some (.map (some mb)) ∧ (World.alloc (w.alloc (.cells #[.int .i64 0, .int .i64 0, .string ⟨#[]⟩, .slice none 0 0] 30)) o).cell? ⟨b, off + 1, none⟩ = some (.int .i64 d)) := fun o => KS0.out _ (HB0.out.alloc HB0.out.size o)
  have R1 := Lib.hid (Ty.lrg_none (bs := bs) (ks := []) (n := n) (k := 1) (deep := deep) (left := 20000 - c) (.inr hy))
  have R2 := Lib.hid (show (Ty.mk 1 d n []).app bs = .mk 1 d n [] by rw [Ty.app, if_pos rfl, hy]; rfl)
  have lk : ∀ w', Below W0.heap.size W0 w' → (Instr.lookup 120 (.map (some mb)) (.int .i64 d) true).run Try.prog w' = .ok (.tuple #[.agg #[.int .i64 0, .int .i64 0, .string ⟨#[]⟩, .slice none 0 0], .bool false]) w' := fun w' hb => (HMK.out w' hb).look2 (Try.zeroValue30 _) mapI64Type d hd _ MG.out false MS.out
  have lk0 := lk _ (HB.out.trans (HB0.out.mono HB.out.size)).drew
  have lk1 : ∀ o, _ := fun o => lk _ ((HB.out.trans (HB0.out.mono HB.out.size)).alloc (Nat.le_trans HB.out.size HB0.out.size) o).drew
  have HVB : Hid (Below w.heap.size w ((w.alloc (.cells #[.int .i64 0, .int .i64 0, .string ⟨#[]⟩, .slice none 0 0] 30)).alloc (.cells #[.int .i64 0, .int .i64 0, .string ⟨#[]⟩, .slice none 0 0] 30)).drew) := (HB0.out.alloc HB0.out.size _).drew
  have BG : Hid (((w.alloc (.cells #[.int .i64 0, .int .i64 0, .string ⟨#[]⟩, .slice none 0 0] 30)).alloc (.cells #[.int .i64 0, .int .i64 0, .string ⟨#[]⟩, .slice none 0 0] 30)).drew.heap[G]? = some (.cells #[.map (some mb), .int .i64 c, .bool false] 166 (0, 0))) := blk_below hg HVB.out
  have BZ : Hid (((w.alloc (.cells #[.int .i64 0, .int .i64 0, .string ⟨#[]⟩, .slice none 0 0] 30)).alloc (.cells #[.int .i64 0, .int .i64 0, .string ⟨#[]⟩, .slice none 0 0] 30)).drew.heap[w.heap.size]? = some (.cells #[.int .i64 0, .int .i64 0, .string ⟨#[]⟩, .slice none 0 0] 30 (0, 0))) := blk_old (blk_new w _) _
  have KC : Hid (∀ w' X (i : Nat) (u : Value), Below ((w.alloc (.cells #[.int .i64 0, .int .i64 0, .string ⟨#[]⟩, .slice none 0 0] 30)).alloc (.cells #[.int .i64 0, .int .i64 0, .string ⟨#[]⟩, .slice none 0 0] 30)).drew.heap.size (World.setRow ((w.alloc (.cells #[.int .i64 0, .int .i64 0, .string ⟨#[]⟩, .slice none 0 0] 30)).alloc (.cells #[.int .i64 0, .int .i64 0, .string ⟨#[]⟩, .slice none 0 0] 30)).drew G X) w' → [.int .i64 1, .int .i64 d, .string n, .slice A 0 cp][i]? = some u → w'.cell? ⟨b, off + i, none⟩ = some u) := fun w' X i u hb hi => (World.cell?_of_block (a := ⟨b, off + i, none⟩) ((hb.block b (Nat.lt_of_lt_of_le (cell_lt (hc i u hi)) HVB.out.size)).trans (setRow_other _ G b X hbG))).trans (cell_below HVB.out (hc i u hi))
  have gw : w.heap.size < ((w.alloc (.cells #[.int .i64 0, .int .i64 0, .string ⟨#[]⟩, .slice none 0 0] 30)).alloc (.cells #[.int .i64 0, .int .i64 0, .string ⟨#[]⟩, .slice none 0 0] 30)).drew.heap.size := by simp; omega
  rw [R1.out, R2.out]
  clear lk h hc h4 hb hg hG hbG hmo hq hd hy R1 R2 HMK MG MS KS0
  have HR : Hid (((if 20000 - c - 1 < 0 ∨ 200 < deep then (true, 20000 - c - 1) else Ty.lrgs bs [] (deep + 1) (20000 - c - 1)) : Bool × Int) = (decide (20000 < c + 1 ∨ 200 < deep), 20000 - c - 1)) := by
    show _ = _
    by_cases hbad : 20000 < c + 1 ∨ 200 < deep
    · rw [if_pos (by omega), decide_eq_true hbad]
    · rw [if_neg (by omega), decide_eq_false hbad, Ty.lrgs]
  rw [HR.out]
  clear HR
  obtain ⟨bad, hbd⟩ : ∃ bad, bad = decide (20000 < c + 1 ∨ 200 < deep) := ⟨_, rfl⟩
  rw [← hbd]
  have HBD := Lib.hid hbd
  clear hbd
  go_enter Try.func118, Try.ntmps118
  go_wp2_with fail
  go_region_held3 (fun w' => w'.cell? ⟨G, 0, none⟩ = some (.map (some mb)) ∧ w'.cell? ⟨b, off + 1, none⟩ = some (.int .i64 d)) (first | exact KY0.out | exact KZ0.out _) (first | fail)
  all_goals
    clear lk0 lk1 KY0 KZ0 k0
    generalize hV : ((w.alloc (.cells #[.int .i64 0, .int .i64 0, .string ⟨#[]⟩, .slice none 0 0] 30)).alloc (.cells #[.int .i64 0, .int .i64 0, .string ⟨#[]⟩, .slice none 0 0] 30)).drew = V at *
    clear hV
    have KS : Hid (∀ w' X, Below V.heap.size (V.setRow G X) w' → w'.cell? ⟨b, off, none⟩ = some (.int .i64 1) ∧ w'.cell? ⟨b, off + 1, none⟩ = some (.int .i64 d) ∧ w'.cell? ⟨b, off + 2, none⟩ = some (.string n)) := fun w' X hb => ⟨by simpa using KC.out w' X 0 _ hb rfl, KC.out w' X 1 _ hb rfl, KC.out w' X 2 _ hb rfl⟩
    have K3 : Hid (∀ w' X, Below V.heap.size (V.setRow G X) w' → w'.cell? ⟨b, off + 3, none⟩ = some (.slice A 0 cp)) := fun w' X hb => KC.out w' X 3 _ hb rfl
    have A2 := Lib.hid ((congrArg (fun q : World => q.heap[G]?) (rowset V G (.map (some mb)) (.int .i64 c) (.bool false) _ _ BG.out)).trans (setRow_heap V G _ #[.map (some mb), .int .i64 (c + 1), .bool false] _ (0, 0) BG.out))
    have v1 : V.cell? ⟨G, 1, none⟩ = some (.int .i64 c) := (blk_cell BG.out 1).trans rfl
    have f1 := blk_frozen BG.out 1
    have y1 : (V.setCell ⟨G, 1, none⟩ (.int .i64 (c + 1))).cell? ⟨G, 1, none⟩ = some (.int .i64 (c + 1)) := (blk_cell A2.out 1).trans rfl
    have v2 : (V.setCell ⟨G, 1, none⟩ (.int .i64 (c + 1))).cell? ⟨G, 2, none⟩ = some (.bool false) := (blk_cell A2.out 2).trans rfl
    have f2 := blk_frozen A2.out 2
    by_cases hbad : 20000 < c + 1 ∨ 200 < deep
    · obtain rfl : bad = true := HBD.out.trans (decide_eq_true hbad)
      rcases (show 20000 < c + 1 ∨ (c + 1 ≤ 20000 ∧ 200 < deep) by omega) with hbad | ⟨hb3, hbad⟩
      · have SW : Hid (((V.setCell ⟨G, 1, none⟩ (.int .i64 (c + 1))).setCell ⟨G, 2, none⟩ (.bool true)) = V.setRow G #[.map (some mb), .int .i64 (c + 1), .bool true]) := (by rw [rowset V G (.map (some mb)) (.int .i64 c) (.bool false) _ _ BG.out]; exact (rowset2 _ G (.map (some mb)) (.int .i64 (c + 1)) (.bool false) (.bool true) _ (setRow_heap V G _ _ _ (0, 0) BG.out)).trans (setRow_setRow V G _ _))
        have HBO : Hid (∀ o, Below V.heap.size (V.setRow G #[.map (some mb), .int .i64 (c + 1), .bool true]) (World.alloc ((V.setCell ⟨G, 1, none⟩ (.int .i64 (c + 1))).setCell ⟨G, 2, none⟩ (.bool true)) o)) := fun o => by rw [SW.out]; exact (Below.refl _ _).alloc (by simp) o
        have HBL : Hid (Below V.heap.size (V.setRow G #[.map (some mb), .int .i64 (c + 1), .bool true]) ((V.setCell ⟨G, 1, none⟩ (.int .i64 (c + 1))).setCell ⟨G, 2, none⟩ (.bool true))) := by show Below _ _ _; rw [SW.out]; exact Below.refl _ _
        have KY := Lib.hid (KS.out _ _ HBL.out)
        have KZ := Lib.hid (fun o => KS.out _ _ (HBO.out o))
        have z3 : ∀ o, (World.alloc ((V.setCell ⟨G, 1, none⟩ (.int .i64 (c + 1))).setCell ⟨G, 2, none⟩ (.bool true)) o).cell? ⟨b, off + 3, none⟩ = some (.slice A 0 cp) := fun o => K3.out _ _ (HBO.out o)
        have BZL : Hid ((World.alloc ((V.setCell ⟨G, 1, none⟩ (.int .i64 (c + 1))).setCell ⟨G, 2, none⟩ (.bool true)) (.cells #[.int .i64 1, .int .i64 d, .string n, .slice none 0 0] 30)).heap[w.heap.size]? = some (.cells #[.int .i64 0, .int .i64 0, .string ⟨#[]⟩, .slice none 0 0] 30 (0, 0))) := ((HBO.out _).block _ (blk_lt BZ.out)).trans ((setRow_other _ G w.heap.size _ (by omega)).trans BZ.out)
        have BO : Hid ((World.alloc ((V.setCell ⟨G, 1, none⟩ (.int .i64 (c + 1))).setCell ⟨G, 2, none⟩ (.bool true)) (.cells #[.int .i64 1, .int .i64 d, .string n, .slice none 0 0] 30)).heap[V.heap.size]? = some (.cells #[.int .i64 1, .int .i64 d, .string n, .slice none 0 0] 30 (0, 0))) := blk_new_g (by simp [sz_setCell])
        have FB : Hid (Below w.heap.size (w.setRow G #[.map (some mb), .int .i64 (c + 1), .bool true]) (World.alloc ((V.setCell ⟨G, 1, none⟩ (.int .i64 (c + 1))).setCell ⟨G, 2, none⟩ (.bool true)) (.cells #[.int .i64 1, .int .i64 d, .string n, .slice none 0 0] 30)).drew) := ((row_more HG.out HVB.out).trans ((HBO.out _).mono (by have := HVB.out.size; omega))).drew
        have BZU : Hid ((World.alloc ((V.setCell ⟨G, 1, none⟩ (.int .i64 (c + 1))).setCell ⟨G, 2, none⟩ (.bool true)) (.cells #[.int .i64 1, .int .i64 d, .string n, .slice none 0 0] 30)).drew.heap[w.heap.size]? = some (.cells #[.int .i64 0, .int .i64 0, .string ⟨#[]⟩, .slice none 0 0] 30 (0, 0))) := BZL.out
        have BOU : Hid ((World.alloc ((V.setCell ⟨G, 1, none⟩ (.int .i64 (c + 1))).setCell ⟨G, 2, none⟩ (.bool true)) (.cells #[.int .i64 1, .int .i64 d, .string n, .slice none 0 0] 30)).drew.heap[V.heap.size]? = some (.cells #[.int .i64 1, .int .i64 d, .string n, .slice none 0 0] 30 (0, 0))) := BO.out
        clear SW HBO HBL BZL BO
        go_wp2_with fail
        go_region_held3 (fun w' => w'.cell? ⟨b, off, none⟩ = some (.int .i64 1) ∧ w'.cell? ⟨b, off + 1, none⟩ = some (.int .i64 d) ∧ w'.cell? ⟨b, off + 2, none⟩ = some (.string n)) (first | exact KY.out | exact KZ.out _) (first | fail)
        go_wp2_with fail
        generalize hW : (World.alloc ((V.setCell ⟨G, 1, none⟩ (.int .i64 (c + 1))).setCell ⟨G, 2, none⟩ (.bool true)) (.cells #[.int .i64 1, .int .i64 d, .string n, .slice none 0 0] 30)).drew = U at *
        clear hW z3 KY KZ v1 f1 y1 v2 f2
        have zr0 : World.cell? U ⟨w.heap.size, 0, none⟩ = some (.int .i64 0) := (blk_cell BZU.out 0).trans rfl
        have zf0 := blk_frozen BZU.out 0
        have zr1 : World.cell? U ⟨w.heap.size, 1, none⟩ = some (.int .i64 0) := (blk_cell BZU.out 1).trans rfl
        have zf1 := blk_frozen BZU.out 1
        have zr2 : World.cell? U ⟨w.heap.size, 2, none⟩ = some (.string ⟨#[]⟩) := (blk_cell BZU.out 2).trans rfl
        have zf2 := blk_frozen BZU.out 2
        have zr3 : World.cell? U ⟨w.heap.size, 3, none⟩ = some (.slice none 0 0) := (blk_cell BZU.out 3).trans rfl
        have zf3 := blk_frozen BZU.out 3
        have zo0 : World.cell? U ⟨V.heap.size, 0, none⟩ = some (.int .i64 1) := (blk_cell BOU.out 0).trans rfl
        have zo1 : World.cell? U ⟨V.heap.size, 1, none⟩ = some (.int .i64 d) := (blk_cell BOU.out 1).trans rfl
        have zo2 : World.cell? U ⟨V.heap.size, 2, none⟩ = some (.string n) := (blk_cell BOU.out 2).trans rfl
        have zo3 : World.cell? U ⟨V.heap.size, 3, none⟩ = some (.slice none 0 0) := (blk_cell BOU.out 3).trans rfl
        go_loop [69] (fun i => i = .int .i64 0) (fun _ => 0)
        case atStart => rfl
        case round =>
          obtain rfl := hrel
          go_wp2
          refine bodyPost_ret (v := .agg #[.int .i64 1, .int .i64 d, .string n, .slice none 0 0]) (by simp [results, Try.results118, go_sem, zr0, zr1, zr2, zr3]) rfl ⟨.mk 1 d n [], [.int .i64 1, .int .i64 d, .string n, .slice none 0 0], c + 1, rfl, fr_leaf' _ _ _ _ _ _ _ (Nat.zero_le _), below_store4 FB.out (by omega) _ _ _ _, ?_⟩
          first
          | (intro hx; cases hx; done)
          | exact fun _ => ⟨rfl, by omega⟩
      · have SW : Hid (((V.setCell ⟨G, 1, none⟩ (.int .i64 (c + 1))).setCell ⟨G, 2, none⟩ (.bool true)) = V.setRow G #[.map (some mb), .int .i64 (c + 1), .bool true]) := (by rw [rowset V G (.map (some mb)) (.int .i64 c) (.bool false) _ _ BG.out]; exact (rowset2 _ G (.map (some mb)) (.int .i64 (c + 1)) (.bool false) (.bool true) _ (setRow_heap V G _ _ _ (0, 0) BG.out)).trans (setRow_setRow V G _ _))
        have HBO : Hid (∀ o, Below V.heap.size (V.setRow G #[.map (some mb), .int .i64 (c + 1), .bool true]) (World.alloc ((V.setCell ⟨G, 1, none⟩ (.int .i64 (c + 1))).setCell ⟨G, 2, none⟩ (.bool true)) o)) := fun o => by rw [SW.out]; exact (Below.refl _ _).alloc (by simp) o
        have HBL : Hid (Below V.heap.size (V.setRow G #[.map (some mb), .int .i64 (c + 1), .bool true]) ((V.setCell ⟨G, 1, none⟩ (.int .i64 (c + 1))).setCell ⟨G, 2, none⟩ (.bool true))) := by show Below _ _ _; rw [SW.out]; exact Below.refl _ _
        have KY := Lib.hid (KS.out _ _ HBL.out)
        have KZ := Lib.hid (fun o => KS.out _ _ (HBO.out o))
        have z3 : ∀ o, (World.alloc ((V.setCell ⟨G, 1, none⟩ (.int .i64 (c + 1))).setCell ⟨G, 2, none⟩ (.bool true)) o).cell? ⟨b, off + 3, none⟩ = some (.slice A 0 cp) := fun o => K3.out _ _ (HBO.out o)
        have BZL : Hid ((World.alloc ((V.setCell ⟨G, 1, none⟩ (.int .i64 (c + 1))).setCell ⟨G, 2, none⟩ (.bool true)) (.cells #[.int .i64 1, .int .i64 d, .string n, .slice none 0 0] 30)).heap[w.heap.size]? = some (.cells #[.int .i64 0, .int .i64 0, .string ⟨#[]⟩, .slice none 0 0] 30 (0, 0))) := ((HBO.out _).block _ (blk_lt BZ.out)).trans ((setRow_other _ G w.heap.size _ (by omega)).trans BZ.out)
        have BO : Hid ((World.alloc ((V.setCell ⟨G, 1, none⟩ (.int .i64 (c + 1))).setCell ⟨G, 2, none⟩ (.bool true)) (.cells #[.int .i64 1, .int .i64 d, .string n, .slice none 0 0] 30)).heap[V.heap.size]? = some (.cells #[.int .i64 1, .int .i64 d, .string n, .slice none 0 0] 30 (0, 0))) := blk_new_g (by simp [sz_setCell])
        have FB : Hid (Below w.heap.size (w.setRow G #[.map (some mb), .int .i64 (c + 1), .bool true]) (World.alloc ((V.setCell ⟨G, 1, none⟩ (.int .i64 (c + 1))).setCell ⟨G, 2, none⟩ (.bool true)) (.cells #[.int .i64 1, .int .i64 d, .string n, .slice none 0 0] 30)).drew) := ((row_more HG.out HVB.out).trans ((HBO.out _).mono (by have := HVB.out.size; omega))).drew
        have BZU : Hid ((World.alloc ((V.setCell ⟨G, 1, none⟩ (.int .i64 (c + 1))).setCell ⟨G, 2, none⟩ (.bool true)) (.cells #[.int .i64 1, .int .i64 d, .string n, .slice none 0 0] 30)).drew.heap[w.heap.size]? = some (.cells #[.int .i64 0, .int .i64 0, .string ⟨#[]⟩, .slice none 0 0] 30 (0, 0))) := BZL.out
        have BOU : Hid ((World.alloc ((V.setCell ⟨G, 1, none⟩ (.int .i64 (c + 1))).setCell ⟨G, 2, none⟩ (.bool true)) (.cells #[.int .i64 1, .int .i64 d, .string n, .slice none 0 0] 30)).drew.heap[V.heap.size]? = some (.cells #[.int .i64 1, .int .i64 d, .string n, .slice none 0 0] 30 (0, 0))) := BO.out
        clear SW HBO HBL BZL BO
        go_wp2_with fail
        go_region_held3 (fun w' => w'.cell? ⟨b, off, none⟩ = some (.int .i64 1) ∧ w'.cell? ⟨b, off + 1, none⟩ = some (.int .i64 d) ∧ w'.cell? ⟨b, off + 2, none⟩ = some (.string n)) (first | exact KY.out | exact KZ.out _) (first | fail)
        go_wp2_with fail
        generalize hW : (World.alloc ((V.setCell ⟨G, 1, none⟩ (.int .i64 (c + 1))).setCell ⟨G, 2, none⟩ (.bool true)) (.cells #[.int .i64 1, .int .i64 d, .string n, .slice none 0 0] 30)).drew = U at *
        clear hW z3 KY KZ v1 f1 y1 v2 f2
        have zr0 : World.cell? U ⟨w.heap.size, 0, none⟩ = some (.int .i64 0) := (blk_cell BZU.out 0).trans rfl
        have zf0 := blk_frozen BZU.out 0
        have zr1 : World.cell? U ⟨w.heap.size, 1, none⟩ = some (.int .i64 0) := (blk_cell BZU.out 1).trans rfl
        have zf1 := blk_frozen BZU.out 1
        have zr2 : World.cell? U ⟨w.heap.size, 2, none⟩ = some (.string ⟨#[]⟩) := (blk_cell BZU.out 2).trans rfl
        have zf2 := blk_frozen BZU.out 2
        have zr3 : World.cell? U ⟨w.heap.size, 3, none⟩ = some (.slice none 0 0) := (blk_cell BZU.out 3).trans rfl
        have zf3 := blk_frozen BZU.out 3
        have zo0 : World.cell? U ⟨V.heap.size, 0, none⟩ = some (.int .i64 1) := (blk_cell BOU.out 0).trans rfl
        have zo1 : World.cell? U ⟨V.heap.size, 1, none⟩ = some (.int .i64 d) := (blk_cell BOU.out 1).trans rfl
        have zo2 : World.cell? U ⟨V.heap.size, 2, none⟩ = some (.string n) := (blk_cell BOU.out 2).trans rfl
        have zo3 : World.cell? U ⟨V.heap.size, 3, none⟩ = some (.slice none 0 0) := (blk_cell BOU.out 3).trans rfl
        go_loop [69] (fun i => i = .int .i64 0) (fun _ => 0)
        case atStart => rfl
        case round =>
          obtain rfl := hrel
          go_wp2
          refine bodyPost_ret (v := .agg #[.int .i64 1, .int .i64 d, .string n, .slice none 0 0]) (by simp [results, Try.results118, go_sem, zr0, zr1, zr2, zr3]) rfl ⟨.mk 1 d n [], [.int .i64 1, .int .i64 d, .string n, .slice none 0 0], c + 1, rfl, fr_leaf' _ _ _ _ _ _ _ (Nat.zero_le _), below_store4 FB.out (by omega) _ _ _ _, ?_⟩
          first
          | (intro hx; cases hx; done)
          | exact fun _ => ⟨rfl, by omega⟩
    · obtain rfl : bad = false := HBD.out.trans (decide_eq_false hbad)
      have hb1 : c + 1 ≤ 20000 := by omega
      have hb2 : deep ≤ 200 := by omega
      clear hbad
      have SW : Hid ((V.setCell ⟨G, 1, none⟩ (.int .i64 (c + 1))) = V.setRow G #[.map (some mb), .int .i64 (c + 1), .bool false]) := rowset V G (.map (some mb)) (.int .i64 c) (.bool false) _ _ BG.out
      have HBO : Hid (∀ o, Below V.heap.size (V.setRow G #[.map (some mb), .int .i64 (c + 1), .bool false]) (World.alloc (V.setCell ⟨G, 1, none⟩ (.int .i64 (c + 1))) o)) := fun o => by rw [SW.out]; exact (Below.refl _ _).alloc (by simp) o
      have HBL : Hid (Below V.heap.size (V.setRow G #[.map (some mb), .int .i64 (c + 1), .bool false]) (V.setCell ⟨G, 1, none⟩ (.int .i64 (c + 1)))) := by show Below _ _ _; rw [SW.out]; exact Below.refl _ _
      have KY := Lib.hid (KS.out _ _ HBL.out)
      have KZ := Lib.hid (fun o => KS.out _ _ (HBO.out o))
      have z3 : ∀ o, (World.alloc (V.setCell ⟨G, 1, none⟩ (.int .i64 (c + 1))) o).cell? ⟨b, off + 3, none⟩ = some (.slice A 0 cp) := fun o => K3.out _ _ (HBO.out o)
      have BZL : Hid ((World.alloc (V.setCell ⟨G, 1, none⟩ (.int .i64 (c + 1))) (.cells #[.int .i64 1, .int .i64 d, .string n, .slice none 0 0] 30)).heap[w.heap.size]? = some (.cells #[.int .i64 0, .int .i64 0, .string ⟨#[]⟩, .slice none 0 0] 30 (0, 0))) := ((HBO.out _).block _ (blk_lt BZ.out)).trans ((setRow_other _ G w.heap.size _ (by omega)).trans BZ.out)
      have BO : Hid ((World.alloc (V.setCell ⟨G, 1, none⟩ (.int .i64 (c + 1))) (.cells #[.int .i64 1, .int .i64 d, .string n, .slice none 0 0] 30)).heap[V.heap.size]? = some (.cells #[.int .i64 1, .int .i64 d, .string n, .slice none 0 0] 30 (0, 0))) := blk_new_g (by simp [sz_setCell])
      have FB : Hid (Below w.heap.size (w.setRow G #[.map (some mb), .int .i64 (c + 1), .bool false]) (World.alloc (V.setCell ⟨G, 1, none⟩ (.int .i64 (c + 1))) (.cells #[.int .i64 1, .int .i64 d, .string n, .slice none 0 0] 30)).drew) := ((row_more HG.out HVB.out).trans ((HBO.out _).mono (by have := HVB.out.size; omega))).drew
      have BZU : Hid ((World.alloc (V.setCell ⟨G, 1, none⟩ (.int .i64 (c + 1))) (.cells #[.int .i64 1, .int .i64 d, .string n, .slice none 0 0] 30)).drew.heap[w.heap.size]? = some (.cells #[.int .i64 0, .int .i64 0, .string ⟨#[]⟩, .slice none 0 0] 30 (0, 0))) := BZL.out
      have BOU : Hid ((World.alloc (V.setCell ⟨G, 1, none⟩ (.int .i64 (c + 1))) (.cells #[.int .i64 1, .int .i64 d, .string n, .slice none 0 0] 30)).drew.heap[V.heap.size]? = some (.cells #[.int .i64 1, .int .i64 d, .string n, .slice none 0 0] 30 (0, 0))) := BO.out
      clear SW HBO HBL BZL BO
      go_wp2_with fail
      go_region_held3 (fun w' => w'.cell? ⟨b, off, none⟩ = some (.int .i64 1) ∧ w'.cell? ⟨b, off + 1, none⟩ = some (.int .i64 d) ∧ w'.cell? ⟨b, off + 2, none⟩ = some (.string n)) (first | exact KY.out | exact KZ.out _) (first | fail)
      go_wp2_with fail
      generalize hW : (World.alloc (V.setCell ⟨G, 1, none⟩ (.int .i64 (c + 1))) (.cells #[.int .i64 1, .int .i64 d, .string n, .slice none 0 0] 30)).drew = U at *
      clear hW z3 KY KZ v1 f1 y1 v2 f2
      have zr0 : World.cell? U ⟨w.heap.size, 0, none⟩ = some (.int .i64 0) := (blk_cell BZU.out 0).trans rfl
      have zf0 := blk_frozen BZU.out 0
      have zr1 : World.cell? U ⟨w.heap.size, 1, none⟩ = some (.int .i64 0) := (blk_cell BZU.out 1).trans rfl
      have zf1 := blk_frozen BZU.out 1
      have zr2 : World.cell? U ⟨w.heap.size, 2, none⟩ = some (.string ⟨#[]⟩) := (blk_cell BZU.out 2).trans rfl
      have zf2 := blk_frozen BZU.out 2
      have zr3 : World.cell? U ⟨w.heap.size, 3, none⟩ = some (.slice none 0 0) := (blk_cell BZU.out 3).trans rfl
      have zf3 := blk_frozen BZU.out 3
      have zo0 : World.cell? U ⟨V.heap.size, 0, none⟩ = some (.int .i64 1) := (blk_cell BOU.out 0).trans rfl
      have zo1 : World.cell? U ⟨V.heap.size, 1, none⟩ = some (.int .i64 d) := (blk_cell BOU.out 1).trans rfl
      have zo2 : World.cell? U ⟨V.heap.size, 2, none⟩ = some (.string n) := (blk_cell BOU.out 2).trans rfl
      have zo3 : World.cell? U ⟨V.heap.size, 3, none⟩ = some (.slice none 0 0) := (blk_cell BOU.out 3).trans rfl
      go_loop [69] (fun i => i = .int .i64 0) (fun _ => 0)
      case atStart => rfl
      case round =>
        obtain rfl := hrel
        go_wp2
        refine bodyPost_ret (v := .agg #[.int .i64 1, .int .i64 d, .string n, .slice none 0 0]) (by simp [results, Try.results118, go_sem, zr0, zr1, zr2, zr3]) rfl ⟨.mk 1 d n [], [.int .i64 1, .int .i64 d, .string n, .slice none 0 0], c + 1, rfl, fr_leaf' _ _ _ _ _ _ _ (Nat.zero_le _), below_store4 FB.out (by omega) _ _ _ _, ?_⟩
        first
        | (intro hx; cases hx; done)
        | exact fun _ => ⟨rfl, by omega⟩

/-- The program's putter at every type in order. -/
theorem ImplCop_all : ∀ (x : Ty), x.size ≤ 1048576 → ImplCop x :=
  Ty.induct fun k d n ks ih hl => by
    simp only [Ty.size] at hl
    have := Ty.sizes_len ks
    exact ImplCop_of k d n ks (by omega) fun x hx => ih x hx (by have := Ty.size_mem hx; omega)
theorem ImplPut_all (bs : List (Int × Ty)) (hz : ∀ p ∈ bs, p.2.wf ∧ p.2.size ≤ 1048576) : ∀ (x : Ty), x.wf → x.ok → x.size ≤ 1048576 → ImplPut bs x :=
  Ty.induct fun k d n ks ih hw ho hl => by
    simp only [Ty.size] at hl
    simp only [Ty.ok] at ho
    have hlen := Ty.sizes_len ks
    have hw' := hw
    simp only [Ty.wf] at hw'
    by_cases hk : k = 1
    · subst hk
      have hks : ks = [] := by
        rcases hw' with ⟨_, _, _, h⟩ | ⟨h, _⟩
        · exact h
        · omega
      subst hks
      cases hg : bget bs d with
      | some y =>
        obtain ⟨i, hi⟩ := bget_mem hg
        have := hz _ hi
        exact ImplPut_some bs d n y hg this.1 (ImplCop_all y this.2) ho.2.1
      | none => exact ImplPut_none bs d n hg ho.2.1
    · refine ImplPut_con bs k d n ks (by omega) hk fun x hx => ih x hx ?_ (Ty.oks_mem ho.2.2.2.2 x hx) (by have := Ty.size_mem hx; omega)
      rcases hw' with ⟨_, _, _, rfl⟩ | hw'
      · cases hx
      · exact Ty.wfs_mem hw'.2.2.2 x hx

end Go.Proofs.Ytbbpkjcmbakfeaa
