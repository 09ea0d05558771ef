/- The program's putter at a variable; no condition. -/
import Derived.Test.YtbbpkjcmbakfeaaPutI
import Derived.Outline
namespace Go.Proofs.Ytbbpkjcmbakfeaa
open Go.RowKit
set_option linter.unusedVariables false
set_option linter.unusedSimpArgs false

theorem row_more {w w1 : World} {G : Nat} {X0 X : Array Value} {E : TypeId} (h : w.heap[G]? = some (.cells X0 E (0, 0))) (hb : Below w.heap.size w w1) : Below w.heap.size (w.setRow G X) (w1.setRow G X) :=
  below_row2 ((row_self h).trans hb) (blk_lt h)

theorem HasMap.look2 {κ : Type} [DecidableEq κ] {P : Program} {k e t : TypeId} {KK : KeyK P k κ} {b : Nat} {es : List (κ × Value)} {w : World} (h : HasMap KK b es w) {z : Value} (hz : (zeroValue e).run P w = .ok z w) (ht : P.underlying t = some (.map k e)) (y : κ) (hy : KK.ok y) (c : Value) (hc : (mget es y).getD z = c) (f : Bool) (hf : (mget es y).isSome = f) :
    (Instr.lookup t (.map (some b)) (KK.val y) true).run P w = .ok (.tuple #[c, .bool f]) w := by
  obtain ⟨D, hown, hat, hh⟩ := h.at_ y hy z
  obtain ⟨v, ps, hrun, hv⟩ := hown.look_ok KK.law ht hz (show RawR z = some (.held z, []) from rfl) (KK.key y hy)
  rw [hat, hc] at hv
  obtain rfl := rawR_inv hv
  rw [hh, hf] at hrun
  exact hrun

set_option maxRecDepth 100000 in
set_option maxHeartbeats 8000000 in
theorem ImplPut_some (bs : List (Int × Ty)) (d : Int) (n : ByteArray) (y : Ty) (hy : bget bs d = some y) (hyw : y.wf) (hyc : ImplCop y) (hd : (Lit.int .i64 d).wf = true) : ImplPut bs (.mk 1 d n []) := by
  intro W0 w cs b off G mb me deep c h hc hbG hb hg hG h0 h1 h2 h3 hmo
  obtain ⟨A, cp, rfl, _, _, h4⟩ := Ty.open_ h
  have HG := Lib.hid hg
  have HGB := Lib.hid hG
  have HB := Lib.hid hb
  have GL := Lib.hid (blk_lt hg)
  have gl : G < w.heap.size := blk_lt hg
  obtain ⟨qs, hq, hqr⟩ : ∃ cs : List Value, mget me d = some (.agg cs.toArray) ∧ Rd W0 y.enc cs := by
    have := hmo.2 d hd
    rw [hy] at this
    exact this
  obtain ⟨k', d', n', A', l', c', rfl⟩ := ty_cells hqr
  have HMK : Hid (∀ w', Below W0.heap.size W0 w' → HasMap keyI64 mb me w') := fun w' hb => hmo.1.below hb
  have MG := Lib.hid (show (mget me d).getD (.agg #[.int .i64 0, .int .i64 0, .string ⟨#[]⟩, .slice none 0 0]) = .agg #[.int .i64 k', .int .i64 d', .string n', .slice A' l' c'] by rw [hq]; rfl)
  have MS := Lib.hid (show (mget me d).isSome = true by rw [hq]; rfl)
  have DW := Lib.hid hd
  have QR := Lib.hid hqr
  have YC := Lib.hid hyc
  have k0 : (w.alloc (.cells #[.int .i64 0, .int .i64 0, .string ⟨#[]⟩, .slice none 0 0] 30)).cell? ⟨b, off, none⟩ = some (.int .i64 1) := (cell_below (w1 := (w.alloc (.cells #[.int .i64 0, .int .i64 0, .string ⟨#[]⟩, .slice none 0 0] 30))) (below_alloc1 _ _) (hc 0 _ rfl))
  have HB0 : Hid (Below w.heap.size w (w.alloc (.cells #[.int .i64 0, .int .i64 0, .string ⟨#[]⟩, .slice none 0 0] 30))) := below_alloc1 _ _
  have KS : Hid (∀ w', Below w.heap.size w w' → w'.cell? ⟨G, 0, none⟩ = some (.map (some mb)) ∧ w'.cell? ⟨b, off + 1, none⟩ = some (.int .i64 d)) := fun w' hb => ⟨(blk_cell (blk_below hg hb) 0).trans rfl, cell_below hb (hc 1 _ rfl)⟩
  have KY := Lib.hid (KS.out _ HB0.out)
  have KZ : Hid (∀ o, (World.alloc (w.alloc (.cells #[.int .i64 0, .int .i64 0, .string ⟨#[]⟩, .slice none 0 0] 30)) o).cell? ⟨G, 0, none⟩ = some (.map (some mb)) ∧ (World.alloc (w.alloc (.cells #[.int .i64 0, .int .i64 0, .string ⟨#[]⟩, .slice none 0 0] 30)) o).cell? ⟨b, off + 1, none⟩ = some (.int .i64 d)) := fun o => KS.out _ (HB0.out.alloc HB0.out.size o)
  have R1 := Lib.hid (Ty.lrg_some (ks := []) (n := n) (deep := deep) (left := 20000 - c) hy)
  have R2 := Lib.hid (show (Ty.mk 1 d n []).app bs = y by rw [Ty.app, if_pos rfl, hy]; rfl)
  have R3 := Lib.hid (Ty.fault_big y hyw deep (20000 - c))
  have lk : ∀ w', Below W0.heap.size W0 w' → (Instr.lookup 120 (.map (some mb)) (.int .i64 d) true).run Try.prog w' = .ok (.tuple #[.agg #[.int .i64 k', .int .i64 d', .string n', .slice A' l' c'], .bool true]) w' := fun w' hb => (HMK.out w' hb).look2 (Try.zeroValue30 _) mapI64Type d hd _ MG.out true MS.out
  have lk0 := lk _ (HB.out.trans (HB0.out.mono HB.out.size)).drew
  have lk1 : ∀ o, _ := fun o => lk _ ((HB.out.trans (HB0.out.mono HB.out.size)).alloc (Nat.le_trans HB.out.size HB0.out.size) o).drew
  rw [R1.out, R2.out, R3.out]
  clear lk
  have HBW : Hid (Below w.heap.size w ((w.alloc (.cells #[.int .i64 0, .int .i64 0, .string ⟨#[]⟩, .slice none 0 0] 30)).alloc (.cells #[.int .i64 k', .int .i64 d', .string n', .slice A' l' c'] 30)).drew) := (HB0.out.alloc HB0.out.size _).drew
  have BG1 : Hid (((w.alloc (.cells #[.int .i64 0, .int .i64 0, .string ⟨#[]⟩, .slice none 0 0] 30)).alloc (.cells #[.int .i64 k', .int .i64 d', .string n', .slice A' l' c'] 30)).drew.heap[G]? = some (.cells #[.map (some mb), .int .i64 c, .bool false] 166 (0, 0))) := blk_below hg HBW.out
  have BZ1 : Hid (((w.alloc (.cells #[.int .i64 0, .int .i64 0, .string ⟨#[]⟩, .slice none 0 0] 30)).alloc (.cells #[.int .i64 k', .int .i64 d', .string n', .slice A' l' c'] 30)).drew.heap[w.heap.size]? = some (.cells #[.int .i64 0, .int .i64 0, .string ⟨#[]⟩, .slice none 0 0] 30 (0, 0))) := blk_old (blk_new w _) _
  have BY1 : Hid (((w.alloc (.cells #[.int .i64 0, .int .i64 0, .string ⟨#[]⟩, .slice none 0 0] 30)).alloc (.cells #[.int .i64 k', .int .i64 d', .string n', .slice A' l' c'] 30)).drew.heap[w.heap.size + 1]? = some (.cells #[.int .i64 k', .int .i64 d', .string n', .slice A' l' c'] 30 (0, 0))) := blk_new_g (by simp)
  have CAL := Lib.hid (hyc W0 ((w.alloc (.cells #[.int .i64 0, .int .i64 0, .string ⟨#[]⟩, .slice none 0 0] 30)).alloc (.cells #[.int .i64 k', .int .i64 d', .string n', .slice A' l' c'] 30)).drew _ (w.heap.size + 1) 0 G (.map (some mb)) deep c hqr (fun j u hu => by rw [Nat.zero_add]; exact (blk_cell BY1.out j).trans (by simpa using hu)) (by omega) (HB.out.trans (HBW.out.mono HB.out.size)) BG1.out hG h0 h1 h2 h3)
  have SW : Hid (w.heap.size + 2 ≤ ((w.alloc (.cells #[.int .i64 0, .int .i64 0, .string ⟨#[]⟩, .slice none 0 0] 30)).alloc (.cells #[.int .i64 k', .int .i64 d', .string n', .slice A' l' c'] 30)).drew.heap.size) := (by show _ ≤ _; simp)
  clear h hc h4 hb hg hG hbG hmo hq hqr hd hyc hyw hy R1 R2 R3
  go_enter Try.func118, Try.ntmps118
  go_wp2_with fail
  go_region_held3 (fun w' => w'.cell? ⟨G, 0, none⟩ = some (.map (some mb)) ∧ w'.cell? ⟨b, off + 1, none⟩ = some (.int .i64 d)) (first | exact KY.out | exact KZ.out _) (first | fail)
  all_goals
    clear lk0 lk1
    go_wp2_with (go_at_call 134; refine CAL.out.mono ?_; rintro e w2 ⟨yy, cs', c1, rfl, hfr, hb2, hres⟩; obtain ⟨k1, d1, n1, A1, l1, p1, rfl⟩ := ty_cells hfr.rd; have BZ2 := Lib.hid ((hb2.block w.heap.size (by have := SW.out; omega)).trans ((setRow_other _ G w.heap.size _ (by omega)).trans BZ1.out)); have FR := Lib.hid hfr; have BB := Lib.hid ((row_more (X := #[.map (some mb), .int .i64 c1, .bool (y.big deep (20000 - c)).1]) HG.out HBW.out).trans (hb2.mono (by have := SW.out; omega))); have RES := Lib.hid hres; have zr0 : World.cell? w2 ⟨w.heap.size, 0, none⟩ = some (.int .i64 0) := (blk_cell BZ2.out 0).trans rfl; have zf0 := blk_frozen BZ2.out 0; have zr1 : World.cell? w2 ⟨w.heap.size, 1, none⟩ = some (.int .i64 0) := (blk_cell BZ2.out 1).trans rfl; have zf1 := blk_frozen BZ2.out 1; have zr2 : World.cell? w2 ⟨w.heap.size, 2, none⟩ = some (.string ⟨#[]⟩) := (blk_cell BZ2.out 2).trans rfl; have zf2 := blk_frozen BZ2.out 2; have zr3 : World.cell? w2 ⟨w.heap.size, 3, none⟩ = some (.slice none 0 0) := (blk_cell BZ2.out 3).trans rfl; have zf3 := blk_frozen BZ2.out 3; clear hfr hb2 hres CAL)
    refine bodyPost_ret (v := .agg #[.int .i64 k1, .int .i64 d1, .string n1, .slice A1 l1 p1]) (by simp [results, Try.results118, go_sem, zr0, zr1, zr2, zr3]) rfl ⟨yy, [.int .i64 k1, .int .i64 d1, .string n1, .slice A1 l1 p1], c1, rfl, ?_, below_store4 BB.out (by omega) _ _ _ _, RES.out⟩
    have sw := SW.out
    exact (fr_store4 FR.out (by omega) _ _ _ _).lower (by omega)

end Go.Proofs.Ytbbpkjcmbakfeaa
