/- Binds put into a type by the program; no condition. -/
import Derived.Test.YtbbpkjcmbakfeaaPutN
namespace Go.Proofs.Ytbbpkjcmbakfeaa
open Go.RowKit
set_option linter.unusedVariables false
set_option linter.unusedSimpArgs false

def putRes (bs : List (Int × Ty)) (x : Ty) : Ty := if (x.lrg bs 1 20000).1 = true then .mk 0 0 ⟨#[]⟩ [] else x.app bs
set_option maxRecDepth 100000 in
set_option maxHeartbeats 8000000 in
theorem implPutIn (bs : List (Int × Ty)) (hz : ∀ p ∈ bs, p.2.wf ∧ p.2.size ≤ 1048576) (x : Ty) (hw : x.wf) (ho : x.ok) (hs : x.size ≤ 1048576) (W0 w : World) (cs : List Value) (b off mb : Nat) (me : List (Int × Value)) (h : Rd W0 x.enc cs) (hc : CellsAt w b off cs) (hlb : b < w.heap.size) (hb : Below W0.heap.size W0 w) (hmo : MapOf W0 mb me bs) :
    Calls Try.prog 85 #[.map (some mb), .pointer (some ⟨b, off, none⟩)] w fun e w' => ∃ cs', e = .returned (.tuple #[.agg cs'.toArray, .bool (!(x.lrg bs 1 20000).1)]) ∧ Fr w.heap.size w' (putRes bs x).enc cs' ∧ Below w.heap.size w w' := by
  have HB : Hid (Below w.heap.size w ((w.alloc (.cells #[.int .i64 0, .int .i64 0, .string ⟨#[]⟩, .slice none 0 0] 30)).alloc (.cells #[.map (some mb), .int .i64 0, .bool false] 166))) := (below_alloc1 _ _).alloc (by simp) _
  have BG := Lib.hid (blk_new_g (w := w.alloc (.cells #[.int .i64 0, .int .i64 0, .string ⟨#[]⟩, .slice none 0 0] 30)) (g := w.heap.size + 1) (o := (.cells #[.map (some mb), .int .i64 0, .bool false] 166)) (by simp))
  have BZ := Lib.hid (blk_old (blk_new w (.cells #[.int .i64 0, .int .i64 0, .string ⟨#[]⟩, .slice none 0 0] 30)) (.cells #[.map (some mb), .int .i64 0, .bool false] 166))
  have SW : Hid (w.heap.size + 2 ≤ ((w.alloc (.cells #[.int .i64 0, .int .i64 0, .string ⟨#[]⟩, .slice none 0 0] 30)).alloc (.cells #[.map (some mb), .int .i64 0, .bool false] 166)).heap.size) := (by show _ ≤ _; simp)
  have CAL := Lib.hid (ImplPut_all bs hz x hw ho hs W0 ((w.alloc (.cells #[.int .i64 0, .int .i64 0, .string ⟨#[]⟩, .slice none 0 0] 30)).alloc (.cells #[.map (some mb), .int .i64 0, .bool false] 166)) cs b off (w.heap.size + 1) mb me 1 0 h (hc.move (HB.out.block b hlb)) (by omega) (hb.trans (HB.out.mono hb.size)) BG.out (by have := hb.size; omega) (by omega) (by omega) (by omega) (by omega) hmo)
  clear h hc hb hmo hlb
  rw [show (20000 : Int) - 0 = 20000 by omega] at CAL
  obtain ⟨r, hr⟩ : ∃ r, r = x.lrg bs 1 20000 := ⟨_, rfl⟩
  rw [← hr] at CAL ⊢
  have HQ0 : Hid (∀ q, r.1 = q → (x.lrg bs 1 20000).1 = q) := fun q hq => by rw [← hr]; exact hq
  clear hr
  obtain ⟨q, l⟩ := r
  cases q with
  | true =>
    have HQ : Hid ((x.lrg bs 1 20000).1 = true) := HQ0.out true rfl
    go_enter Try.func85, Try.ntmps85
    go_wp2_with (go_at_call 118; refine CAL.out.mono ?_; rintro e w1 ⟨yy, cs', c1, rfl, hfr, hb1, hres⟩; obtain ⟨k1, d1, n1, A1, l1, p1, rfl⟩ := ty_cells hfr.rd; have FR := Lib.hid hfr; have RES := Lib.hid hres; have BP1 := Lib.hid ((hb1.block (w.heap.size + 1) (by have := SW.out; omega)).trans (setRow_heap _ _ _ _ _ (0, 0) BG.out)); have BZ1 := Lib.hid ((hb1.block w.heap.size (by have := SW.out; omega)).trans ((setRow_other _ (w.heap.size + 1) w.heap.size _ (by omega)).trans BZ.out)); have HB1 := Lib.hid (HB.out.trans (below_row_old (hb1) (Below.refl _ _) (by omega) HB.out.size)); clear hfr hres hb1 CAL; have BU := Lib.hid (blk_old BZ1.out (.cells #[.int .i64 k1, .int .i64 d1, .string n1, .slice A1 l1 p1] 30)); have pb : World.cell? (w1.alloc (.cells #[.int .i64 k1, .int .i64 d1, .string n1, .slice A1 l1 p1] 30)) ⟨w.heap.size + 1, 2, none⟩ = some (.bool true) := (blk_cell (blk_old BP1.out (.cells #[.int .i64 k1, .int .i64 d1, .string n1, .slice A1 l1 p1] 30)) 2).trans rfl; have zr0 : World.cell? (w1.alloc (.cells #[.int .i64 k1, .int .i64 d1, .string n1, .slice A1 l1 p1] 30)) ⟨w.heap.size, 0, none⟩ = some (.int .i64 0) := (blk_cell BU.out 0).trans rfl; have zf0 := blk_frozen BU.out 0; have zr1 : World.cell? (w1.alloc (.cells #[.int .i64 k1, .int .i64 d1, .string n1, .slice A1 l1 p1] 30)) ⟨w.heap.size, 1, none⟩ = some (.int .i64 0) := (blk_cell BU.out 1).trans rfl; have zf1 := blk_frozen BU.out 1; have zr2 : World.cell? (w1.alloc (.cells #[.int .i64 k1, .int .i64 d1, .string n1, .slice A1 l1 p1] 30)) ⟨w.heap.size, 2, none⟩ = some (.string ⟨#[]⟩) := (blk_cell BU.out 2).trans rfl; have zf2 := blk_frozen BU.out 2; have zr3 : World.cell? (w1.alloc (.cells #[.int .i64 k1, .int .i64 d1, .string n1, .slice A1 l1 p1] 30)) ⟨w.heap.size, 3, none⟩ = some (.slice none 0 0) := (blk_cell BU.out 3).trans rfl; have zf3 := blk_frozen BU.out 3)
    refine bodyPost_ret (v := .tuple #[.agg #[.int .i64 0, .int .i64 0, .string ⟨#[]⟩, .slice none 0 0], .bool false]) (by simp [results, Try.results85, go_sem, zr0, zr1, zr2, zr3]) rfl ⟨[.int .i64 0, .int .i64 0, .string ⟨#[]⟩, .slice none 0 0], rfl, ?_, ?_⟩
    · rw [putRes, if_pos HQ.out]
      exact fr_leaf' _ _ _ _ _ _ _ (Nat.zero_le _)
    · exact below_store4 (HB1.out.alloc HB1.out.size _) (by omega) _ _ _ _
  | false =>
    have HQ : Hid ((x.lrg bs 1 20000).1 = false) := HQ0.out false rfl
    go_enter Try.func85, Try.ntmps85
    go_wp2_with (go_at_call 118; refine CAL.out.mono ?_; rintro e w1 ⟨yy, cs', c1, rfl, hfr, hb1, hres⟩; obtain ⟨k1, d1, n1, A1, l1, p1, rfl⟩ := ty_cells hfr.rd; have FR := Lib.hid hfr; have RES := Lib.hid hres; have BP1 := Lib.hid ((hb1.block (w.heap.size + 1) (by have := SW.out; omega)).trans (setRow_heap _ _ _ _ _ (0, 0) BG.out)); have BZ1 := Lib.hid ((hb1.block w.heap.size (by have := SW.out; omega)).trans ((setRow_other _ (w.heap.size + 1) w.heap.size _ (by omega)).trans BZ.out)); have HB1 := Lib.hid (HB.out.trans (below_row_old (hb1) (Below.refl _ _) (by omega) HB.out.size)); clear hfr hres hb1 CAL; have BU := Lib.hid (blk_old BZ1.out (.cells #[.int .i64 k1, .int .i64 d1, .string n1, .slice A1 l1 p1] 30)); have pb : World.cell? (w1.alloc (.cells #[.int .i64 k1, .int .i64 d1, .string n1, .slice A1 l1 p1] 30)) ⟨w.heap.size + 1, 2, none⟩ = some (.bool false) := (blk_cell (blk_old BP1.out (.cells #[.int .i64 k1, .int .i64 d1, .string n1, .slice A1 l1 p1] 30)) 2).trans rfl; have zr0 : World.cell? (w1.alloc (.cells #[.int .i64 k1, .int .i64 d1, .string n1, .slice A1 l1 p1] 30)) ⟨w.heap.size, 0, none⟩ = some (.int .i64 0) := (blk_cell BU.out 0).trans rfl; have zf0 := blk_frozen BU.out 0; have zr1 : World.cell? (w1.alloc (.cells #[.int .i64 k1, .int .i64 d1, .string n1, .slice A1 l1 p1] 30)) ⟨w.heap.size, 1, none⟩ = some (.int .i64 0) := (blk_cell BU.out 1).trans rfl; have zf1 := blk_frozen BU.out 1; have zr2 : World.cell? (w1.alloc (.cells #[.int .i64 k1, .int .i64 d1, .string n1, .slice A1 l1 p1] 30)) ⟨w.heap.size, 2, none⟩ = some (.string ⟨#[]⟩) := (blk_cell BU.out 2).trans rfl; have zf2 := blk_frozen BU.out 2; have zr3 : World.cell? (w1.alloc (.cells #[.int .i64 k1, .int .i64 d1, .string n1, .slice A1 l1 p1] 30)) ⟨w.heap.size, 3, none⟩ = some (.slice none 0 0) := (blk_cell BU.out 3).trans rfl; have zf3 := blk_frozen BU.out 3)
    refine bodyPost_ret (v := .tuple #[.agg #[.int .i64 k1, .int .i64 d1, .string n1, .slice A1 l1 p1], .bool true]) (by simp [results, Try.results85, go_sem, zr0, zr1, zr2, zr3]) rfl ⟨[.int .i64 k1, .int .i64 d1, .string n1, .slice A1 l1 p1], rfl, ?_, ?_⟩
    · rw [putRes, if_neg (by rw [HQ.out]; decide), ← (RES.out (by first | rfl | trivial)).1]
      have sw := SW.out
      exact (fr_store4 (FR.out.below (below_alloc1 _ _)) (by omega) _ _ _ _).lower (by omega)
    · exact below_store4 (HB1.out.alloc HB1.out.size _) (by omega) _ _ _ _

end Go.Proofs.Ytbbpkjcmbakfeaa
