/- The program's putter: binds put into a type, counted; no condition. -/
import Derived.Test.YtbbpkjcmbakfeaaPutC
import Derived.Test.YtbbpkjcmbakfeaaAppL
import Derived.Deep.RegionWith
namespace Go.Proofs.Ytbbpkjcmbakfeaa
open Go.RowKit
set_option linter.unusedVariables false
set_option linter.unusedSimpArgs false

section
variable {κ : Type} [DecidableEq κ] {P : Program} {k e t : TypeId} {KK : KeyK P k κ} {b : Nat} {es : List (κ × Value)} {w : World}
/-- A look at a map that was made here, at a step of a region that draws its order. -/
theorem step_map_get2 {ops : Array Oper} {o : Oper} {a : Act} {K : Act → World → Prop} {Q : Exit → Act → World → Prop} {E : Prop} (hg : o.guard = none) (m x : Operand) (hop : o.op = .lookup t m x true)
    {z : Value} (hz : (zeroValue e).run P w = .ok z w) (ht : P.underlying t = some (.map k e)) (hm : a.eval m = .map (some b)) (h : HasMap KK b es w) (y : κ) (hx : a.eval x = KK.val y) (hy : KK.ok y) (c : Value) (hc : (mget es y).getD z = c) (f : Bool) (hf : (mget es y).isSome = f)
    (hK : K (a.put o.dst (.tuple #[c, .bool f])) w) : if Region.wanted o (yielded ops a.tmps) = true then Oper.wp P o a w K Q else E := by
  have hw : Region.wanted o (yielded ops a.tmps) = true := by simp [Region.wanted, hg]
  rw [if_pos hw]
  obtain ⟨D, hown, hat, hh⟩ := h.at_ y hy z
  obtain ⟨v, ps, hrun, hv⟩ := hown.look_ok KK.law ht hz (show RawR z = some (.held z, []) from rfl) (KK.key y hy)
  rw [hat, hc] at hv
  obtain rfl := rawR_inv hv
  rw [hh, hf] at hrun
  unfold Oper.wp
  simp [execOp, hop, hm, hx, hrun, Result.andThen]
  exact hK
end
theorem mapI64Type : Try.prog.underlying 120 = some (.map 2 30) := by kernel_rfl
/-- The map of these entries holds these binds. -/
def MapOf (W0 : World) (mb : Nat) (es : List (Int × Value)) (bs : List (Int × Ty)) : Prop :=
  HasMap keyI64 mb es W0 ∧ ∀ d, (Lit.int .i64 d).wf = true → match bget bs d with | none => mget es d = none | some y => ∃ cs : List Value, mget es d = some (.agg cs.toArray) ∧ Rd W0 y.enc cs
def ImplPut (bs : List (Int × Ty)) (x : Ty) : Prop := ∀ (W0 w : World) (cs : List Value) (b off G mb : Nat) (es : List (Int × Value)) (deep c : Int), Rd W0 x.enc cs → CellsAt w b off cs → b ≠ G → Below W0.heap.size W0 w → w.heap[G]? = some (.cells #[.map (some mb), .int .i64 c, .bool false] 166 (0, 0)) → W0.heap.size ≤ G → 0 ≤ c → c ≤ 20000 → 0 ≤ deep → deep ≤ 201 → MapOf W0 mb es bs →
  Calls Try.prog 118 #[.pointer (some ⟨G, 0, none⟩), .pointer (some ⟨b, off, none⟩), .int .i64 deep] w (PutAns w G (.map (some mb)) (x.lrg bs deep (20000 - c)) (x.app bs))

theorem Ty.bigs_wf : ∀ (xs : List Ty), (∀ x ∈ xs, x.wf → ∀ deep left, x.fault deep left = x.big deep left) → Ty.wfs xs → ∀ deep left, Ty.faults xs deep left = Ty.bigs xs deep left
  | [], _, _, deep, left => rfl
  | x :: xs, ih, hw, deep, left => by
    have hwx : x.wf := Ty.wfs_mem hw x (by simp)
    have hws : Ty.wfs xs := Ty.wfs_mk fun y hy => Ty.wfs_mem hw y (by simp [hy])
    rw [Ty.faults, Ty.bigs, ih x (by simp) hwx]
    split
    · rfl
    · exact Ty.bigs_wf xs (fun y hy => ih y (by simp [hy])) hws _ _
theorem Ty.fault_big : ∀ (x : Ty), x.wf → ∀ deep left, x.fault deep left = x.big deep left :=
  Ty.induct fun k d n ks ih hw deep left => by
    simp only [Ty.wf] at hw
    rw [Ty.fault, Ty.big]
    by_cases hb : left - 1 < 0 ∨ 200 < deep
    · rw [if_pos hb, if_pos hb]
    · rw [if_neg hb, if_neg hb]
      rcases hw with ⟨hk, hd, hn, rfl⟩ | ⟨hk, hd, hn, hw⟩
      · rw [if_pos hk]
        simp [hn, Ty.bigs, hd]
      · rw [if_neg (by omega), if_pos hk, if_neg (by intro h; rcases h with h | h; exact h hd; exact hn h), Ty.bigs_wf ks (fun x hx => ih x hx) hw]

set_option maxRecDepth 100000 in
set_option maxHeartbeats 8000000 in
theorem ImplPut_con (bs : List (Int × Ty)) (k d : Int) (n : ByteArray) (ks : List Ty) (hn : ks.length ≤ 1048576) (hk : k ≠ 1) (ih : ∀ x ∈ ks, ImplPut bs x) : ImplPut bs (.mk k d n ks) := by
  intro W0 w cs b off G mb me deep c h hc hbG hb hg hG h0 h1 h2 h3 hmo
  obtain ⟨A, cp, rfl, _, _, h4⟩ := Ty.open_ h
  have IH := Lib.hid ih
  have H4 := Lib.hid h4
  have HG := Lib.hid hg
  have HGB := Lib.hid hG
  have HB := Lib.hid hb
  have GL := Lib.hid (blk_lt hg)
  have gl : G < w.heap.size := blk_lt hg
  have KC : Hid (∀ w' X (i : Nat) (u : Value), Below w.heap.size (w.setRow G X) w' → [.int .i64 k, .int .i64 d, .string n, .slice A ks.length cp][i]? = some u → w'.cell? ⟨b, off + i, none⟩ = some u) := fun w' X i u hb hi => (World.cell?_of_block (a := ⟨b, off + i, none⟩) ((hb.block b (cell_lt (hc i u hi))).trans (setRow_other w G b X hbG))).trans (hc i u hi)
  have KS : Hid (∀ w' X, Below w.heap.size (w.setRow G X) w' → w'.cell? ⟨b, off, none⟩ = some (.int .i64 k) ∧ w'.cell? ⟨b, off + 1, none⟩ = some (.int .i64 d) ∧ w'.cell? ⟨b, off + 2, none⟩ = some (.string n)) := fun w' X hb => ⟨by simpa using KC.out w' X 0 _ hb rfl, KC.out w' X 1 _ hb rfl, KC.out w' X 2 _ hb rfl⟩
  have K3 : Hid (∀ w' X, Below w.heap.size (w.setRow G X) w' → w'.cell? ⟨b, off + 3, none⟩ = some (.slice A ks.length cp)) := fun w' X hb => KC.out w' X 3 _ hb rfl
  have A1 := Lib.hid (blk_old hg (.cells #[.int .i64 0, .int .i64 0, .string ⟨#[]⟩, .slice none 0 0] 30))
  have A2 := Lib.hid (blk_old ((congrArg (fun q : World => q.heap[G]?) (rowset w G (.map (some mb)) (.int .i64 c) (.bool false) _ _ hg)).trans (setRow_heap w G _ #[.map (some mb), .int .i64 (c + 1), .bool false] _ (0, 0) hg)) (.cells #[.int .i64 0, .int .i64 0, .string ⟨#[]⟩, .slice none 0 0] 30))
  have v1 : (w.alloc (.cells #[.int .i64 0, .int .i64 0, .string ⟨#[]⟩, .slice none 0 0] 30)).cell? ⟨G, 1, none⟩ = some (.int .i64 c) := (blk_cell A1.out 1).trans rfl
  have f1 := blk_frozen A1.out 1
  have y1 : ((w.setCell ⟨G, 1, none⟩ (.int .i64 (c + 1))).alloc (.cells #[.int .i64 0, .int .i64 0, .string ⟨#[]⟩, .slice none 0 0] 30)).cell? ⟨G, 1, none⟩ = some (.int .i64 (c + 1)) := (blk_cell A2.out 1).trans rfl
  have v2 : ((w.setCell ⟨G, 1, none⟩ (.int .i64 (c + 1))).alloc (.cells #[.int .i64 0, .int .i64 0, .string ⟨#[]⟩, .slice none 0 0] 30)).cell? ⟨G, 2, none⟩ = some (.bool false) := (blk_cell A2.out 2).trans rfl
  have f2 := blk_frozen A2.out 2
  have MO := Lib.hid hmo
  have HK := Lib.hid hk
  have hk' : (k == 1) = false := beq_eq_false_iff_ne.2 hk
  have KA : Hid ((w.alloc (.cells #[.int .i64 0, .int .i64 0, .string ⟨#[]⟩, .slice none 0 0] 30)).cell? ⟨b, off, none⟩ = some (.int .i64 k)) := (cell_below (w1 := w.alloc (.cells #[.int .i64 0, .int .i64 0, .string ⟨#[]⟩, .slice none 0 0] 30)) (below_alloc1 _ _) (hc 0 _ rfl))
  clear h hc h4 ih hb hg hG hbG hk hmo
  by_cases hbad : 20000 < c + 1 ∨ 200 < deep
  · have HBAD : Hid (((Ty.mk k d n ks).lrg bs deep (20000 - c)).1 = true) := (by show _ = _; rw [Ty.lrg_none (.inl HK.out), if_pos (by omega)])
    rcases (show 20000 < c + 1 ∨ (c + 1 ≤ 20000 ∧ 200 < deep) by omega) with hbad | ⟨hb3, hbad⟩
    · have SW : Hid (((w.setCell ⟨G, 1, none⟩ (.int .i64 (c + 1))).setCell ⟨G, 2, none⟩ (.bool true)) = w.setRow G #[.map (some mb), .int .i64 (c + 1), .bool true]) := (by rw [rowset w G (.map (some mb)) (.int .i64 c) (.bool false) _ _ HG.out]; exact rowset2 _ G (.map (some mb)) (.int .i64 (c + 1)) (.bool false) (.bool true) _ (setRow_heap w G _ _ _ (0, 0) HG.out) |>.trans (setRow_setRow w G _ _))
      have HBL : Hid (Below w.heap.size (w.setRow G #[.map (some mb), .int .i64 (c + 1), .bool true]) (((w.setCell ⟨G, 1, none⟩ (.int .i64 (c + 1))).setCell ⟨G, 2, none⟩ (.bool true)).alloc (.cells #[.int .i64 0, .int .i64 0, .string ⟨#[]⟩, .slice none 0 0] 30))) := (by show Below _ _ _; rw [SW.out]; exact (Below.refl _ _).alloc (by simp) _)
      have HBO : Hid (∀ o, Below w.heap.size (w.setRow G #[.map (some mb), .int .i64 (c + 1), .bool true]) (World.alloc (((w.setCell ⟨G, 1, none⟩ (.int .i64 (c + 1))).setCell ⟨G, 2, none⟩ (.bool true)).alloc (.cells #[.int .i64 0, .int .i64 0, .string ⟨#[]⟩, .slice none 0 0] 30)) o)) := fun o => HBL.out.alloc (by simp) o
      have KY := Lib.hid (KS.out _ _ HBL.out)
      have KZ := Lib.hid (fun o => KS.out _ _ (HBO.out o))
      have z3 : ∀ o, (World.alloc (((w.setCell ⟨G, 1, none⟩ (.int .i64 (c + 1))).setCell ⟨G, 2, none⟩ (.bool true)).alloc (.cells #[.int .i64 0, .int .i64 0, .string ⟨#[]⟩, .slice none 0 0] 30)) o).cell? ⟨b, off + 3, none⟩ = some (.slice A ks.length cp) := fun o => K3.out _ _ (HBO.out o)
      have BP0 : Hid (Bp w G (.map (some mb)) (c + 1) true k d n (.slice none 0 0) [] (World.alloc (((w.setCell ⟨G, 1, none⟩ (.int .i64 (c + 1))).setCell ⟨G, 2, none⟩ (.bool true)).alloc (.cells #[.int .i64 0, .int .i64 0, .string ⟨#[]⟩, .slice none 0 0] 30)) (.cells #[.int .i64 k, .int .i64 d, .string n, .slice none 0 0] 30)).drew) := (by
        refine ⟨?_, ?_, ?_, Grow.nil _ _ _ _, ?_⟩
        · rw [SW.out]
          exact (((Below.refl w.heap.size (w.setRow G #[.map (some mb), .int .i64 (c + 1), .bool true])).alloc (by simp) _).alloc (by simp) _).drew
        · rw [SW.out]
          exact blk_old (blk_new_g (by simp)) _
        · rw [SW.out]
          exact blk_new_g (by simp)
        · rw [SW.out]
          show _ ≤ _
          simp)
      have ST : Hid (∃ (c' : Int) (g : Bool) (ys : List Ty) (v : Value), Bp w G (.map (some mb)) c' g k d n v (Ty.encs ys) (World.alloc (((w.setCell ⟨G, 1, none⟩ (.int .i64 (c + 1))).setCell ⟨G, 2, none⟩ (.bool true)).alloc (.cells #[.int .i64 0, .int .i64 0, .string ⟨#[]⟩, .slice none 0 0] 30)) (.cells #[.int .i64 k, .int .i64 d, .string n, .slice none 0 0] 30)).drew ∧ ys.length = 0 ∧ ((g = true ∧ ((Ty.mk k d n ks).lrg bs deep (20000 - c)).1 = true) ∨ (g = false ∧ ys = Ty.apps bs (ks.take 0) ∧ deep ≤ 200 ∧ 0 ≤ c' ∧ c' ≤ 20000 ∧ (Ty.mk k d n ks).lrg bs deep (20000 - c) = Ty.lrgs bs (ks.drop 0) (deep + 1) (20000 - c')))) := ⟨c + 1, true, [], _, BP0.out, rfl, .inl ⟨rfl, HBAD.out⟩⟩
      clear BP0 SW
      have k0 : (w.alloc (.cells #[.int .i64 0, .int .i64 0, .string ⟨#[]⟩, .slice none 0 0] 30)).cell? ⟨b, off, none⟩ = some (.int .i64 k) := KA.out
      go_enter Try.func118, Try.ntmps118
      go_wp2_with fail
      go_region_held3 (fun w' => w'.cell? ⟨b, off, none⟩ = some (.int .i64 k) ∧ w'.cell? ⟨b, off + 1, none⟩ = some (.int .i64 d) ∧ w'.cell? ⟨b, off + 2, none⟩ = some (.string n)) (first | exact KY.out | exact KZ.out _) (first | fail)
      go_wp2_with fail
      generalize hW : (World.alloc (((w.setCell ⟨G, 1, none⟩ (.int .i64 (c + 1))).setCell ⟨G, 2, none⟩ (.bool true)).alloc (.cells #[.int .i64 0, .int .i64 0, .string ⟨#[]⟩, .slice none 0 0] 30)) (.cells #[.int .i64 k, .int .i64 d, .string n, .slice none 0 0] 30)).drew = W at *
      clear hW z3 KY KZ HBO HBL v1 f1 y1 v2 f2
      go_loopw [69] (fun i wr => ∃ j : Nat, j ≤ ks.length ∧ i = .int .i64 j ∧ Hid (∃ (c' : Int) (g : Bool) (ys : List Ty) (v : Value), Bp w G (.map (some mb)) c' g k d n v (Ty.encs ys) wr ∧ ys.length = j ∧ ((g = true ∧ ((Ty.mk k d n ks).lrg bs deep (20000 - c)).1 = true) ∨ (g = false ∧ ys = Ty.apps bs (ks.take j) ∧ deep ≤ 200 ∧ 0 ≤ c' ∧ c' ≤ 20000 ∧ (Ty.mk k d n ks).lrg bs deep (20000 - c) = Ty.lrgs bs (ks.drop j) (deep + 1) (20000 - c'))))) (fun i _ => ks.length - (intOf i).toNat)
      case atStart => exact ⟨0, Nat.zero_le _, rfl, ST.out⟩
      case round =>
        obtain ⟨j, hj, rfl, hrel⟩ := hrel
        obtain ⟨c', g, ys, v, hbp, hys, hcase⟩ := hrel.out
        have BP := Lib.hid hbp
        have BPD := Lib.hid (hbp.more (Below.refl _ _).drew)
        have LY := Lib.hid hys
        have PG := Lib.hid (hbp.put HG.out)
        have x0 : wr.cell? ⟨G, 0, none⟩ = some (.map (some mb)) := (blk_cell PG.out 0).trans rfl
        have x2 : wr.cell? ⟨G, 2, none⟩ = some (.bool g) := (blk_cell PG.out 2).trans rfl
        have WB : Hid (Below W0.heap.size W0 wr) := HB.out.trans (below_row_old hbp.below (Below.refl _ w) HGB.out HB.out.size)
        have y3 : wr.cell? ⟨w.heap.size + 1, 3, none⟩ = some v := (blk_cell hbp.out 3).trans rfl
        have z3 := K3.out _ _ BP.out.below
        have zr0 : wr.cell? ⟨w.heap.size, 0, none⟩ = some (.int .i64 0) := (blk_cell hbp.zero 0).trans rfl
        have zr1 : wr.cell? ⟨w.heap.size, 1, none⟩ = some (.int .i64 0) := (blk_cell hbp.zero 1).trans rfl
        have zr2 : wr.cell? ⟨w.heap.size, 2, none⟩ = some (.string ⟨#[]⟩) := (blk_cell hbp.zero 2).trans rfl
        have zr3 : wr.cell? ⟨w.heap.size, 3, none⟩ = some (.slice none 0 0) := (blk_cell hbp.zero 3).trans rfl
        have zf0 := blk_frozen hbp.zero 0
        have zf1 := blk_frozen hbp.zero 1
        have zf2 := blk_frozen hbp.zero 2
        have zf3 := blk_frozen hbp.zero 3
        clear hbp hys hrel
        by_cases hlt : j < ks.length
        · rcases hcase with ⟨rfl, hF⟩ | ⟨rfl, hy, hdeep, hc0, hc1, hF⟩
          · have HF := Lib.hid hF
            clear hF
            go_wp2
            refine bodyPost_ret (v := .agg #[.int .i64 0, .int .i64 0, .string ⟨#[]⟩, .slice none 0 0]) (by simp [results, Try.results118, go_sem, zr0, zr1, zr2, zr3]) rfl ⟨.mk 0 0 ⟨#[]⟩ [], [.int .i64 0, .int .i64 0, .string ⟨#[]⟩, .slice none 0 0], c', rfl, fr_none' _ _, ?_, fun h => by rw [HF.out] at h; cases h⟩
            rw [HF.out]
            exact (((BP.out.below.setCell (p := ⟨w.heap.size, 0, none⟩) (Nat.le_refl _) _).setCell (p := ⟨w.heap.size, 1, none⟩) (Nat.le_refl _) _).setCell (p := ⟨w.heap.size, 2, none⟩) (Nat.le_refl _) _).setCell (p := ⟨w.heap.size, 3, none⟩) (Nat.le_refl _) _
          · obtain ⟨b', off', es, rfl, hcl, hrd, hc⟩ := H4.out.get (i := j) (x := ks[j].enc) (by simp [Ty.encs_map, List.getElem?_eq_getElem hlt])
            have HLB : Hid (b' < W0.heap.size) := (by obtain ⟨u, hu⟩ : ∃ u, es[0]? = some u := ⟨_, List.getElem?_eq_getElem (show 0 < es.length by omega)⟩; exact cell_lt (hc 0 u hu))
            have HNB : Hid (b' ≠ G) := (by have h1 := HLB.out; have h2 := HGB.out; show _ ≠ _; omega)
            have PD : Hid (wr.drew.heap[G]? = some (.cells #[.map (some mb), .int .i64 c', .bool false] 166 (0, 0))) := PG.out
            have GLR := Lib.hid (Nat.lt_of_lt_of_le GL.out (by have h1 := BP.out.below.size; rw [setRow_size] at h1; exact h1) : G < wr.heap.size)
            have CAL := Lib.hid (IH.out _ (List.getElem_mem hlt) W0 wr.drew _ b' (off' + j * 4) G mb me (deep + 1) c' hrd (hc.move (WB.out.drew.block b' HLB.out)) HNB.out WB.out.drew PD.out HGB.out hc0 hc1 (by omega) (by omega) MO.out)
            have SM := Lib.hid (hF.trans (Ty.lrgs_next hlt))
            have LF := Lib.hid (Ty.lrg_left bs ks[j] (deep + 1) (20000 - c'))
            have TK := Lib.hid (show Ty.apps bs (ks.take (j + 1)) = Ty.apps bs (ks.take j) ++ [ks[j].app bs] by rw [Ty.apps_map, Ty.apps_map, map_take_snoc _ hlt])
            have HY := Lib.hid hy
            obtain ⟨i0, hi, hz0, hz1, hz2⟩ := info_parts infoTyp
            have i1 : (0 : Int) ≤ (j : Int) := Int.natCast_nonneg _
            have i2 : (j : Int) < (ks.length : Int) := by omega
            clear hrd hcl hc hF hy
            have dw : IntKind.i64.wrap (deep + 1) = deep + 1 := IntWalk.i64_in _ (by omega)
            go_wp2_with fail
            go_region_law (first
                  | (go_simp; go_at_call 118; (with_reducible refine CAL.out.mono ?_); rintro e w1 ⟨y, cs', c1, rfl, hfr, hb, hres⟩; obtain ⟨t0, t1, t2, t3, rfl⟩ := cells4 (hfr.len.trans (Ty.n _)); have SZ : Hid ((wr.drew.setRow G #[.map (some mb), .int .i64 c1, .bool (ks[j].lrg bs (deep + 1) (20000 - c')).1]).heap.size = wr.heap.size) := (by show _ = _; rw [setRow_size]; rfl); have hb2 := below_size SZ.out hb; have BS := Lib.hid ((BPD.out.set GL.out c1 (ks[j].lrg bs (deep + 1) (20000 - c')).1).more hb2); have BW1 := Lib.hid hb2; have FR := Lib.hid hfr; have RES := Lib.hid hres; have BW2 := Lib.hid (BW1.out.alloc BW1.out.size (.cells #[t0, t1, t2, t3] 30)); have AL := Lib.hid (below_alloc1 w1 (.cells #[t0, t1, t2, t3] 30)); have CA := Lib.hid (cellsAt_new w1 [t0, t1, t2, t3] 30); have y3 : World.cell? _ ⟨w.heap.size + 1, 3, none⟩ = some v := (blk_cell BS.out.out 3).trans rfl; have y3b : World.cell? _ ⟨w.heap.size + 1, 3, none⟩ = some v := (blk_cell (blk_below BS.out.out AL.out) 3).trans rfl; clear hfr hb hb2 hres)
                  | (refine step_push rfl _ _ 28 rfl (w.heap.size + 2) 30 i0 (.agg #[.int .i64 0, .int .i64 0, .string ⟨#[]⟩, .slice none 0 0]) 4 56 Try.underlying28 hi hz0 hz1 hz2 rfl (by decide) v (Ty.encs ys) rfl (BPD.out.set GL.out c1 (ks[j].lrg bs (deep + 1) (20000 - c')).1).grow BW2.out y.enc [t0, t1, t2, t3] (fr_size SZ.out (FR.out.below AL.out)) (Ty.n _) w1.heap.size 1 rfl CA.out (by rw [Ty.encs_length, LY.out]; omega) (by rw [Ty.encs_length, LY.out]; omega) (by rw [SZ.out]; exact BP.out.size) ?_; intro v' w2 hg' hgr' _; have B1 := Lib.hid ((BS.out.more AL.out).push hg' hgr'); obtain ⟨A', c2, hv', _, _, _⟩ := hg'.form; have hln : (Ty.encs ys ++ [y.enc]).length = j + 1 := (by rw [List.length_append, Ty.encs_length, LY.out]; rfl); rw [hln] at hv'; subst hv'; clear hln; have x3 : World.cell? _ ⟨w.heap.size + 1, 3, none⟩ = some v := (blk_cell B1.out.1 3).trans rfl; have xf : World.frozen? _ ⟨w.heap.size + 1, 3, none⟩ = false := blk_frozen B1.out.1 3; clear hg' hgr'))
            all_goals
              clear dw
              go_wp2
              go_roundw
              case rel =>
                refine ⟨j + 1, by omega, by go_num, Lib.hid ⟨c1, _, ys ++ [y], _, by rw [Ty.encs_snoc]; exact B1.out.2, by rw [List.length_append, LY.out]; rfl, ?_⟩⟩
                have sm := SM.out
                have lf := LF.out
                have res := RES.out
                generalize ks[j].lrg bs (deep + 1) (20000 - c') = q at *
                obtain ⟨q, l⟩ := q
                cases q with
                | true => exact .inl ⟨rfl, by rw [sm]; rfl⟩
                | false =>
                  have h1 := lf rfl
                  obtain ⟨ry, rc⟩ := res rfl
                  simp only at h1 rc
                  refine .inr ⟨rfl, by rw [TK.out, HY.out, ry], hdeep, by omega, by omega, ?_⟩
                  rw [sm, rc, show (20000 : Int) - (20000 - l) = l by omega]
                  rfl
              case measure => simp [intOf]; omega
        · obtain rfl : j = ks.length := by omega
          obtain ⟨A', c2, hv', _, _, _⟩ := BP.out.grow.form
          rw [Ty.encs_length, LY.out] at hv'
          subst hv'
          have DN := Lib.hid BP.out.done
          have HC := Lib.hid hcase
          have zo0 : wr.cell? ⟨w.heap.size + 1, 0, none⟩ = some (.int .i64 k) := (blk_cell BP.out.out 0).trans rfl
          have zo1 : wr.cell? ⟨w.heap.size + 1, 1, none⟩ = some (.int .i64 d) := (blk_cell BP.out.out 1).trans rfl
          have zo2 : wr.cell? ⟨w.heap.size + 1, 2, none⟩ = some (.string n) := (blk_cell BP.out.out 2).trans rfl
          clear hcase
          go_wp2
          refine bodyPost_ret (v := .agg #[.int .i64 k, .int .i64 d, .string n, .slice A' ks.length c2]) (by simp [results, Try.results118, go_sem, zr0, zr1, zr2, zr3]) rfl ⟨.mk k d n ys, [.int .i64 k, .int .i64 d, .string n, .slice A' ks.length c2], c', rfl, DN.out.1, ?_, ?_⟩
          · have h1 := DN.out.2
            rcases HC.out with ⟨rfl, hF⟩ | ⟨rfl, hy, hdeep, hc0, hc1, hF⟩
            · rw [hF]; exact h1
            · rw [List.drop_length, Ty.lrgs] at hF
              rw [hF]; exact h1
          · intro hq
            rcases HC.out with ⟨rfl, hF⟩ | ⟨rfl, hy, hdeep, hc0, hc1, hF⟩
            · rw [hF] at hq; cases hq
            · rw [List.drop_length, Ty.lrgs] at hF
              rw [hF]
              refine ⟨?_, ?_⟩
              · rw [hy, List.take_length]
                rw [Ty.app, if_neg HK.out]
              · show c' = 20000 - (20000 - c')
                omega
    · have SW : Hid (((w.setCell ⟨G, 1, none⟩ (.int .i64 (c + 1))).setCell ⟨G, 2, none⟩ (.bool true)) = w.setRow G #[.map (some mb), .int .i64 (c + 1), .bool true]) := (by rw [rowset w G (.map (some mb)) (.int .i64 c) (.bool false) _ _ HG.out]; exact rowset2 _ G (.map (some mb)) (.int .i64 (c + 1)) (.bool false) (.bool true) _ (setRow_heap w G _ _ _ (0, 0) HG.out) |>.trans (setRow_setRow w G _ _))
      have HBL : Hid (Below w.heap.size (w.setRow G #[.map (some mb), .int .i64 (c + 1), .bool true]) (((w.setCell ⟨G, 1, none⟩ (.int .i64 (c + 1))).setCell ⟨G, 2, none⟩ (.bool true)).alloc (.cells #[.int .i64 0, .int .i64 0, .string ⟨#[]⟩, .slice none 0 0] 30))) := (by show Below _ _ _; rw [SW.out]; exact (Below.refl _ _).alloc (by simp) _)
      have HBO : Hid (∀ o, Below w.heap.size (w.setRow G #[.map (some mb), .int .i64 (c + 1), .bool true]) (World.alloc (((w.setCell ⟨G, 1, none⟩ (.int .i64 (c + 1))).setCell ⟨G, 2, none⟩ (.bool true)).alloc (.cells #[.int .i64 0, .int .i64 0, .string ⟨#[]⟩, .slice none 0 0] 30)) o)) := fun o => HBL.out.alloc (by simp) o
      have KY := Lib.hid (KS.out _ _ HBL.out)
      have KZ := Lib.hid (fun o => KS.out _ _ (HBO.out o))
      have z3 : ∀ o, (World.alloc (((w.setCell ⟨G, 1, none⟩ (.int .i64 (c + 1))).setCell ⟨G, 2, none⟩ (.bool true)).alloc (.cells #[.int .i64 0, .int .i64 0, .string ⟨#[]⟩, .slice none 0 0] 30)) o).cell? ⟨b, off + 3, none⟩ = some (.slice A ks.length cp) := fun o => K3.out _ _ (HBO.out o)
      have BP0 : Hid (Bp w G (.map (some mb)) (c + 1) true k d n (.slice none 0 0) [] (World.alloc (((w.setCell ⟨G, 1, none⟩ (.int .i64 (c + 1))).setCell ⟨G, 2, none⟩ (.bool true)).alloc (.cells #[.int .i64 0, .int .i64 0, .string ⟨#[]⟩, .slice none 0 0] 30)) (.cells #[.int .i64 k, .int .i64 d, .string n, .slice none 0 0] 30)).drew) := (by
        refine ⟨?_, ?_, ?_, Grow.nil _ _ _ _, ?_⟩
        · rw [SW.out]
          exact (((Below.refl w.heap.size (w.setRow G #[.map (some mb), .int .i64 (c + 1), .bool true])).alloc (by simp) _).alloc (by simp) _).drew
        · rw [SW.out]
          exact blk_old (blk_new_g (by simp)) _
        · rw [SW.out]
          exact blk_new_g (by simp)
        · rw [SW.out]
          show _ ≤ _
          simp)
      have ST : Hid (∃ (c' : Int) (g : Bool) (ys : List Ty) (v : Value), Bp w G (.map (some mb)) c' g k d n v (Ty.encs ys) (World.alloc (((w.setCell ⟨G, 1, none⟩ (.int .i64 (c + 1))).setCell ⟨G, 2, none⟩ (.bool true)).alloc (.cells #[.int .i64 0, .int .i64 0, .string ⟨#[]⟩, .slice none 0 0] 30)) (.cells #[.int .i64 k, .int .i64 d, .string n, .slice none 0 0] 30)).drew ∧ ys.length = 0 ∧ ((g = true ∧ ((Ty.mk k d n ks).lrg bs deep (20000 - c)).1 = true) ∨ (g = false ∧ ys = Ty.apps bs (ks.take 0) ∧ deep ≤ 200 ∧ 0 ≤ c' ∧ c' ≤ 20000 ∧ (Ty.mk k d n ks).lrg bs deep (20000 - c) = Ty.lrgs bs (ks.drop 0) (deep + 1) (20000 - c')))) := ⟨c + 1, true, [], _, BP0.out, rfl, .inl ⟨rfl, HBAD.out⟩⟩
      clear BP0 SW
      have k0 : (w.alloc (.cells #[.int .i64 0, .int .i64 0, .string ⟨#[]⟩, .slice none 0 0] 30)).cell? ⟨b, off, none⟩ = some (.int .i64 k) := KA.out
      go_enter Try.func118, Try.ntmps118
      go_wp2_with fail
      go_region_held3 (fun w' => w'.cell? ⟨b, off, none⟩ = some (.int .i64 k) ∧ w'.cell? ⟨b, off + 1, none⟩ = some (.int .i64 d) ∧ w'.cell? ⟨b, off + 2, none⟩ = some (.string n)) (first | exact KY.out | exact KZ.out _) (first | fail)
      go_wp2_with fail
      generalize hW : (World.alloc (((w.setCell ⟨G, 1, none⟩ (.int .i64 (c + 1))).setCell ⟨G, 2, none⟩ (.bool true)).alloc (.cells #[.int .i64 0, .int .i64 0, .string ⟨#[]⟩, .slice none 0 0] 30)) (.cells #[.int .i64 k, .int .i64 d, .string n, .slice none 0 0] 30)).drew = W at *
      clear hW z3 KY KZ HBO HBL v1 f1 y1 v2 f2
      go_loopw [69] (fun i wr => ∃ j : Nat, j ≤ ks.length ∧ i = .int .i64 j ∧ Hid (∃ (c' : Int) (g : Bool) (ys : List Ty) (v : Value), Bp w G (.map (some mb)) c' g k d n v (Ty.encs ys) wr ∧ ys.length = j ∧ ((g = true ∧ ((Ty.mk k d n ks).lrg bs deep (20000 - c)).1 = true) ∨ (g = false ∧ ys = Ty.apps bs (ks.take j) ∧ deep ≤ 200 ∧ 0 ≤ c' ∧ c' ≤ 20000 ∧ (Ty.mk k d n ks).lrg bs deep (20000 - c) = Ty.lrgs bs (ks.drop j) (deep + 1) (20000 - c'))))) (fun i _ => ks.length - (intOf i).toNat)
      case atStart => exact ⟨0, Nat.zero_le _, rfl, ST.out⟩
      case round =>
        obtain ⟨j, hj, rfl, hrel⟩ := hrel
        obtain ⟨c', g, ys, v, hbp, hys, hcase⟩ := hrel.out
        have BP := Lib.hid hbp
        have BPD := Lib.hid (hbp.more (Below.refl _ _).drew)
        have LY := Lib.hid hys
        have PG := Lib.hid (hbp.put HG.out)
        have x0 : wr.cell? ⟨G, 0, none⟩ = some (.map (some mb)) := (blk_cell PG.out 0).trans rfl
        have x2 : wr.cell? ⟨G, 2, none⟩ = some (.bool g) := (blk_cell PG.out 2).trans rfl
        have WB : Hid (Below W0.heap.size W0 wr) := HB.out.trans (below_row_old hbp.below (Below.refl _ w) HGB.out HB.out.size)
        have y3 : wr.cell? ⟨w.heap.size + 1, 3, none⟩ = some v := (blk_cell hbp.out 3).trans rfl
        have z3 := K3.out _ _ BP.out.below
        have zr0 : wr.cell? ⟨w.heap.size, 0, none⟩ = some (.int .i64 0) := (blk_cell hbp.zero 0).trans rfl
        have zr1 : wr.cell? ⟨w.heap.size, 1, none⟩ = some (.int .i64 0) := (blk_cell hbp.zero 1).trans rfl
        have zr2 : wr.cell? ⟨w.heap.size, 2, none⟩ = some (.string ⟨#[]⟩) := (blk_cell hbp.zero 2).trans rfl
        have zr3 : wr.cell? ⟨w.heap.size, 3, none⟩ = some (.slice none 0 0) := (blk_cell hbp.zero 3).trans rfl
        have zf0 := blk_frozen hbp.zero 0
        have zf1 := blk_frozen hbp.zero 1
        have zf2 := blk_frozen hbp.zero 2
        have zf3 := blk_frozen hbp.zero 3
        clear hbp hys hrel
        by_cases hlt : j < ks.length
        · rcases hcase with ⟨rfl, hF⟩ | ⟨rfl, hy, hdeep, hc0, hc1, hF⟩
          · have HF := Lib.hid hF
            clear hF
            go_wp2
            refine bodyPost_ret (v := .agg #[.int .i64 0, .int .i64 0, .string ⟨#[]⟩, .slice none 0 0]) (by simp [results, Try.results118, go_sem, zr0, zr1, zr2, zr3]) rfl ⟨.mk 0 0 ⟨#[]⟩ [], [.int .i64 0, .int .i64 0, .string ⟨#[]⟩, .slice none 0 0], c', rfl, fr_none' _ _, ?_, fun h => by rw [HF.out] at h; cases h⟩
            rw [HF.out]
            exact (((BP.out.below.setCell (p := ⟨w.heap.size, 0, none⟩) (Nat.le_refl _) _).setCell (p := ⟨w.heap.size, 1, none⟩) (Nat.le_refl _) _).setCell (p := ⟨w.heap.size, 2, none⟩) (Nat.le_refl _) _).setCell (p := ⟨w.heap.size, 3, none⟩) (Nat.le_refl _) _
          · exfalso; omega
        · obtain rfl : j = ks.length := by omega
          obtain ⟨A', c2, hv', _, _, _⟩ := BP.out.grow.form
          rw [Ty.encs_length, LY.out] at hv'
          subst hv'
          have DN := Lib.hid BP.out.done
          have HC := Lib.hid hcase
          have zo0 : wr.cell? ⟨w.heap.size + 1, 0, none⟩ = some (.int .i64 k) := (blk_cell BP.out.out 0).trans rfl
          have zo1 : wr.cell? ⟨w.heap.size + 1, 1, none⟩ = some (.int .i64 d) := (blk_cell BP.out.out 1).trans rfl
          have zo2 : wr.cell? ⟨w.heap.size + 1, 2, none⟩ = some (.string n) := (blk_cell BP.out.out 2).trans rfl
          clear hcase
          go_wp2
          refine bodyPost_ret (v := .agg #[.int .i64 k, .int .i64 d, .string n, .slice A' ks.length c2]) (by simp [results, Try.results118, go_sem, zr0, zr1, zr2, zr3]) rfl ⟨.mk k d n ys, [.int .i64 k, .int .i64 d, .string n, .slice A' ks.length c2], c', rfl, DN.out.1, ?_, ?_⟩
          · have h1 := DN.out.2
            rcases HC.out with ⟨rfl, hF⟩ | ⟨rfl, hy, hdeep, hc0, hc1, hF⟩
            · rw [hF]; exact h1
            · rw [List.drop_length, Ty.lrgs] at hF
              rw [hF]; exact h1
          · intro hq
            rcases HC.out with ⟨rfl, hF⟩ | ⟨rfl, hy, hdeep, hc0, hc1, hF⟩
            · rw [hF] at hq; cases hq
            · rw [List.drop_length, Ty.lrgs] at hF
              rw [hF]
              refine ⟨?_, ?_⟩
              · rw [hy, List.take_length]
                rw [Ty.app, if_neg HK.out]
              · show c' = 20000 - (20000 - c')
                omega
  · have HGOOD : Hid ((Ty.mk k d n ks).lrg bs deep (20000 - c) = Ty.lrgs bs (ks.drop 0) (deep + 1) (20000 - (c + 1))) := (by show _ = _; rw [Ty.lrg_none (.inl HK.out), if_neg (by omega), List.drop_zero, show (20000 : Int) - c - 1 = 20000 - (c + 1) by omega])
    have hb1 : c + 1 ≤ 20000 := by omega
    have hb2 : deep ≤ 200 := by omega
    clear hbad
    have SW : Hid ((w.setCell ⟨G, 1, none⟩ (.int .i64 (c + 1))) = w.setRow G #[.map (some mb), .int .i64 (c + 1), .bool false]) := rowset w G (.map (some mb)) (.int .i64 c) (.bool false) _ _ HG.out
    have HBL : Hid (Below w.heap.size (w.setRow G #[.map (some mb), .int .i64 (c + 1), .bool false]) ((w.setCell ⟨G, 1, none⟩ (.int .i64 (c + 1))).alloc (.cells #[.int .i64 0, .int .i64 0, .string ⟨#[]⟩, .slice none 0 0] 30))) := (by show Below _ _ _; rw [SW.out]; exact (Below.refl _ _).alloc (by simp) _)
    have HBO : Hid (∀ o, Below w.heap.size (w.setRow G #[.map (some mb), .int .i64 (c + 1), .bool false]) (World.alloc ((w.setCell ⟨G, 1, none⟩ (.int .i64 (c + 1))).alloc (.cells #[.int .i64 0, .int .i64 0, .string ⟨#[]⟩, .slice none 0 0] 30)) o)) := fun o => HBL.out.alloc (by simp) o
    have KY := Lib.hid (KS.out _ _ HBL.out)
    have KZ := Lib.hid (fun o => KS.out _ _ (HBO.out o))
    have z3 : ∀ o, (World.alloc ((w.setCell ⟨G, 1, none⟩ (.int .i64 (c + 1))).alloc (.cells #[.int .i64 0, .int .i64 0, .string ⟨#[]⟩, .slice none 0 0] 30)) o).cell? ⟨b, off + 3, none⟩ = some (.slice A ks.length cp) := fun o => K3.out _ _ (HBO.out o)
    have BP0 : Hid (Bp w G (.map (some mb)) (c + 1) false k d n (.slice none 0 0) [] (World.alloc ((w.setCell ⟨G, 1, none⟩ (.int .i64 (c + 1))).alloc (.cells #[.int .i64 0, .int .i64 0, .string ⟨#[]⟩, .slice none 0 0] 30)) (.cells #[.int .i64 k, .int .i64 d, .string n, .slice none 0 0] 30)).drew) := (by
      refine ⟨?_, ?_, ?_, Grow.nil _ _ _ _, ?_⟩
      · rw [SW.out]
        exact (((Below.refl w.heap.size (w.setRow G #[.map (some mb), .int .i64 (c + 1), .bool false])).alloc (by simp) _).alloc (by simp) _).drew
      · rw [SW.out]
        exact blk_old (blk_new_g (by simp)) _
      · rw [SW.out]
        exact blk_new_g (by simp)
      · rw [SW.out]
        show _ ≤ _
        simp)
    have ST : Hid (∃ (c' : Int) (g : Bool) (ys : List Ty) (v : Value), Bp w G (.map (some mb)) c' g k d n v (Ty.encs ys) (World.alloc ((w.setCell ⟨G, 1, none⟩ (.int .i64 (c + 1))).alloc (.cells #[.int .i64 0, .int .i64 0, .string ⟨#[]⟩, .slice none 0 0] 30)) (.cells #[.int .i64 k, .int .i64 d, .string n, .slice none 0 0] 30)).drew ∧ ys.length = 0 ∧ ((g = true ∧ ((Ty.mk k d n ks).lrg bs deep (20000 - c)).1 = true) ∨ (g = false ∧ ys = Ty.apps bs (ks.take 0) ∧ deep ≤ 200 ∧ 0 ≤ c' ∧ c' ≤ 20000 ∧ (Ty.mk k d n ks).lrg bs deep (20000 - c) = Ty.lrgs bs (ks.drop 0) (deep + 1) (20000 - c')))) := ⟨c + 1, false, [], _, BP0.out, rfl, .inr ⟨rfl, by simp [Ty.apps], hb2, by omega, by omega, HGOOD.out⟩⟩
    clear BP0 SW
    have k0 : (w.alloc (.cells #[.int .i64 0, .int .i64 0, .string ⟨#[]⟩, .slice none 0 0] 30)).cell? ⟨b, off, none⟩ = some (.int .i64 k) := KA.out
    go_enter Try.func118, Try.ntmps118
    go_wp2_with fail
    go_region_held3 (fun w' => w'.cell? ⟨b, off, none⟩ = some (.int .i64 k) ∧ w'.cell? ⟨b, off + 1, none⟩ = some (.int .i64 d) ∧ w'.cell? ⟨b, off + 2, none⟩ = some (.string n)) (first | exact KY.out | exact KZ.out _) (first | fail)
    go_wp2_with fail
    generalize hW : (World.alloc ((w.setCell ⟨G, 1, none⟩ (.int .i64 (c + 1))).alloc (.cells #[.int .i64 0, .int .i64 0, .string ⟨#[]⟩, .slice none 0 0] 30)) (.cells #[.int .i64 k, .int .i64 d, .string n, .slice none 0 0] 30)).drew = W at *
    clear hW z3 KY KZ HBO HBL v1 f1 y1 v2 f2
    go_loopw [69] (fun i wr => ∃ j : Nat, j ≤ ks.length ∧ i = .int .i64 j ∧ Hid (∃ (c' : Int) (g : Bool) (ys : List Ty) (v : Value), Bp w G (.map (some mb)) c' g k d n v (Ty.encs ys) wr ∧ ys.length = j ∧ ((g = true ∧ ((Ty.mk k d n ks).lrg bs deep (20000 - c)).1 = true) ∨ (g = false ∧ ys = Ty.apps bs (ks.take j) ∧ deep ≤ 200 ∧ 0 ≤ c' ∧ c' ≤ 20000 ∧ (Ty.mk k d n ks).lrg bs deep (20000 - c) = Ty.lrgs bs (ks.drop j) (deep + 1) (20000 - c'))))) (fun i _ => ks.length - (intOf i).toNat)
    case atStart => exact ⟨0, Nat.zero_le _, rfl, ST.out⟩
    case round =>
      obtain ⟨j, hj, rfl, hrel⟩ := hrel
      obtain ⟨c', g, ys, v, hbp, hys, hcase⟩ := hrel.out
      have BP := Lib.hid hbp
      have BPD := Lib.hid (hbp.more (Below.refl _ _).drew)
      have LY := Lib.hid hys
      have PG := Lib.hid (hbp.put HG.out)
      have x0 : wr.cell? ⟨G, 0, none⟩ = some (.map (some mb)) := (blk_cell PG.out 0).trans rfl
      have x2 : wr.cell? ⟨G, 2, none⟩ = some (.bool g) := (blk_cell PG.out 2).trans rfl
      have WB : Hid (Below W0.heap.size W0 wr) := HB.out.trans (below_row_old hbp.below (Below.refl _ w) HGB.out HB.out.size)
      have y3 : wr.cell? ⟨w.heap.size + 1, 3, none⟩ = some v := (blk_cell hbp.out 3).trans rfl
      have z3 := K3.out _ _ BP.out.below
      have zr0 : wr.cell? ⟨w.heap.size, 0, none⟩ = some (.int .i64 0) := (blk_cell hbp.zero 0).trans rfl
      have zr1 : wr.cell? ⟨w.heap.size, 1, none⟩ = some (.int .i64 0) := (blk_cell hbp.zero 1).trans rfl
      have zr2 : wr.cell? ⟨w.heap.size, 2, none⟩ = some (.string ⟨#[]⟩) := (blk_cell hbp.zero 2).trans rfl
      have zr3 : wr.cell? ⟨w.heap.size, 3, none⟩ = some (.slice none 0 0) := (blk_cell hbp.zero 3).trans rfl
      have zf0 := blk_frozen hbp.zero 0
      have zf1 := blk_frozen hbp.zero 1
      have zf2 := blk_frozen hbp.zero 2
      have zf3 := blk_frozen hbp.zero 3
      clear hbp hys hrel
      by_cases hlt : j < ks.length
      · rcases hcase with ⟨rfl, hF⟩ | ⟨rfl, hy, hdeep, hc0, hc1, hF⟩
        · have HF := Lib.hid hF
          clear hF
          go_wp2
          refine bodyPost_ret (v := .agg #[.int .i64 0, .int .i64 0, .string ⟨#[]⟩, .slice none 0 0]) (by simp [results, Try.results118, go_sem, zr0, zr1, zr2, zr3]) rfl ⟨.mk 0 0 ⟨#[]⟩ [], [.int .i64 0, .int .i64 0, .string ⟨#[]⟩, .slice none 0 0], c', rfl, fr_none' _ _, ?_, fun h => by rw [HF.out] at h; cases h⟩
          rw [HF.out]
          exact (((BP.out.below.setCell (p := ⟨w.heap.size, 0, none⟩) (Nat.le_refl _) _).setCell (p := ⟨w.heap.size, 1, none⟩) (Nat.le_refl _) _).setCell (p := ⟨w.heap.size, 2, none⟩) (Nat.le_refl _) _).setCell (p := ⟨w.heap.size, 3, none⟩) (Nat.le_refl _) _
        · obtain ⟨b', off', es, rfl, hcl, hrd, hc⟩ := H4.out.get (i := j) (x := ks[j].enc) (by simp [Ty.encs_map, List.getElem?_eq_getElem hlt])
          have HLB : Hid (b' < W0.heap.size) := (by obtain ⟨u, hu⟩ : ∃ u, es[0]? = some u := ⟨_, List.getElem?_eq_getElem (show 0 < es.length by omega)⟩; exact cell_lt (hc 0 u hu))
          have HNB : Hid (b' ≠ G) := (by have h1 := HLB.out; have h2 := HGB.out; show _ ≠ _; omega)
          have PD : Hid (wr.drew.heap[G]? = some (.cells #[.map (some mb), .int .i64 c', .bool false] 166 (0, 0))) := PG.out
          have GLR := Lib.hid (Nat.lt_of_lt_of_le GL.out (by have h1 := BP.out.below.size; rw [setRow_size] at h1; exact h1) : G < wr.heap.size)
          have CAL := Lib.hid (IH.out _ (List.getElem_mem hlt) W0 wr.drew _ b' (off' + j * 4) G mb me (deep + 1) c' hrd (hc.move (WB.out.drew.block b' HLB.out)) HNB.out WB.out.drew PD.out HGB.out hc0 hc1 (by omega) (by omega) MO.out)
          have SM := Lib.hid (hF.trans (Ty.lrgs_next hlt))
          have LF := Lib.hid (Ty.lrg_left bs ks[j] (deep + 1) (20000 - c'))
          have TK := Lib.hid (show Ty.apps bs (ks.take (j + 1)) = Ty.apps bs (ks.take j) ++ [ks[j].app bs] by rw [Ty.apps_map, Ty.apps_map, map_take_snoc _ hlt])
          have HY := Lib.hid hy
          obtain ⟨i0, hi, hz0, hz1, hz2⟩ := info_parts infoTyp
          have i1 : (0 : Int) ≤ (j : Int) := Int.natCast_nonneg _
          have i2 : (j : Int) < (ks.length : Int) := by omega
          clear hrd hcl hc hF hy
          have dw : IntKind.i64.wrap (deep + 1) = deep + 1 := IntWalk.i64_in _ (by omega)
          go_wp2_with fail
          go_region_law (first
                | (go_simp; go_at_call 118; (with_reducible refine CAL.out.mono ?_); rintro e w1 ⟨y, cs', c1, rfl, hfr, hb, hres⟩; obtain ⟨t0, t1, t2, t3, rfl⟩ := cells4 (hfr.len.trans (Ty.n _)); have SZ : Hid ((wr.drew.setRow G #[.map (some mb), .int .i64 c1, .bool (ks[j].lrg bs (deep + 1) (20000 - c')).1]).heap.size = wr.heap.size) := (by show _ = _; rw [setRow_size]; rfl); have hb2 := below_size SZ.out hb; have BS := Lib.hid ((BPD.out.set GL.out c1 (ks[j].lrg bs (deep + 1) (20000 - c')).1).more hb2); have BW1 := Lib.hid hb2; have FR := Lib.hid hfr; have RES := Lib.hid hres; have BW2 := Lib.hid (BW1.out.alloc BW1.out.size (.cells #[t0, t1, t2, t3] 30)); have AL := Lib.hid (below_alloc1 w1 (.cells #[t0, t1, t2, t3] 30)); have CA := Lib.hid (cellsAt_new w1 [t0, t1, t2, t3] 30); have y3 : World.cell? _ ⟨w.heap.size + 1, 3, none⟩ = some v := (blk_cell BS.out.out 3).trans rfl; have y3b : World.cell? _ ⟨w.heap.size + 1, 3, none⟩ = some v := (blk_cell (blk_below BS.out.out AL.out) 3).trans rfl; clear hfr hb hb2 hres)
                | (refine step_push rfl _ _ 28 rfl (w.heap.size + 2) 30 i0 (.agg #[.int .i64 0, .int .i64 0, .string ⟨#[]⟩, .slice none 0 0]) 4 56 Try.underlying28 hi hz0 hz1 hz2 rfl (by decide) v (Ty.encs ys) rfl (BPD.out.set GL.out c1 (ks[j].lrg bs (deep + 1) (20000 - c')).1).grow BW2.out y.enc [t0, t1, t2, t3] (fr_size SZ.out (FR.out.below AL.out)) (Ty.n _) w1.heap.size 1 rfl CA.out (by rw [Ty.encs_length, LY.out]; omega) (by rw [Ty.encs_length, LY.out]; omega) (by rw [SZ.out]; exact BP.out.size) ?_; intro v' w2 hg' hgr' _; have B1 := Lib.hid ((BS.out.more AL.out).push hg' hgr'); obtain ⟨A', c2, hv', _, _, _⟩ := hg'.form; have hln : (Ty.encs ys ++ [y.enc]).length = j + 1 := (by rw [List.length_append, Ty.encs_length, LY.out]; rfl); rw [hln] at hv'; subst hv'; clear hln; have x3 : World.cell? _ ⟨w.heap.size + 1, 3, none⟩ = some v := (blk_cell B1.out.1 3).trans rfl; have xf : World.frozen? _ ⟨w.heap.size + 1, 3, none⟩ = false := blk_frozen B1.out.1 3; clear hg' hgr'))
          all_goals
            clear dw
            go_wp2
            go_roundw
            case rel =>
              refine ⟨j + 1, by omega, by go_num, Lib.hid ⟨c1, _, ys ++ [y], _, by rw [Ty.encs_snoc]; exact B1.out.2, by rw [List.length_append, LY.out]; rfl, ?_⟩⟩
              have sm := SM.out
              have lf := LF.out
              have res := RES.out
              generalize ks[j].lrg bs (deep + 1) (20000 - c') = q at *
              obtain ⟨q, l⟩ := q
              cases q with
              | true => exact .inl ⟨rfl, by rw [sm]; rfl⟩
              | false =>
                have h1 := lf rfl
                obtain ⟨ry, rc⟩ := res rfl
                simp only at h1 rc
                refine .inr ⟨rfl, by rw [TK.out, HY.out, ry], hdeep, by omega, by omega, ?_⟩
                rw [sm, rc, show (20000 : Int) - (20000 - l) = l by omega]
                rfl
            case measure => simp [intOf]; omega
      · obtain rfl : j = ks.length := by omega
        obtain ⟨A', c2, hv', _, _, _⟩ := BP.out.grow.form
        rw [Ty.encs_length, LY.out] at hv'
        subst hv'
        have DN := Lib.hid BP.out.done
        have HC := Lib.hid hcase
        have zo0 : wr.cell? ⟨w.heap.size + 1, 0, none⟩ = some (.int .i64 k) := (blk_cell BP.out.out 0).trans rfl
        have zo1 : wr.cell? ⟨w.heap.size + 1, 1, none⟩ = some (.int .i64 d) := (blk_cell BP.out.out 1).trans rfl
        have zo2 : wr.cell? ⟨w.heap.size + 1, 2, none⟩ = some (.string n) := (blk_cell BP.out.out 2).trans rfl
        clear hcase
        go_wp2
        refine bodyPost_ret (v := .agg #[.int .i64 k, .int .i64 d, .string n, .slice A' ks.length c2]) (by simp [results, Try.results118, go_sem, zr0, zr1, zr2, zr3]) rfl ⟨.mk k d n ys, [.int .i64 k, .int .i64 d, .string n, .slice A' ks.length c2], c', rfl, DN.out.1, ?_, ?_⟩
        · have h1 := DN.out.2
          rcases HC.out with ⟨rfl, hF⟩ | ⟨rfl, hy, hdeep, hc0, hc1, hF⟩
          · rw [hF]; exact h1
          · rw [List.drop_length, Ty.lrgs] at hF
            rw [hF]; exact h1
        · intro hq
          rcases HC.out with ⟨rfl, hF⟩ | ⟨rfl, hy, hdeep, hc0, hc1, hF⟩
          · rw [hF] at hq; cases hq
          · rw [List.drop_length, Ty.lrgs] at hF
            rw [hF]
            refine ⟨?_, ?_⟩
            · rw [hy, List.take_length]
              rw [Ty.app, if_neg HK.out]
            · show c' = 20000 - (20000 - c')
              omega

end Go.Proofs.Ytbbpkjcmbakfeaa
