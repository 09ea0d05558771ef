/- Core terms: the program's 'AllNames': the closure and the walk over names; no condition. -/
import Derived.Test.YthidbmjdphfddaaAnS
import Derived.Great.BuildSlice
import Derived.Laws.CopyOwn
namespace Go.Proofs.Ythidbmjdphfddaa
open Go Go.RowKit
set_option linter.unusedVariables false
set_option linter.unusedSimpArgs false

theorem nameSetT : Try.prog.underlying 98 = some (.map 9 4) := by kernel_rfl
theorem fields_strs {w : World} : ∀ {l : List ByteArray} {cells : List Value} {f : List Nat}, D.Fields w (strs l) cells f → f = []
  | [], _, _, h => by
    simp only [strs, List.map_nil, D.Fields] at h
    exact h.2
  | z :: l, _, _, h => by
    simp only [strs, List.map_cons, D.Fields, D.K] at h
    obtain ⟨c1, c2, f1, f2, rfl, rfl, ⟨_, rfl⟩, h4⟩ := h
    have := fields_strs (l := l) h4
    simpa using this
/-- What the world holds while names are gathered: the row in the cell of block G, the set in block m, which the cell of block S names. -/
structure An (W0 : World) (G S m : Nat) (L : List ByteArray) (v : Value) (w : World) : Prop where
  below : Below W0.heap.size W0 w
  out : w.heap[G]? = some (.cells #[v] 25 (0, 0))
  seen : w.heap[S]? = some (.cells #[.map (some m)] 98 (0, 0))
  row : Grow W0.heap.size w v 9 1 (strs L)
  map : HasMap keyT m (seenB L) w
  gB : W0.heap.size ≤ G
  sB : W0.heap.size ≤ S
  mB : W0.heap.size ≤ m
theorem tyNe1 : 25 ≠ 9 := by decide
theorem tyNe2 : 98 ≠ 9 := by decide
theorem tyNe3 : 25 ≠ 98 := by decide
theorem An.gs {W0 w : World} {G S m : Nat} {L : List ByteArray} {v : Value} (h : An W0 G S m L v w) : G ≠ S := by
  rintro rfl
  have := h.out.symm.trans h.seen
  injection this with this
  injection this with _ this
  exact tyNe3 this
set_option maxRecDepth 100000 in
set_option maxHeartbeats 1000000 in
theorem closeName (s : ByteArray) (hs : s.size ≤ 140737488351232) (W0 w : World) (G S m : Nat) (L : List ByteArray) (v : Value) (hL : L.length ≤ 4000000) (h : An W0 G S m L v w) :
    Calls Try.prog 65 #[.string s, .pointer (some ⟨S, 0, none⟩), .pointer (some ⟨G, 0, none⟩)] w fun e w' => e = .returned (.tuple #[]) ∧ ∃ v', An W0 G S m (addN L s) v' w' := by
  have H := Lib.hid h
  have OK : Hid (keyT.ok s) := maxLen_le (by omega)
  have HL := Lib.hid hL
  have zS : World.cell? w ⟨S, 0, none⟩ = some (.map (some m)) := (blk_cell h.seen 0).trans rfl
  have zG : World.cell? w ⟨G, 0, none⟩ = some v := (blk_cell h.out 0).trans rfl
  clear h hs hL
  cases hi : isIn L s
  · have hR : addN L s = L ++ [s] := by rw [addN, if_neg (by rw [hi]; decide)]
    rw [hR]
    have G1 : Hid ((mget (seenB L) s).getD (.bool false) = .bool false) := by show _ = _; rw [seenB_get, if_neg (by rw [hi]; decide)]; rfl
    have PUT := Lib.hid (seenB_put hi)
    have FACT : Hid (∀ w1, w.grownBy w1 (some m) → Below W0.heap.size W0 w1 ∧ Grow W0.heap.size w1 v 9 1 (strs L) ∧ w1.heap[G]? = some (.cells #[v] 25 (0, 0)) ∧ w1.heap[S]? = some (.cells #[.map (some m)] 98 (0, 0))) := fun w1 hg1 =>
      ⟨H.out.below.grown hg1 H.out.below.size (fun g hg => by injection hg with hg; subst hg; exact H.out.mB), H.out.row.plain (fun cells f hf => fields_strs hf) hg1 (by
        have := H.out.row.ne_map H.out.map
        cases hv : v.ownBlock with
        | none => exact .inl rfl
        | some g => exact .inr (by rw [← hv]; exact fun e => this e.symm)), (hg1.block G (blk_lt H.out.out) (fun e => by injection e with e; exact H.out.map.not_cells H.out.out e.symm)).trans H.out.out, (hg1.block S (blk_lt H.out.seen) (fun e => by injection e with e; exact H.out.map.not_cells H.out.seen e.symm)).trans H.out.seen⟩
    obtain ⟨i0', hi', hz0, hz1, hz2⟩ := info_parts infoStr
    clear hi hR
    go_enter Try.func65, Try.ntmps65
    go_wp2_with (first
      | (at_lookup; refine wpl_map_get_g rfl _ _ rfl (Try.zeroValue4 _) nameSetT rfl H.out.map s rfl OK.out _ G1.out ?_)
      | (at_mapUpdate; refine wpl_map_put rfl _ _ _ rfl nameSetT rfl H.out.map (maxLen_big (by rw [seenB_len]; have := HL.out; omega)) s rfl OK.out (.bool true) rfl ?_; intro w1 hm1 hg1; rw [PUT.out] at hm1; have F1 := Lib.hid (FACT.out w1 hg1); have HM1 := Lib.hid hm1; have y1 : World.cell? w1 ⟨G, 0, none⟩ = some v := (blk_cell F1.out.2.2.1 0).trans rfl; have ALB := Lib.hid (below_alloc1 w1 (.cells #[.string s] 9)); have CA := Lib.hid (cellsAt_new w1 [.string s] 9); clear hm1 hg1)
      | (at_builtin; refine wpl_push rfl _ _ 25 rfl W0.heap.size 9 i0' (.string ⟨#[]⟩) 1 16 Try.underlying25 hi' hz0 hz1 hz2 rfl (by decide) _ (strs L) rfl F1.out.2.1 ALB.out (.str s) [.string s] (fr_str _ _ _) rfl w1.heap.size 1 rfl CA.out (by rw [strs_length]; have := HL.out; omega) (by rw [strs_length]; have := HL.out; omega) F1.out.1.size ?_; intro v' w2 hg' hgr' _; have HG2 := Lib.hid hg'; have GR2 := Lib.hid hgr'; have BG := Lib.hid (hgr'.blk (blk_old F1.out.2.2.1 _) (F1.out.2.1.ne F1.out.2.2.1 tyNe1)); have BS := Lib.hid (hgr'.blk (blk_old F1.out.2.2.2 _) (F1.out.2.1.ne F1.out.2.2.2 tyNe2)); have y2 : World.cell? w2 ⟨G, 0, none⟩ = some v := (blk_cell BG.out 0).trans rfl; have y3 := blk_frozen BG.out 0; have B2 := Lib.hid (hgr'.below (F1.out.1.trans (ALB.out.mono F1.out.1.size)) (Nat.le_trans F1.out.1.size ALB.out.size) (fun g hg => (F1.out.2.1.bound g hg).1)); have M2 := Lib.hid ((HM1.out.below ALB.out).kept hgr'.grown ((F1.out.2.1.below ALB.out).ne_map (HM1.out.below ALB.out))); have ONE := Lib.hid (hg'.fr.one v' (List.mem_singleton.2 rfl)); clear hg' hgr')
      | (refine wpList_store_oneTo rfl 25 (.tmp 2) (.tmp 13) rfl rfl G v' rfl rfl ONE.out 25 v BG.out (by kernel_rfl) ?_))
    go_end0
    refine ⟨rfl, v', ?_⟩
    have hGS := H.out.gs
    have hne : some G ≠ v'.ownBlock := HG2.out.ne BG.out tyNe1
    have hgr : w2.grownBy (w2.setRow G #[v']) (some G) := ⟨rfl, rfl, rfl, by simp, fun k hk hn => setRow_other w2 G k _ (fun e => hn (by rw [e]))⟩
    refine ⟨below_setRow B2.out H.out.gB _, setRow_heap w2 G _ _ _ _ BG.out, (setRow_other w2 G S _ (fun e => hGS e.symm)).trans BS.out, ?_, M2.out.kept hgr (fun e => by injection e with e; exact M2.out.not_cells BG.out e), H.out.gB, H.out.sB, H.out.mB⟩
    rw [strs_snoc]
    exact HG2.out.plain (fun cells f hf => fields_strs (l := L ++ [s]) (by rw [strs_snoc]; exact hf)) hgr (by
      cases hv : v'.ownBlock with
      | none => exact .inl rfl
      | some g => exact .inr (by rw [← hv]; exact fun e => hne e.symm))
  · have hR : addN L s = L := by rw [addN, if_pos hi]
    rw [hR]
    have G1 : Hid ((mget (seenB L) s).getD (.bool false) = .bool true) := by show _ = _; rw [seenB_get, if_pos hi]; rfl
    clear hi hR
    go_enter Try.func65, Try.ntmps65
    go_wp2_with (at_lookup; refine wpl_map_get_g rfl _ _ rfl (Try.zeroValue4 _) nameSetT rfl H.out.map s rfl OK.out _ G1.out ?_)
    go_end0
    exact ⟨rfl, v, H.out⟩

end Go.Proofs.Ythidbmjdphfddaa
