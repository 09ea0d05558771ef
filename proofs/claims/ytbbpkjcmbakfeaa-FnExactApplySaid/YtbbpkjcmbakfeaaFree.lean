/- Types: both 'FreeIds' give the variables in order; no condition. -/
import Derived.Test.YtbbpkjcmbakfeaaTyFaultI
import Derived.Test.YtbbpkjcmbakfeaaTyWf
import Derived.Test.YtbbpkjcmbakfeaaMp
import Derived.Deep.CutRange
import Derived.Deep.CutBlock
import Derived.Deep.DeepCutAuto
namespace Go.Proofs.Ytbbpkjcmbakfeaa
open Go.RowKit
set_option linter.unusedVariables false
set_option linter.unusedSimpArgs false

def i64s (l : List Int) : List D := l.map (D.int .i64)
theorem i64s_length (l : List Int) : (i64s l).length = l.length := by simp [i64s]
theorem i64s_get {l : List Int} {i : Nat} {z : Int} (h : l[i]? = some z) : (i64s l)[i]? = some (.int .i64 z) := by simp [i64s, h]
theorem i64s_snoc (l : List Int) (z : Int) : i64s (l ++ [z]) = i64s l ++ [.int .i64 z] := by simp [i64s]
theorem fields_i64 {w : World} : ∀ {l : List Int} {cells : List Value} {f : List Nat}, D.Fields w (i64s l) cells f → f = []
  | [], _, _, h => by
    simp only [i64s, List.map_nil, D.Fields] at h
    exact h.2
  | z :: l, _, _, h => by
    simp only [i64s, List.map_cons, D.Fields, D.K] at h
    obtain ⟨c1, c2, f1, f2, rfl, rfl, ⟨_, rfl⟩, h4⟩ := h
    have := fields_i64 (l := l) h4
    simpa using this
theorem infoI64 : (Try.prog.info? 2).map (fun i => (i.zero, i.size, i.bytes)) = some (some (.int .i64 0), 1, 8) := by kernel_rfl
theorem below_alloc1 (w : World) (o : Obj) : Below w.heap.size w (w.alloc o) := (Below.refl _ _).alloc (Nat.le_refl _) _

def SpecFree (x : Ty) : Prop := ∀ (W0 w : World) (cs : List Value) (v : Value) (l : List Int), Rd W0 x.enc cs → Below W0.heap.size W0 w → Grow W0.heap.size w v 2 1 (i64s l) → l.length + x.size ≤ 1000000 →
  Calls Try.prog 61 #[.agg cs.toArray, v] w fun e w' => ∃ v', e = .returned v' ∧ Grow W0.heap.size w' v' 2 1 (i64s (x.free l)) ∧ Grew w w' v v'

set_option maxRecDepth 100000 in
theorem SpecFree_of (k d : Int) (n : ByteArray) (ks : List Ty) (hn : ks.length ≤ 140737488351232) (ih : ∀ x ∈ ks, SpecFree x) : SpecFree (.mk k d n ks) := by
  intro W0 w cs v l h hb hg hl
  obtain ⟨A, c, rfl, _, _, h4⟩ := Ty.open_ h
  have hal := below_alloc1 w (.cells #[.int .i64 k, .int .i64 d, .string n, .slice A ks.length c] 30)
  have HG := Lib.hid (hg.below hal)
  have NE := Lib.hid hg.new_ne
  have HB := Lib.hid (hb.trans (hal.mono hb.size))
  have BX := Lib.hid (blk_new w (.cells #[.int .i64 k, .int .i64 d, .string n, .slice A ks.length c] 30))
  have GR := Lib.hid (Grew.of_below hal v)
  have IH := Lib.hid ih
  have H4 := Lib.hid h4
  have HS := Lib.hid hb.size
  have z0 := blk_cell BX.out 0
  simp at z0
  clear h h4 ih hal hb hg
  by_cases hk : k = 1
  · subst hk
    have hR : (Ty.mk 1 d n ks).free l = if d ∈ l then l else l ++ [d] := by rw [Ty.free, if_pos rfl]
    generalize (Ty.mk 1 d n ks).free l = R at *
    have HR := Lib.hid hR
    have LE : Hid (l.length ≤ 1000000) := by show _ ≤ _; simp only [Ty.size] at hl; omega
    obtain ⟨A', c', rfl, _, _, hrow⟩ := HG.out.form
    rw [i64s_length]
    have HROW := Lib.hid hrow
    rw [i64s_length] at HG GR NE
    have hll := LE.out
    clear hR hl hrow
    go_enter Try.func61, Try.ntmps61
    go_wp2_with fail
    generalize hW : (w.alloc (.cells #[.int .i64 1, .int .i64 d, .string n, .slice A ks.length c] 30)) = W at *
    clear hW
    go_loopw [5] (fun i wr => ∃ j : Nat, j ≤ l.length ∧ i = .int .i64 j ∧ Hid (Below W.heap.size W wr ∧ ∀ z ∈ l.take j, z ≠ d)) (fun i _ => l.length - (intOf i).toNat)
    case atStart => exact ⟨0, Nat.zero_le _, rfl, Lib.hid ⟨Below.refl _ _, by simp⟩⟩
    case round =>
      obtain ⟨j, hj, rfl, hrel⟩ := hrel
      obtain ⟨hbr, hno⟩ := hrel.out
      have BR := Lib.hid hbr
      have NO := Lib.hid hno
      have z1 := blk_cell (blk_below BX.out hbr) 1
      simp at z1
      clear hrel hbr hno
      by_cases hlt : j < l.length
      · obtain ⟨b, off, es, rfl, hcl, hrd, hc⟩ := (RdRow.below HROW.out (by omega) BR.out).get (i64s_get (List.getElem?_eq_getElem hlt))
        obtain rfl := rd_int.1 hrd
        have c0 := hc 0 _ rfl
        rw [Nat.mul_one, Nat.add_zero] at c0
        have TK := Lib.hid (List.take_succ_eq_append_getElem hlt)
        have ME := Lib.hid (List.getElem_mem hlt)
        generalize l[j] = z at *
        clear hc hcl hrd
        have i0 : (0 : Int) ≤ (j : Int) := Int.natCast_nonneg _
        have i1 : (j : Int) < (l.length : Int) := by omega
        by_cases he : z = d
        · have he' : (z == d) = true := beq_iff_eq.2 he
          have HE := Lib.hid he
          clear he
          go_wp2_with fail
          go_quiet (fail)
          go_wp2
          go_ret
          refine ⟨_, rfl, ?_, ?_⟩
          · rw [HR.out, if_pos (by rw [← HE.out]; exact ME.out)]
            exact HG.out.below (drewN_below BR.out _)
          · exact GR.out.trans (Grew.of_below (drewN_below BR.out _) _)
        · have he' : (z == d) = false := beq_eq_false_iff_ne.2 he
          have HE := Lib.hid he
          clear he
          go_wp2_with fail
          go_quiet (fail)
          go_wp2
          go_roundw
          case rel =>
            refine ⟨j + 1, by omega, by go_num, Lib.hid ⟨drewN_below BR.out _, fun y hy => ?_⟩⟩
            rw [TK.out] at hy
            rcases List.mem_append.1 hy with hy | hy
            · exact NO.out y hy
            · rw [List.mem_singleton.1 hy]; exact HE.out
          case measure => simp [intOf]; omega
      · obtain rfl : j = l.length := by omega
        have hnm : ¬ d ∈ l := fun hm => NO.out d (by rw [List.take_length]; exact hm) rfl
        have hR2 := HR.out
        rw [if_neg hnm] at hR2
        have HR2 := Lib.hid hR2
        have HGR := Lib.hid (HG.out.below BR.out)
        obtain ⟨i0, hi, hz0, hz1, hz2⟩ := info_parts infoI64
        have ALB := Lib.hid (below_alloc1 wr (.cells #[.int .i64 d] 2))
        have CA : Hid (CellsAt (wr.alloc (.cells #[.int .i64 d] 2)) wr.heap.size 0 [.int .i64 d]) := cellsAt_new wr [.int .i64 d] 2
        clear hnm hR2
        go_wp2_with (at_builtin; refine wpl_push rfl _ _ 26 rfl W0.heap.size 2 i0 (.int .i64 0) 1 8 Try.underlying26 hi hz0 hz1 hz2 rfl (by decide) _ (i64s l) rfl HGR.out ALB.out (.int .i64 d) [.int .i64 d] (fr_int _ _ _ _) rfl wr.heap.size 1 rfl CA.out (by rw [i64s_length]; have := LE.out; omega) (by rw [i64s_length]; have := LE.out; omega) (by have h1 := BR.out.size; have h2 := HB.out.size; omega) ?_; intro v' w1 hg' hgr' _)
        have HG2 := Lib.hid hg'
        have GR2 := Lib.hid hgr'
        clear hg' hgr'
        go_wp2
        go_ret
        exact ⟨_, rfl, by rw [HR2.out, i64s_snoc]; exact HG2.out, GR.out.trans ((Grew.of_below (BR.out.trans (ALB.out.mono BR.out.size)) _).trans GR2.out)⟩
  · have hR : (Ty.mk k d n ks).free l = Ty.frees ks l := by rw [Ty.free, if_neg hk]
    rw [hR]
    have LE : Hid (l.length + Ty.sizes ks ≤ 1000000) := by show _ ≤ _; simp only [Ty.size] at hl; omega
    have hk' : (k == 1) = false := beq_eq_false_iff_ne.2 hk
    clear hR hl hk
    go_enter Try.func61, Try.ntmps61
    go_wp2_with fail
    have SZW : Hid ((w.alloc (.cells #[.int .i64 k, .int .i64 d, .string n, .slice A ks.length c] 30)).heap.size = w.heap.size + 1) := by show _ = _; simp
    generalize hW : (w.alloc (.cells #[.int .i64 k, .int .i64 d, .string n, .slice A ks.length c] 30)) = W at *
    clear hW
    go_loopw [1, 6] (fun q i wr => ∃ j : Nat, j ≤ ks.length ∧ i = .int .i64 j ∧ Hid (Grow W0.heap.size wr q 2 1 (i64s (Ty.frees (ks.take j) l)) ∧ Grew W wr v q)) (fun _ i _ => ks.length - (intOf i).toNat)
    case atStart => exact ⟨0, Nat.zero_le _, rfl, Lib.hid ⟨by simpa [Ty.frees] using HG.out, Grew.refl _ _⟩⟩
    case round =>
      obtain ⟨j, hj, rfl, hrel⟩ := hrel
      obtain ⟨hgr, hgw⟩ := hrel.out
      have GW := Lib.hid hgw
      have HGR := Lib.hid hgr
      have z3 := blk_cell (hgw.blk BX.out NE.out) 3
      simp at z3
      have BW : Hid (Below W0.heap.size W0 wr) := GW.out.below HB.out HB.out.size (fun g hg => (HG.out.bound g hg).1)
      clear hrel hgr hgw
      by_cases hlt : j < ks.length
      · obtain ⟨b, off, es, rfl, hcl, hrd, hc⟩ := (RdRow.below H4.out (by omega) BW.out).get (i := j) (x := ks[j].enc) (by simp [Ty.encs_map, List.getElem?_eq_getElem hlt])
        obtain ⟨b', off', es', he1, hcl', hrd', hc'⟩ := H4.out.get (i := j) (x := ks[j].enc) (by simp [Ty.encs_map, List.getElem?_eq_getElem hlt])
        injection he1 with he1
        injection he1 with he1 he2
        subst he1 he2
        have hes : es' = es := cells_same hcl' hcl hc' hc BW.out
        subst hes
        obtain ⟨u0, u1, u2, u3, rfl⟩ := cells4 hcl
        have e0 := hc 0 _ rfl
        have e1 := hc 1 _ rfl
        have e2 := hc 2 _ rfl
        have e3 := hc 3 _ rfl
        rw [Nat.add_zero] at e0
        have hfl : (Ty.frees (ks.take j) l).length + ks[j].size ≤ 1000000 := by
          have h1 := Ty.frees_len (ks.take j) (fun x _ => Ty.free_len x) l
          have h2 := Ty.sizes_take hlt
          have h3 := Ty.sizes_take_le ks (j + 1)
          have h4 := LE.out
          omega
        have CAL := Lib.hid (IH.out _ (List.getElem_mem hlt) W0 wr _ _ _ hrd' BW.out HGR.out hfl)
        have TK := Lib.hid (Ty.frees_take hlt l)
        clear hrd hrd' hc hc' hcl hcl' hfl
        go_wp2_with fail
        refine CAL.out.mono ?_
        rintro e w1 ⟨v', rfl, hg', hgr'⟩
        have HG' := Lib.hid hg'
        have GR' := Lib.hid (GW.out.trans hgr')
        clear hg' hgr' CAL
        go_wp2
        go_roundw
        case rel => exact ⟨j + 1, by omega, by go_num, Lib.hid ⟨by rw [TK.out]; exact HG'.out, GR'.out⟩⟩
        case measure => simp [intOf]; omega
      · obtain rfl : j = ks.length := by omega
        have HX : Hid (Grow W0.heap.size wr u1 2 1 (i64s (Ty.frees ks l))) := by have := HGR.out; rw [List.take_length] at this; exact this
        go_wp2_with fail
        go_ret
        exact ⟨_, rfl, HX.out, GR.out.trans GW.out⟩

end Go.Proofs.Ytbbpkjcmbakfeaa
