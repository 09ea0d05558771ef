/- Types: the program's 'FreeIds', and both whole; no condition. -/
import Derived.Test.YtbbpkjcmbakfeaaFree
namespace Go.Proofs.Ytbbpkjcmbakfeaa
open Go.RowKit
set_option linter.unusedVariables false
set_option linter.unusedSimpArgs false

noncomputable def keyI64 : KeyK Try.prog 2 Int := intKey Try.underlying2
theorem mapI64Bool : Try.prog.underlying 102 = some (.map 2 4) := by kernel_rfl
def seenOf (l : List Int) : List (Int × Value) := l.map fun d => (d, .bool true)
theorem seen_get (l : List Int) (d : Int) : mget (seenOf l) d = if d ∈ l then some (.bool true) else none := by
  induction l with
  | nil => simp [seenOf, mget]
  | cons z l ih =>
    simp only [seenOf, List.map_cons, mget] at ih ⊢
    by_cases h : z = d
    · subst h; simp
    · rw [if_neg h, ih]
      by_cases hm : d ∈ l
      · rw [if_pos hm, if_pos (by simp [hm])]
      · rw [if_neg hm, if_neg (by simp [hm]; exact fun e => h e.symm)]
theorem seen_put {l : List Int} {d : Int} (h : ¬ d ∈ l) : mput (seenOf l) d (.bool true) = seenOf (l ++ [d]) := by
  rw [mput_new (by rw [seen_get, if_neg h])]
  simp [seenOf]
theorem seen_len (l : List Int) : (seenOf l).length = l.length := by simp [seenOf]
theorem maxLen_big {n : Nat} (h : n ≤ 140737488355328) : n < maxLen := by simp only [maxLen]; omega

def ImplFree (x : Ty) : Prop := ∀ (W0 w : World) (cs : List Value) (b off m : Nat) (v : Value) (l : List Int), Rd W0 x.enc cs → CellsAt W0 b off cs → Below W0.heap.size W0 w → Grow W0.heap.size w v 2 1 (i64s l) → HasMap keyI64 m (seenOf l) w → W0.heap.size ≤ m → l.length + x.size ≤ 1000000 →
  Calls Try.prog 64 #[.pointer (some ⟨b, off, none⟩), .map (some m), v] w fun e w' => ∃ v', e = .returned v' ∧ Grow W0.heap.size w' v' 2 1 (i64s (x.free l)) ∧ HasMap keyI64 m (seenOf (x.free l)) w' ∧ Below W0.heap.size W0 w'

set_option maxRecDepth 100000 in
theorem ImplFree_of (k d : Int) (n : ByteArray) (ks : List Ty) (hw : (Ty.mk k d n ks).wf) (ho : (Ty.mk k d n ks).ok) (ih : ∀ x ∈ ks, ImplFree x) : ImplFree (.mk k d n ks) := by
  intro W0 w cs b off m v l h hc hb hg hm hmB hl
  obtain ⟨A, c, rfl, _, _, h4⟩ := Ty.open_ h
  simp only [Ty.ok] at ho
  have hn : ks.length ≤ 140737488351232 := ho.2.2.2.1
  have hdw : (Lit.int .i64 d).wf = true := ho.2.1
  have C0 : Hid (∀ w', Below W0.heap.size W0 w' → w'.cell? ⟨b, off, none⟩ = some (.int .i64 k)) := fun w' hb => cell_below hb (by simpa using hc 0 _ rfl)
  have C1 : Hid (∀ w', Below W0.heap.size W0 w' → w'.cell? ⟨b, off + 1, none⟩ = some (.int .i64 d)) := fun w' hb => cell_below hb (hc 1 _ rfl)
  have C3 : Hid (∀ w', Below W0.heap.size W0 w' → w'.cell? ⟨b, off + 3, none⟩ = some (.slice A ks.length c)) := fun w' hb => cell_below hb (hc 3 _ rfl)
  have HG := Lib.hid hg
  have HM := Lib.hid hm
  have HB := Lib.hid hb
  have IH := Lib.hid ih
  have H4 := Lib.hid h4
  have HMB := Lib.hid hmB
  have HDW := Lib.hid hdw
  have HW := Lib.hid hw
  have z0 := C0.out _ hb
  have z1 := C1.out _ hb
  clear h hc h4 ih hb hg hm hmB ho hdw hw
  by_cases hk : k = 1
  · subst hk
    have hR : (Ty.mk 1 d n ks).free l = if d ∈ l then l else l ++ [d] := by rw [Ty.free, if_pos rfl]
    have hks : ks = [] := by
      have := HW.out
      simp only [Ty.wf] at this
      rcases this with h | h
      · exact h.2.2.2
      · omega
    subst hks
    generalize (Ty.mk 1 d n []).free l = R at *
    have HR := Lib.hid hR
    have LE : Hid (l.length + 1 ≤ 1000000) := by show _ ≤ _; simpa only [Ty.size, Ty.sizes] using hl
    clear hR hl
    by_cases hd : d ∈ l
    · have hR2 := HR.out
      rw [if_pos hd] at hR2
      have HR2 := Lib.hid hR2
      clear hR2
      have G1 : Hid ((mget (seenOf l) d).getD (.bool false) = .bool true) := by show _ = _; rw [seen_get, if_pos hd]; rfl
      have z3 := C3.out _ HB.out
      clear hd HR
      go_enter Try.func64, Try.ntmps64
      go_wp2_with (at_lookup; refine wpl_map_get_g rfl _ _ rfl (Try.zeroValue4 _) mapI64Bool rfl HM.out d rfl HDW.out _ G1.out ?_)
      go_loopw [2, 39] (fun q i wr => i = .int .i64 0 ∧ wr = w ∧ q = v) (fun _ _ _ => 0)
      case atStart => exact ⟨rfl, rfl, rfl⟩
      case round =>
        obtain ⟨rfl, rfl, rfl⟩ := hrel
        go_wp2_with fail
        go_ret
        exact ⟨_, rfl, by rw [HR2.out]; exact HG.out, by rw [HR2.out]; exact HM.out, HB.out⟩
    · have hR2 := HR.out
      rw [if_neg hd] at hR2
      have HR2 := Lib.hid hR2
      clear hR2
      have G1 : Hid ((mget (seenOf l) d).getD (.bool false) = .bool false) := by show _ = _; rw [seen_get, if_neg hd]; rfl
      have PUT := Lib.hid (seen_put hd)
      obtain ⟨i0, hi, hz0, hz1, hz2⟩ := info_parts infoI64
      have FACT : ∀ w1, w.grownBy w1 (some m) → Hid (Below W0.heap.size W0 w1 ∧ Grow W0.heap.size w1 v 2 1 (i64s l)) := fun w1 hg1 =>
        ⟨HB.out.grown hg1 HB.out.size (fun g hg => by injection hg with hg; subst hg; exact HMB.out), HG.out.plain (fun cells f hf => fields_i64 hf) hg1 (by
          have := HG.out.ne_map HM.out
          cases hv : v.ownBlock with
          | none => exact .inl rfl
          | some g => exact .inr (by rw [← hv]; exact fun e => this e.symm))⟩
      have FACT := Lib.hid FACT
      clear hd HR
      go_enter Try.func64, Try.ntmps64
      go_wp2_with (first
        | (at_lookup; refine wpl_map_get_g rfl _ _ rfl (Try.zeroValue4 _) mapI64Bool rfl HM.out d rfl HDW.out _ G1.out ?_)
        | (at_mapUpdate; refine wpl_map_put rfl _ _ _ rfl mapI64Bool rfl HM.out (maxLen_big (by rw [seen_len]; have := LE.out; omega)) d rfl HDW.out (.bool true) rfl ?_; intro w1 hm1 hg1; rw [PUT.out] at hm1; have F1 := Lib.hid (FACT.out w1 hg1).out; have HM1 := Lib.hid hm1; have y1 := C1.out _ F1.out.1; have ALB := Lib.hid (below_alloc1 w1 (.cells #[.int .i64 d] 2)); have CA := Lib.hid (cellsAt_new w1 [.int .i64 d] 2); clear hm1 hg1)
        | (at_builtin; refine wpl_push rfl _ _ 26 rfl W0.heap.size 2 i0 (.int .i64 0) 1 8 Try.underlying26 hi hz0 hz1 hz2 rfl (by decide) _ (i64s l) rfl F1.out.2 ALB.out (.int .i64 d) [.int .i64 d] (fr_int _ _ _ _) rfl w1.heap.size 1 rfl CA.out (by rw [i64s_length]; have := LE.out; omega) (by rw [i64s_length]; have := LE.out; omega) F1.out.1.size ?_; intro v' w2 hg' hgr' _; have HG2 := Lib.hid hg'; have GR2 := Lib.hid hgr'; have BL := Lib.hid (F1.out.1.trans (ALB.out.mono F1.out.1.size)); have BL2 := Lib.hid (GR2.out.below BL.out BL.out.size (fun g hg => (F1.out.2.bound g hg).1)); have y3 := C3.out _ BL2.out; clear hg' hgr'))
      go_loopw [2, 39] (fun q i wr => i = .int .i64 0 ∧ wr = w2 ∧ q = v') (fun _ _ _ => 0)
      case atStart => exact ⟨rfl, rfl, rfl⟩
      case round =>
        obtain ⟨rfl, rfl, rfl⟩ := hrel
        go_wp2_with fail
        go_ret
        refine ⟨_, rfl, by rw [HR2.out, i64s_snoc]; exact HG2.out, ?_, BL2.out⟩
        rw [HR2.out]
        exact (HM1.out.below ALB.out).kept GR2.out.grown ((F1.out.2.below ALB.out).ne_map (HM1.out.below ALB.out))
  · have hR : (Ty.mk k d n ks).free l = Ty.frees ks l := by rw [Ty.free, if_neg hk]
    rw [hR]
    have LE : Hid (l.length + Ty.sizes ks ≤ 1000000) := by show _ ≤ _; simp only [Ty.size] at hl; omega
    have hk' : (k == 1) = false := beq_eq_false_iff_ne.2 hk
    have z3 := C3.out _ HB.out
    clear hR hl hk
    go_enter Try.func64, Try.ntmps64
    go_wp2_with fail
    go_loopw [2, 39] (fun q i wr => ∃ j : Nat, j ≤ ks.length ∧ i = .int .i64 j ∧ Hid (Grow W0.heap.size wr q 2 1 (i64s (Ty.frees (ks.take j) l)) ∧ HasMap keyI64 m (seenOf (Ty.frees (ks.take j) l)) wr ∧ Below W0.heap.size W0 wr)) (fun _ i _ => ks.length - (intOf i).toNat)
    case atStart => exact ⟨0, Nat.zero_le _, rfl, Lib.hid ⟨by simpa [Ty.frees] using HG.out, by simpa [Ty.frees] using HM.out, HB.out⟩⟩
    case round =>
      obtain ⟨j, hj, rfl, hrel⟩ := hrel
      have RL := Lib.hid hrel.out
      have y3 := C3.out _ RL.out.2.2
      clear hrel
      by_cases hlt : j < ks.length
      · obtain ⟨b', off', es, rfl, hcl, hrd, hc⟩ := H4.out.get (i := j) (x := ks[j].enc) (by simp [Ty.encs_map, List.getElem?_eq_getElem hlt])
        have hfl : (Ty.frees (ks.take j) l).length + ks[j].size ≤ 1000000 := by
          have h1 := Ty.frees_len (ks.take j) (fun x _ => Ty.free_len x) l
          have h2 := Ty.sizes_take hlt
          have h3 := Ty.sizes_take_le ks (j + 1)
          have h4 := LE.out
          omega
        have CAL := Lib.hid (IH.out _ (List.getElem_mem hlt) W0 wr _ b' (off' + j * 4) m _ _ hrd hc RL.out.2.2 RL.out.1 RL.out.2.1 HMB.out hfl)
        have TK := Lib.hid (Ty.frees_take hlt l)
        clear hrd hc hcl hfl
        go_wp2_with fail
        refine CAL.out.mono ?_
        rintro e w1 ⟨v', rfl, hq⟩
        have HQ := Lib.hid hq
        clear hq CAL
        go_wp2
        go_roundw
        case rel => exact ⟨j + 1, by omega, by go_num, Lib.hid (by rw [TK.out]; exact HQ.out)⟩
        case measure => simp [intOf]; omega
      · obtain rfl : j = ks.length := by omega
        have HX := RL.out
        rw [List.take_length] at HX
        have HX := Lib.hid HX
        go_wp2_with fail
        go_ret
        exact ⟨_, rfl, HX.out⟩

theorem ImplFree_all : ∀ (x : Ty), x.wf → x.ok → ImplFree x :=
  Ty.induct fun k d n ks ih hw ho => by
    have hw' := hw
    have ho' := ho
    simp only [Ty.wf] at hw'
    simp only [Ty.ok] at ho'
    refine ImplFree_of k d n ks hw ho fun x hx => ih x hx ?_ (Ty.oks_mem ho'.2.2.2.2 x hx)
    rcases hw' with ⟨_, _, _, rfl⟩ | hw'
    · cases hx
    · exact Ty.wfs_mem hw'.2.2.2 x hx
theorem SpecFree_all : ∀ (x : Ty), x.ok → SpecFree x :=
  Ty.induct fun k d n ks ih ho => by
    simp only [Ty.ok] at ho
    exact SpecFree_of k d n ks ho.2.2.2.1 fun x hx => ih x hx (Ty.oks_mem ho.2.2.2.2 x hx)

end Go.Proofs.Ytbbpkjcmbakfeaa
