/- Core terms: the program's 'CoreSize': the walk over a term with a closure that counts; no condition. -/
import Derived.Test.YtjemcaokiifomaaCrSz
namespace Go.Proofs.Ytjemcaokiifomaa
open Go.RowKit
set_option linter.unusedVariables false
set_option linter.unusedSimpArgs false

theorem cell_lt {w : World} {p : Addr} {v : Value} (h : w.cell? p = some v) : p.block < w.heap.size := by
  apply Classical.byContradiction
  intro hn
  have : w.heap[p.block]? = none := Array.getElem?_eq_none (by omega)
  simp [World.cell?, this] at h
theorem cell_below {w w1 : World} {p : Addr} {v : Value} (hb : Below w.heap.size w w1) (h : w.cell? p = some v) : w1.cell? p = some v := (hb.cell (cell_lt h)).trans h
theorem below_set2 {n G : Nat} {a w : World} {u u' : Value} (h : Below n (a.setCell ⟨G, 0, none⟩ u) w) (hG : G < n) : Below n (a.setCell ⟨G, 0, none⟩ u') (w.setCell ⟨G, 0, none⟩ u') := by
  refine ⟨h.os, h.tape, h.output, by simpa [World.setCell] using h.size, fun k hk => ?_⟩
  by_cases hkG : k = G
  · subst hkG
    have h1 := h.block k hk
    simp only [World.setCell, Array.getElem?_modify] at h1 ⊢
    simp only [if_true] at h1 ⊢
    rw [h1]
    cases a.heap[k]? with
    | none => rfl
    | some o => cases o <;> simp
  · rw [Below.heap_setCell w ⟨G, 0, none⟩ u' k hkG, Below.heap_setCell a ⟨G, 0, none⟩ u' k hkG, h.block k hk, Below.heap_setCell a ⟨G, 0, none⟩ u k hkG]
theorem set_self {w : World} {G : Nat} {u : Value} {T : TypeId} (h : w.heap[G]? = some (.cells #[u] T (0, 0))) : Below w.heap.size (w.setCell ⟨G, 0, none⟩ u) w := by
  refine ⟨rfl, rfl, rfl, by simp [World.setCell], fun k hk => ?_⟩
  by_cases hkG : k = G
  · subst hkG
    rw [blk_set h 0 u, h]
    rfl
  · rw [Below.heap_setCell w ⟨G, 0, none⟩ u k hkG]
/-- The count in block G has become n, nothing else below has changed. -/
def Cnt (w0 : World) (G : Nat) (n : Int) (w : World) : Prop := Below w0.heap.size (w0.setCell ⟨G, 0, none⟩ (.int .i64 n)) w
theorem Cnt.blk {w0 w : World} {G : Nat} {n n0 : Int} (h : Cnt w0 G n w) (hG : w0.heap[G]? = some (.cells #[.int .i64 n0] 2 (0, 0))) : w.heap[G]? = some (.cells #[.int .i64 n] 2 (0, 0)) := by
  rw [h.block G (blk_lt hG)]
  exact (blk_set hG 0 _).trans rfl
theorem Cnt.size {w0 w : World} {G : Nat} {n : Int} (h : Cnt w0 G n w) : w0.heap.size ≤ w.heap.size := by
  have := Below.size h
  simpa [World.setCell] using this
theorem Cnt.trans {w0 w w1 : World} {G : Nat} {n n' : Int} (h : Cnt w0 G n w) (k : Cnt w G n' w1) (hG : G < w0.heap.size) : Cnt w0 G n' w1 :=
  (below_set2 h hG).trans (Below.mono k h.size)
theorem Cnt.start {w : World} {G : Nat} {n : Int} (hG : w.heap[G]? = some (.cells #[.int .i64 n] 2 (0, 0))) : Cnt w G n w := set_self hG
theorem Cnt.below {W0 w w1 : World} {G : Nat} {n : Int} (h : Cnt w G n w1) (hb : Below W0.heap.size W0 w) (hG : W0.heap.size ≤ G) : Below W0.heap.size W0 w1 :=
  (hb.setCell (p := ⟨G, 0, none⟩) hG _).trans (Below.mono h hb.size)

/-- The closure counts one more. -/
theorem closeSz (w : World) (v d : Value) (G : Nat) (n : Int) (h0 : -1000000000 ≤ n) (h1 : n ≤ 1000000000) (hG : w.heap[G]? = some (.cells #[.int .i64 n] 2 (0, 0))) :
    Calls Try.prog 58 #[v, d, .pointer (some ⟨G, 0, none⟩)] w fun e w' => e = .returned (.bool true) ∧ Cnt w G (n + 1) w' := by
  have z0 : World.cell? w ⟨G, 0, none⟩ = some (.int .i64 n) := (blk_cell hG 0).trans rfl
  have zf := blk_frozen hG 0
  clear hG
  go_enter Try.func58, Try.ntmps58
  go_wp2
  go_ret
  refine ⟨rfl, ?_⟩
  exact Below.refl _ _

def EachSz (x : Cr) : Prop := ∀ (W0 w : World) (cs : List Value) (b off G : Nat) (d n : Int), Rd W0 x.enc cs → CellsAt W0 b off cs → Below W0.heap.size W0 w → w.heap[G]? = some (.cells #[.int .i64 n] 2 (0, 0)) → W0.heap.size ≤ G → 0 ≤ n → n + x.count ≤ 1000000 + 1048577 →
  Calls Try.prog 57 #[.pointer (some ⟨b, off, none⟩), .int .i64 d, .func (.func 58) #[] #[.pointer (some ⟨G, 0, none⟩)]] w fun e w' => e = .returned (.bool true) ∧ Cnt w G (n + x.count) w'

set_option maxRecDepth 100000 in
set_option maxHeartbeats 2000000 in
theorem EachSz_of (k : Int) (nm : ByteArray) (m : Bool) (l : List Int) (ns : List ByteArray) (ks : List Cr) (qs : List Ca) (hkn : ks.length ≤ 140737488351232) (han : qs.length ≤ 140737488351232) (ih : ∀ x ∈ ks, EachSz x) (ia : ∀ a ∈ qs, EachSz a.body) : EachSz (.mk k nm m l ns ks qs) := by
  intro W0 w cs b off G d n h hc hb hG hG0 hn0 hcount
  simp only [Cr.count] at hcount
  obtain ⟨AL, cL, AN, cN, AK, cK, AA, cA, rfl, _, _, rK, rA, _, _, _, _⟩ := Cr.open_ h
  have hGl := blk_lt hG
  have C5 : Hid (∀ w', Below W0.heap.size W0 w' → w'.cell? ⟨b, off + 5, none⟩ = some (.slice AK ks.length cK)) := fun w' hb => cell_below hb (hc 5 _ rfl)
  have C6 : Hid (∀ w', Below W0.heap.size W0 w' → w'.cell? ⟨b, off + 6, none⟩ = some (.slice AA qs.length cA)) := fun w' hb => cell_below hb (hc 6 _ rfl)
  have IH := Lib.hid ih
  have IA := Lib.hid ia
  have HB := Lib.hid hb
  have HG := Lib.hid hG
  have RK := Lib.hid rK
  have RA := Lib.hid rA
  have HG0 := Lib.hid hG0
  have GL := Lib.hid hGl
  clear ih ia h hc hb hG rK rA hG0 hGl
  go_enter Try.func57, Try.ntmps57
  go_wp2_with fail
  refine (closeSz w _ _ G n (by omega) (by omega) HG.out).mono ?_
  rintro e w1 ⟨rfl, hc1⟩
  have z5 := C5.out w1 (hc1.below HB.out HG0.out)
  have CN := Lib.hid hc1
  clear hc1
  go_wp2_with fail
  clear z5
  go_loopw [19] (fun i wr => ∃ j : Nat, j ≤ ks.length ∧ i = .int .i64 j ∧ Cnt w G (n + 1 + (Cr.counts (ks.take j) : Int)) wr) (fun i _ => ks.length - (intOf i).toNat)
  case atStart => exact ⟨0, Nat.zero_le _, rfl, by simpa [Cr.counts] using CN.out⟩
  case round =>
    obtain ⟨j, hj, rfl, hcn⟩ := hrel
    clear CN
    have z5 := C5.out wr (hcn.below HB.out HG0.out)
    have z6 := C6.out wr (hcn.below HB.out HG0.out)
    by_cases hlt : j < ks.length
    · obtain ⟨b', off', es, rfl, hcl, hrd, hc⟩ := RK.out.get (i := j) (x := ks[j].enc) (by simp [Cr.encs_map, List.getElem?_eq_getElem hlt])
      have t1 := Cr.counts_take hlt
      have t2 := Cr.counts_take_le (xs := ks) (j + 1)
      have CAL := fun d => IH.out _ (List.getElem_mem hlt) W0 wr _ b' (off' + j * 7) G d (n + 1 + (Cr.counts (ks.take j) : Int)) hrd hc (hcn.below HB.out HG0.out) (hcn.blk HG.out) HG0.out (by omega) (by omega)
      have CAL := Lib.hid CAL
      have CN := Lib.hid hcn
      have T1 := Lib.hid t1
      have i0 : (0 : Int) ≤ (j : Int) := Int.natCast_nonneg _
      have i1 : (j : Int) < (ks.length : Int) := by omega
      clear hrd hcl hc t1 t2 hcn
      go_wp2_with fail
      refine (CAL.out _).mono ?_
      rintro e w2 ⟨rfl, hc2⟩
      have CN2 := Lib.hid (CN.out.trans hc2 GL.out)
      clear hc2 CAL
      go_wp2
      go_roundw
      case rel => exact ⟨j + 1, by omega, by go_num, by rw [T1.out]; have q := CN2.out; rw [Int.add_assoc] at q; simpa using q⟩
      case measure => simp [intOf]; omega
    · obtain rfl : j = ks.length := by omega
      rw [List.take_length] at hcn
      have CX := Lib.hid hcn
      clear hcn hj hlt
      go_wp2_with fail
      clear z5 z6
      go_loopw [39] (fun i wr => ∃ j : Nat, j ≤ qs.length ∧ i = .int .i64 j ∧ Cnt w G (n + 1 + (Cr.counts ks : Int) + (Ca.counts (qs.take j) : Int)) wr) (fun i _ => qs.length - (intOf i).toNat)
      case atStart => exact ⟨0, Nat.zero_le _, rfl, by simpa [Ca.counts] using CX.out⟩
      case round =>
        obtain ⟨j, hj, rfl, hcn⟩ := hrel
        clear CX
        have z5 := C5.out wr (hcn.below HB.out HG0.out)
        have z6 := C6.out wr (hcn.below HB.out HG0.out)
        by_cases hlt : j < qs.length
        · obtain ⟨b', off', es, rfl, hcl, hrd, hc⟩ := RA.out.get (i := j) (x := qs[j].enc) (by simp [Ca.encs_map, List.getElem?_eq_getElem hlt])
          obtain ⟨nv, bs, rfl, hbl, _, hbd⟩ := Ca.openB hrd
          have hcb : CellsAt W0 b' (off' + j * 9 + 2) bs := fun i u hi => by
            have := hc (i + 2) u (by simpa using hi)
            rw [show off' + j * 9 + 2 + i = off' + j * 9 + (i + 2) by omega]
            exact this
          have t1 := Ca.counts_take hlt
          have t2 := Ca.counts_take_le (xs := qs) (j + 1)
          have CAL := fun d => IA.out _ (List.getElem_mem hlt) W0 wr _ b' (off' + j * 9 + 2) G d (n + 1 + (Cr.counts ks : Int) + (Ca.counts (qs.take j) : Int)) hbd hcb (hcn.below HB.out HG0.out) (hcn.blk HG.out) HG0.out (by omega) (by omega)
          have CAL := Lib.hid CAL
          have CN := Lib.hid hcn
          have T1 := Lib.hid t1
          have i0 : (0 : Int) ≤ (j : Int) := Int.natCast_nonneg _
          have i1 : (j : Int) < (qs.length : Int) := by omega
          clear hrd hcl hc t1 t2 hcn hbd hcb hbl
          go_wp2_with fail
          refine (CAL.out _).mono ?_
          rintro e w2 ⟨rfl, hc2⟩
          have CN2 := Lib.hid (CN.out.trans hc2 GL.out)
          clear hc2 CAL
          go_wp2
          go_roundw
          case rel => exact ⟨j + 1, by omega, by go_num, by rw [T1.out]; have q := CN2.out; rw [Int.add_assoc] at q; simpa using q⟩
          case measure => simp [intOf]; omega
        · obtain rfl : j = qs.length := by omega
          rw [List.take_length] at hcn
          have CX := Lib.hid hcn
          clear hcn
          go_wp2
          go_ret
          refine ⟨rfl, ?_⟩
          have e : n + ((1 + (Cr.counts ks + Ca.counts qs) : Nat) : Int) = n + 1 + (Cr.counts ks : Int) + (Ca.counts qs : Int) := by omega
          rw [Cr.count, e]
          exact CX.out

theorem EachSz_all : ∀ (x : Cr), x.ok → EachSz x :=
  Cr.induct fun k n m l ns ks qs ih ia h => by
    simp only [Cr.ok] at h
    obtain ⟨_, _, _, _, hk, ha, hks, has⟩ := h
    exact EachSz_of k n m l ns ks qs hk ha (fun x hx => ih x hx (Cr.oks_mem hks x hx)) (fun a hm => ia a hm (Ca.body_ok (Ca.oks_mem has a hm)))

set_option maxRecDepth 100000 in
theorem implCoreSize (x : Cr) (hx : x.ok) (hcount : x.count ≤ 1048577) (w : World) (cs : List Value) (h : Rd w x.enc cs) :
    Calls Try.prog 23 #[.agg cs.toArray] w fun e w' => e = .returned (.int .i64 x.count) ∧ Below w.heap.size w w' := by
  obtain ⟨u0, u1, u2, u3, u4, u5, u6, rfl⟩ := cells7 (h.len.trans x.n)
  obtain ⟨o1, ho1⟩ : ∃ o1 : Obj, o1 = .cells #[u0, u1, u2, u3, u4, u5, u6] 36 := ⟨_, rfl⟩
  have B1 := (Below.refl w.heap.size w).alloc (Nat.le_refl _) o1
  have hG := blk_new (w.alloc o1) (.cells #[.int .i64 0] 2)
  have hs : (w.alloc o1).heap.size = w.heap.size + 1 := by simp
  have hs2 : ((w.alloc o1).alloc (.cells #[.int .i64 0] 2)).heap.size = w.heap.size + 2 := by simp
  have hbk : (w.alloc o1).heap[w.heap.size]? = some (.cells #[u0, u1, u2, u3, u4, u5, u6] 36 (0, 0)) := by rw [ho1]; exact blk_new w _
  have CAL := EachSz_all x hx (w.alloc o1) ((w.alloc o1).alloc (.cells #[.int .i64 0] 2)) _ w.heap.size 0 (w.heap.size + 1) 1 0 (h.below B1) (fun i u hi => by
    have := blk_cell hbk (0 + i)
    rw [this]
    simpa using hi) ((Below.refl _ _).alloc (Nat.le_refl _) _) (by rw [← hs]; exact hG) (by rw [hs]; exact Nat.le_refl _) (by omega) (by omega)
  have CAL := Lib.hid CAL
  have HG := Lib.hid hG
  have B2 := Lib.hid (B1.alloc (by simp) (.cells #[.int .i64 0] 2))
  clear h hG hbk B1
  subst ho1
  go_enter Try.func23, Try.ntmps23
  go_wp2_with fail
  refine CAL.out.mono ?_
  rintro e w2 ⟨rfl, hc⟩
  have hq := hc.blk (by rw [← hs]; exact HG.out)
  have z0 : World.cell? w2 ⟨w.heap.size + 1, 0, none⟩ = some (.int .i64 (0 + x.count)) := (blk_cell hq 0).trans rfl
  have HB := Lib.hid (Cnt.below hc B2.out (Nat.le_succ _))
  clear hc hq CAL
  go_wp2
  go_ret
  exact ⟨rfl, HB.out⟩

end Go.Proofs.Ytjemcaokiifomaa
