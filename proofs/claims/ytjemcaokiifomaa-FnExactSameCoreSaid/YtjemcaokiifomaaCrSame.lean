/- Core terms: both 'SameCore' tell whether two terms are the same; no condition. -/
import Derived.Test.YtjemcaokiifomaaCrSameH
namespace Go.Proofs.Ytjemcaokiifomaa
open Go.RowKit
set_option linter.unusedVariables false
set_option linter.unusedSimpArgs false

def SameS (x : Cr) : Prop := ∀ (y : Cr) (w : World) (cs cs' : List Value), y.ok → Rd w x.enc cs → Rd w y.enc cs' →
  Calls Try.prog 24 #[.agg cs.toArray, .agg cs'.toArray] w fun e w' => e = .returned (.bool (x.same y)) ∧ Below w.heap.size w w'

set_option maxRecDepth 100000 in
set_option maxHeartbeats 2000000 in
theorem SameS_ne (k : Int) (n : ByteArray) (m : Bool) (l : List Int) (ns : List ByteArray) (ks : List Cr) (qs : List Ca) (hln : l.length ≤ 140737488351232) (hnn : ns.length ≤ 140737488351232) (hkn : ks.length ≤ 140737488351232) (han : qs.length ≤ 140737488351232) (hab : ∀ a ∈ qs, a.names.length ≤ 140737488351232) (ih : ∀ x ∈ ks, SameS x) (ia : ∀ a ∈ qs, SameS a.body) (k' : Int) (n' : ByteArray) (l' : List Int) (ns' : List ByteArray) (ks' : List Cr) (qs' : List Ca) (w : World) (cs cs' : List Value) (hok : (Cr.mk k' n' (!m) l' ns' ks' qs').ok) (h : Rd w (Cr.mk k n m l ns ks qs).enc cs) (h' : Rd w (Cr.mk k' n' (!m) l' ns' ks' qs').enc cs') :
    Calls Try.prog 24 #[.agg cs.toArray, .agg cs'.toArray] w fun e w' => e = .returned (.bool ((Cr.mk k n m l ns ks qs).same (.mk k' n' (!m) l' ns' ks' qs'))) ∧ Below w.heap.size w w' := by
  rw [Cr.same_cmp]
  obtain ⟨AL, cL, AN, cN, AK, cK, AA, cA, rfl, rL, rN, rK, rA, dL, dN, _, _⟩ := Cr.open_ h
  obtain ⟨AL', cL', AN', cN', AK', cK', AA', cA', rfl, rL', rN', rK', rA', dL', dN', _, _⟩ := Cr.open_ h'
  simp only [Cr.ok] at hok
  have OKS := Lib.hid (Cr.oks_mem hok.2.2.2.2.2.2.1)
  have OKA := Lib.hid (Ca.oks_mem hok.2.2.2.2.2.2.2)
  have bnd : l'.length ≤ 140737488351232 ∧ ns'.length ≤ 140737488351232 ∧ ks'.length ≤ 140737488351232 ∧ qs'.length ≤ 140737488351232 := ⟨hok.2.2.1.1, hok.2.2.2.1.1, hok.2.2.2.2.1, hok.2.2.2.2.2.1⟩
  obtain ⟨hln', hnn', hkn', han'⟩ := bnd
  have IH := Lib.hid ih
  have IA := Lib.hid ia
  have HAB := Lib.hid hab
  have B2 := Lib.hid (((Below.refl w.heap.size w).alloc (Nat.le_refl _) (.cells #[.int .i64 k, .string n, .bool m, .slice AL l.length cL, .slice AN ns.length cN, .slice AK ks.length cK, .slice AA qs.length cA] 36)).alloc (by simp) (.cells #[.int .i64 k', .string n', .bool (!m), .slice AL' l'.length cL', .slice AN' ns'.length cN', .slice AK' ks'.length cK', .slice AA' qs'.length cA'] 36))
  have hbo := Lib.hid (blk_old (blk_new w (.cells #[.int .i64 k, .string n, .bool m, .slice AL l.length cL, .slice AN ns.length cN, .slice AK ks.length cK, .slice AA qs.length cA] 36)) (.cells #[.int .i64 k', .string n', .bool (!m), .slice AL' l'.length cL', .slice AN' ns'.length cN', .slice AK' ks'.length cK', .slice AA' qs'.length cA'] 36))
  have hbr := Lib.hid (blk_new (w.alloc (.cells #[.int .i64 k, .string n, .bool m, .slice AL l.length cL, .slice AN ns.length cN, .slice AK ks.length cK, .slice AA qs.length cA] 36)) (.cells #[.int .i64 k', .string n', .bool (!m), .slice AL' l'.length cL', .slice AN' ns'.length cN', .slice AK' ks'.length cK', .slice AA' qs'.length cA'] 36))
  have hsW : ((w.alloc (.cells #[.int .i64 k, .string n, .bool m, .slice AL l.length cL, .slice AN ns.length cN, .slice AK ks.length cK, .slice AA qs.length cA] 36)).alloc (.cells #[.int .i64 k', .string n', .bool (!m), .slice AL' l'.length cL', .slice AN' ns'.length cN', .slice AK' ks'.length cK', .slice AA' qs'.length cA'] 36)).heap.size = w.heap.size + 2 := by simp
  have RL := Lib.hid (RdRow.below rL (by omega) B2.out)
  have RL' := Lib.hid (RdRow.below rL' (by omega) B2.out)
  have RN := Lib.hid (RdRow.below rN (by omega) B2.out)
  have RN' := Lib.hid (RdRow.below rN' (by omega) B2.out)
  have RK := Lib.hid (RdRow.below rK (by omega) B2.out)
  have RK' := Lib.hid (RdRow.below rK' (by omega) B2.out)
  have RA := Lib.hid (RdRow.below rA (by omega) B2.out)
  have RA' := Lib.hid (RdRow.below rA' (by omega) B2.out)
  have DL := Lib.hid (dL.below B2.out)
  have DL' := Lib.hid (dL'.below B2.out)
  have DN := Lib.hid (dN.below B2.out)
  have DN' := Lib.hid (dN'.below B2.out)
  have HSW := Lib.hid hsW
  clear ih ia hab h h' hok hsW rL rN rK rA rL' rN' rK' rA' dL dN dL' dN'
  by_cases hc : k = k'
  rotate_left
  · skip
    have hf : Cr.cmp k k' n n' m (!m) l l' ns ns' ks ks' qs qs' = false := by rw [Cr.cmp, show (k == k') = false from beq_eq_false_iff_ne.2 hc]; simp only [Bool.and_false, Bool.false_and]
    have HF := Lib.hid hf
    have tkind : (k != k') = true := bne_iff_ne.2 hc
    clear hf hc
    go_enter Try.func24, Try.ntmps24
    go_wp2_with fail
    generalize hW : ((w.alloc (.cells #[.int .i64 k, .string n, .bool m, .slice AL l.length cL, .slice AN ns.length cN, .slice AK ks.length cK, .slice AA qs.length cA] 36)).alloc (.cells #[.int .i64 k', .string n', .bool (!m), .slice AL' l'.length cL', .slice AN' ns'.length cN', .slice AK' ks'.length cK', .slice AA' qs'.length cA'] 36)) = W at *
    clear hW
    go_ret
    exact ⟨by rw [HF.out]; rfl, B2.out⟩
  have tkind : (k != k') = false := bne_eq_false_iff_eq.2 hc
  have Ckind := Lib.hid (show (k == k') = true from beq_iff_eq.2 hc)
  clear hc
  by_cases hc : n.toList = n'.toList
  rotate_left
  · skip
    have hf : Cr.cmp k k' n n' m (!m) l l' ns ns' ks ks' qs qs' = false := by rw [Cr.cmp, show sameTx n n' = false by simp [sameTx, hc]]; simp only [Bool.and_false, Bool.false_and]
    have HF := Lib.hid hf
    have tname' : (n.toList == n'.toList) = false := beq_eq_false_iff_ne.2 hc
    have tname : (n.toList != n'.toList) = true := bne_iff_ne.2 hc
    clear hf hc
    go_enter Try.func24, Try.ntmps24
    go_wp2_with fail
    generalize hW : ((w.alloc (.cells #[.int .i64 k, .string n, .bool m, .slice AL l.length cL, .slice AN ns.length cN, .slice AK ks.length cK, .slice AA qs.length cA] 36)).alloc (.cells #[.int .i64 k', .string n', .bool (!m), .slice AL' l'.length cL', .slice AN' ns'.length cN', .slice AK' ks'.length cK', .slice AA' qs'.length cA'] 36)) = W at *
    clear hW
    go_ret
    exact ⟨by rw [HF.out]; rfl, B2.out⟩
  have tname' : (n.toList == n'.toList) = true := beq_iff_eq.2 hc
  have tname : (n.toList != n'.toList) = false := bne_eq_false_iff_eq.2 hc
  have Cname := Lib.hid (show sameTx n n' = true by simp [sameTx, hc])
  clear hc
  by_cases hc : sameStrs ns ns' = true
  rotate_left
  · skip
    have hf : Cr.cmp k k' n n' m (!m) l l' ns ns' ks ks' qs qs' = false := by rw [Cr.cmp, show sameStrs ns ns' = false from Bool.eq_false_iff.2 hc]; simp only [Bool.and_false, Bool.false_and]
    have HF := Lib.hid hf
    have CF := Lib.hid (Bool.eq_false_iff.2 hc)
    clear hf hc
    go_enter Try.func24, Try.ntmps24
    go_wp2_with fail
    generalize hW : ((w.alloc (.cells #[.int .i64 k, .string n, .bool m, .slice AL l.length cL, .slice AN ns.length cN, .slice AK ks.length cK, .slice AA qs.length cA] 36)).alloc (.cells #[.int .i64 k', .string n', .bool (!m), .slice AL' l'.length cL', .slice AN' ns'.length cN', .slice AK' ks'.length cK', .slice AA' qs'.length cA'] 36)) = W at *
    clear hW
    refine (namesS ns ns' hnn W _ _ (DN.out.below (Below.refl W.heap.size W)) (DN'.out.below (Below.refl W.heap.size W))).mono ?_
    rintro e w1 ⟨rfl, hb⟩
    rw [CF.out]
    have HB1 := Lib.hid hb
    clear hb
    have z0 : World.cell? w1 ⟨w.heap.size, 0, none⟩ = some (.int .i64 k) := (blk_cell (blk_below hbo.out HB1.out) 0).trans rfl
    have y0 : World.cell? w1 ⟨w.heap.size + 1, 0, none⟩ = some (.int .i64 k') := by have q := blk_cell (blk_below hbr.out HB1.out) 0; simpa using q
    have z1 : World.cell? w1 ⟨w.heap.size, 1, none⟩ = some (.string n) := (blk_cell (blk_below hbo.out HB1.out) 1).trans rfl
    have y1 : World.cell? w1 ⟨w.heap.size + 1, 1, none⟩ = some (.string n') := by have q := blk_cell (blk_below hbr.out HB1.out) 1; simpa using q
    have z2 : World.cell? w1 ⟨w.heap.size, 2, none⟩ = some (.bool m) := (blk_cell (blk_below hbo.out HB1.out) 2).trans rfl
    have y2 : World.cell? w1 ⟨w.heap.size + 1, 2, none⟩ = some (.bool (!m)) := by have q := blk_cell (blk_below hbr.out HB1.out) 2; simpa using q
    have z3 : World.cell? w1 ⟨w.heap.size, 3, none⟩ = some (.slice AL l.length cL) := (blk_cell (blk_below hbo.out HB1.out) 3).trans rfl
    have y3 : World.cell? w1 ⟨w.heap.size + 1, 3, none⟩ = some (.slice AL' l'.length cL') := by have q := blk_cell (blk_below hbr.out HB1.out) 3; simpa using q
    have z4 : World.cell? w1 ⟨w.heap.size, 4, none⟩ = some (.slice AN ns.length cN) := (blk_cell (blk_below hbo.out HB1.out) 4).trans rfl
    have y4 : World.cell? w1 ⟨w.heap.size + 1, 4, none⟩ = some (.slice AN' ns'.length cN') := by have q := blk_cell (blk_below hbr.out HB1.out) 4; simpa using q
    have z5 : World.cell? w1 ⟨w.heap.size, 5, none⟩ = some (.slice AK ks.length cK) := (blk_cell (blk_below hbo.out HB1.out) 5).trans rfl
    have y5 : World.cell? w1 ⟨w.heap.size + 1, 5, none⟩ = some (.slice AK' ks'.length cK') := by have q := blk_cell (blk_below hbr.out HB1.out) 5; simpa using q
    have z6 : World.cell? w1 ⟨w.heap.size, 6, none⟩ = some (.slice AA qs.length cA) := (blk_cell (blk_below hbo.out HB1.out) 6).trans rfl
    have y6 : World.cell? w1 ⟨w.heap.size + 1, 6, none⟩ = some (.slice AA' qs'.length cA') := by have q := blk_cell (blk_below hbr.out HB1.out) 6; simpa using q
    go_wp2_with fail
    go_ret
    exact ⟨by rw [HF.out]; rfl, B2.out.trans (HB1.out.mono (by rw [HSW.out]; omega))⟩
  have Cnames := Lib.hid hc
  clear hc
  by_cases hc : ks.length = ks'.length
  rotate_left
  · skip
    have hf : Cr.cmp k k' n n' m (!m) l l' ns ns' ks ks' qs qs' = false := by rw [Cr.cmp, show all2 Cr.same ks ks' = false from all2_len hc]; simp only [Bool.and_false, Bool.false_and]
    have HF := Lib.hid hf
    have tklen : ((ks.length : Int) != (ks'.length : Int)) = true := bne_iff_ne.2 (by omega)
    clear hf hc
    go_enter Try.func24, Try.ntmps24
    go_wp2_with fail
    generalize hW : ((w.alloc (.cells #[.int .i64 k, .string n, .bool m, .slice AL l.length cL, .slice AN ns.length cN, .slice AK ks.length cK, .slice AA qs.length cA] 36)).alloc (.cells #[.int .i64 k', .string n', .bool (!m), .slice AL' l'.length cL', .slice AN' ns'.length cN', .slice AK' ks'.length cK', .slice AA' qs'.length cA'] 36)) = W at *
    clear hW
    refine (namesS ns ns' hnn W _ _ (DN.out.below (Below.refl W.heap.size W)) (DN'.out.below (Below.refl W.heap.size W))).mono ?_
    rintro e w1 ⟨rfl, hb⟩
    rw [Cnames.out]
    have HB1 := Lib.hid hb
    clear hb
    have z0 : World.cell? w1 ⟨w.heap.size, 0, none⟩ = some (.int .i64 k) := (blk_cell (blk_below hbo.out HB1.out) 0).trans rfl
    have y0 : World.cell? w1 ⟨w.heap.size + 1, 0, none⟩ = some (.int .i64 k') := by have q := blk_cell (blk_below hbr.out HB1.out) 0; simpa using q
    have z1 : World.cell? w1 ⟨w.heap.size, 1, none⟩ = some (.string n) := (blk_cell (blk_below hbo.out HB1.out) 1).trans rfl
    have y1 : World.cell? w1 ⟨w.heap.size + 1, 1, none⟩ = some (.string n') := by have q := blk_cell (blk_below hbr.out HB1.out) 1; simpa using q
    have z2 : World.cell? w1 ⟨w.heap.size, 2, none⟩ = some (.bool m) := (blk_cell (blk_below hbo.out HB1.out) 2).trans rfl
    have y2 : World.cell? w1 ⟨w.heap.size + 1, 2, none⟩ = some (.bool (!m)) := by have q := blk_cell (blk_below hbr.out HB1.out) 2; simpa using q
    have z3 : World.cell? w1 ⟨w.heap.size, 3, none⟩ = some (.slice AL l.length cL) := (blk_cell (blk_below hbo.out HB1.out) 3).trans rfl
    have y3 : World.cell? w1 ⟨w.heap.size + 1, 3, none⟩ = some (.slice AL' l'.length cL') := by have q := blk_cell (blk_below hbr.out HB1.out) 3; simpa using q
    have z4 : World.cell? w1 ⟨w.heap.size, 4, none⟩ = some (.slice AN ns.length cN) := (blk_cell (blk_below hbo.out HB1.out) 4).trans rfl
    have y4 : World.cell? w1 ⟨w.heap.size + 1, 4, none⟩ = some (.slice AN' ns'.length cN') := by have q := blk_cell (blk_below hbr.out HB1.out) 4; simpa using q
    have z5 : World.cell? w1 ⟨w.heap.size, 5, none⟩ = some (.slice AK ks.length cK) := (blk_cell (blk_below hbo.out HB1.out) 5).trans rfl
    have y5 : World.cell? w1 ⟨w.heap.size + 1, 5, none⟩ = some (.slice AK' ks'.length cK') := by have q := blk_cell (blk_below hbr.out HB1.out) 5; simpa using q
    have z6 : World.cell? w1 ⟨w.heap.size, 6, none⟩ = some (.slice AA qs.length cA) := (blk_cell (blk_below hbo.out HB1.out) 6).trans rfl
    have y6 : World.cell? w1 ⟨w.heap.size + 1, 6, none⟩ = some (.slice AA' qs'.length cA') := by have q := blk_cell (blk_below hbr.out HB1.out) 6; simpa using q
    go_wp2_with fail
    go_ret
    exact ⟨by rw [HF.out]; rfl, B2.out.trans (HB1.out.mono (by rw [HSW.out]; omega))⟩
  have tklen : ((ks.length : Int) != (ks'.length : Int)) = false := bne_eq_false_iff_eq.2 (by omega)
  have Lklen := Lib.hid hc
  clear hc
  by_cases hc : qs.length = qs'.length
  rotate_left
  · skip
    have hf : Cr.cmp k k' n n' m (!m) l l' ns ns' ks ks' qs qs' = false := by rw [Cr.cmp, show all2 Ca.same qs qs' = false from all2_len hc]; simp only [Bool.and_false, Bool.false_and]
    have HF := Lib.hid hf
    have talen : ((qs.length : Int) != (qs'.length : Int)) = true := bne_iff_ne.2 (by omega)
    clear hf hc
    go_enter Try.func24, Try.ntmps24
    go_wp2_with fail
    generalize hW : ((w.alloc (.cells #[.int .i64 k, .string n, .bool m, .slice AL l.length cL, .slice AN ns.length cN, .slice AK ks.length cK, .slice AA qs.length cA] 36)).alloc (.cells #[.int .i64 k', .string n', .bool (!m), .slice AL' l'.length cL', .slice AN' ns'.length cN', .slice AK' ks'.length cK', .slice AA' qs'.length cA'] 36)) = W at *
    clear hW
    refine (namesS ns ns' hnn W _ _ (DN.out.below (Below.refl W.heap.size W)) (DN'.out.below (Below.refl W.heap.size W))).mono ?_
    rintro e w1 ⟨rfl, hb⟩
    rw [Cnames.out]
    have HB1 := Lib.hid hb
    clear hb
    have z0 : World.cell? w1 ⟨w.heap.size, 0, none⟩ = some (.int .i64 k) := (blk_cell (blk_below hbo.out HB1.out) 0).trans rfl
    have y0 : World.cell? w1 ⟨w.heap.size + 1, 0, none⟩ = some (.int .i64 k') := by have q := blk_cell (blk_below hbr.out HB1.out) 0; simpa using q
    have z1 : World.cell? w1 ⟨w.heap.size, 1, none⟩ = some (.string n) := (blk_cell (blk_below hbo.out HB1.out) 1).trans rfl
    have y1 : World.cell? w1 ⟨w.heap.size + 1, 1, none⟩ = some (.string n') := by have q := blk_cell (blk_below hbr.out HB1.out) 1; simpa using q
    have z2 : World.cell? w1 ⟨w.heap.size, 2, none⟩ = some (.bool m) := (blk_cell (blk_below hbo.out HB1.out) 2).trans rfl
    have y2 : World.cell? w1 ⟨w.heap.size + 1, 2, none⟩ = some (.bool (!m)) := by have q := blk_cell (blk_below hbr.out HB1.out) 2; simpa using q
    have z3 : World.cell? w1 ⟨w.heap.size, 3, none⟩ = some (.slice AL l.length cL) := (blk_cell (blk_below hbo.out HB1.out) 3).trans rfl
    have y3 : World.cell? w1 ⟨w.heap.size + 1, 3, none⟩ = some (.slice AL' l'.length cL') := by have q := blk_cell (blk_below hbr.out HB1.out) 3; simpa using q
    have z4 : World.cell? w1 ⟨w.heap.size, 4, none⟩ = some (.slice AN ns.length cN) := (blk_cell (blk_below hbo.out HB1.out) 4).trans rfl
    have y4 : World.cell? w1 ⟨w.heap.size + 1, 4, none⟩ = some (.slice AN' ns'.length cN') := by have q := blk_cell (blk_below hbr.out HB1.out) 4; simpa using q
    have z5 : World.cell? w1 ⟨w.heap.size, 5, none⟩ = some (.slice AK ks.length cK) := (blk_cell (blk_below hbo.out HB1.out) 5).trans rfl
    have y5 : World.cell? w1 ⟨w.heap.size + 1, 5, none⟩ = some (.slice AK' ks'.length cK') := by have q := blk_cell (blk_below hbr.out HB1.out) 5; simpa using q
    have z6 : World.cell? w1 ⟨w.heap.size, 6, none⟩ = some (.slice AA qs.length cA) := (blk_cell (blk_below hbo.out HB1.out) 6).trans rfl
    have y6 : World.cell? w1 ⟨w.heap.size + 1, 6, none⟩ = some (.slice AA' qs'.length cA') := by have q := blk_cell (blk_below hbr.out HB1.out) 6; simpa using q
    go_wp2_with fail
    go_ret
    exact ⟨by rw [HF.out]; rfl, B2.out.trans (HB1.out.mono (by rw [HSW.out]; omega))⟩
  have talen : ((qs.length : Int) != (qs'.length : Int)) = false := bne_eq_false_iff_eq.2 (by omega)
  have Lalen := Lib.hid hc
  clear hc
  have hf : Cr.cmp k k' n n' m (!m) l l' ns ns' ks ks' qs qs' = false := by rw [Cr.cmp, show (m == (!m)) = false by cases m <;> rfl]; simp only [Bool.and_false, Bool.false_and]
  have HF := Lib.hid hf
  clear hf
  go_enter Try.func24, Try.ntmps24
  go_wp2_with fail
  generalize hW : ((w.alloc (.cells #[.int .i64 k, .string n, .bool m, .slice AL l.length cL, .slice AN ns.length cN, .slice AK ks.length cK, .slice AA qs.length cA] 36)).alloc (.cells #[.int .i64 k', .string n', .bool (!m), .slice AL' l'.length cL', .slice AN' ns'.length cN', .slice AK' ks'.length cK', .slice AA' qs'.length cA'] 36)) = W at *
  clear hW
  refine (namesS ns ns' hnn W _ _ (DN.out.below (Below.refl W.heap.size W)) (DN'.out.below (Below.refl W.heap.size W))).mono ?_
  rintro e w1 ⟨rfl, hb⟩
  rw [Cnames.out]
  have HB1 := Lib.hid hb
  clear hb
  have z0 : World.cell? w1 ⟨w.heap.size, 0, none⟩ = some (.int .i64 k) := (blk_cell (blk_below hbo.out HB1.out) 0).trans rfl
  have y0 : World.cell? w1 ⟨w.heap.size + 1, 0, none⟩ = some (.int .i64 k') := by have q := blk_cell (blk_below hbr.out HB1.out) 0; simpa using q
  have z1 : World.cell? w1 ⟨w.heap.size, 1, none⟩ = some (.string n) := (blk_cell (blk_below hbo.out HB1.out) 1).trans rfl
  have y1 : World.cell? w1 ⟨w.heap.size + 1, 1, none⟩ = some (.string n') := by have q := blk_cell (blk_below hbr.out HB1.out) 1; simpa using q
  have z2 : World.cell? w1 ⟨w.heap.size, 2, none⟩ = some (.bool m) := (blk_cell (blk_below hbo.out HB1.out) 2).trans rfl
  have y2 : World.cell? w1 ⟨w.heap.size + 1, 2, none⟩ = some (.bool (!m)) := by have q := blk_cell (blk_below hbr.out HB1.out) 2; simpa using q
  have z3 : World.cell? w1 ⟨w.heap.size, 3, none⟩ = some (.slice AL l.length cL) := (blk_cell (blk_below hbo.out HB1.out) 3).trans rfl
  have y3 : World.cell? w1 ⟨w.heap.size + 1, 3, none⟩ = some (.slice AL' l'.length cL') := by have q := blk_cell (blk_below hbr.out HB1.out) 3; simpa using q
  have z4 : World.cell? w1 ⟨w.heap.size, 4, none⟩ = some (.slice AN ns.length cN) := (blk_cell (blk_below hbo.out HB1.out) 4).trans rfl
  have y4 : World.cell? w1 ⟨w.heap.size + 1, 4, none⟩ = some (.slice AN' ns'.length cN') := by have q := blk_cell (blk_below hbr.out HB1.out) 4; simpa using q
  have z5 : World.cell? w1 ⟨w.heap.size, 5, none⟩ = some (.slice AK ks.length cK) := (blk_cell (blk_below hbo.out HB1.out) 5).trans rfl
  have y5 : World.cell? w1 ⟨w.heap.size + 1, 5, none⟩ = some (.slice AK' ks'.length cK') := by have q := blk_cell (blk_below hbr.out HB1.out) 5; simpa using q
  have z6 : World.cell? w1 ⟨w.heap.size, 6, none⟩ = some (.slice AA qs.length cA) := (blk_cell (blk_below hbo.out HB1.out) 6).trans rfl
  have y6 : World.cell? w1 ⟨w.heap.size + 1, 6, none⟩ = some (.slice AA' qs'.length cA') := by have q := blk_cell (blk_below hbr.out HB1.out) 6; simpa using q
  go_wp2_with fail
  go_ret
  exact ⟨by rw [HF.out]; rfl, B2.out.trans (HB1.out.mono (by rw [HSW.out]; omega))⟩
set_option maxRecDepth 100000 in
set_option maxHeartbeats 2000000 in
theorem SameS_eq (k : Int) (n : ByteArray) (m : Bool) (l : List Int) (ns : List ByteArray) (ks : List Cr) (qs : List Ca) (hln : l.length ≤ 140737488351232) (hnn : ns.length ≤ 140737488351232) (hkn : ks.length ≤ 140737488351232) (han : qs.length ≤ 140737488351232) (hab : ∀ a ∈ qs, a.names.length ≤ 140737488351232) (ih : ∀ x ∈ ks, SameS x) (ia : ∀ a ∈ qs, SameS a.body) (k' : Int) (n' : ByteArray) (l' : List Int) (ns' : List ByteArray) (ks' : List Cr) (qs' : List Ca) (w : World) (cs cs' : List Value) (hok : (Cr.mk k' n' m l' ns' ks' qs').ok) (h : Rd w (Cr.mk k n m l ns ks qs).enc cs) (h' : Rd w (Cr.mk k' n' m l' ns' ks' qs').enc cs') :
    Calls Try.prog 24 #[.agg cs.toArray, .agg cs'.toArray] w fun e w' => e = .returned (.bool ((Cr.mk k n m l ns ks qs).same (.mk k' n' m l' ns' ks' qs'))) ∧ Below w.heap.size w w' := by
  rw [Cr.same_cmp]
  obtain ⟨AL, cL, AN, cN, AK, cK, AA, cA, rfl, rL, rN, rK, rA, dL, dN, _, _⟩ := Cr.open_ h
  obtain ⟨AL', cL', AN', cN', AK', cK', AA', cA', rfl, rL', rN', rK', rA', dL', dN', _, _⟩ := Cr.open_ h'
  simp only [Cr.ok] at hok
  have OKS := Lib.hid (Cr.oks_mem hok.2.2.2.2.2.2.1)
  have OKA := Lib.hid (Ca.oks_mem hok.2.2.2.2.2.2.2)
  have bnd : l'.length ≤ 140737488351232 ∧ ns'.length ≤ 140737488351232 ∧ ks'.length ≤ 140737488351232 ∧ qs'.length ≤ 140737488351232 := ⟨hok.2.2.1.1, hok.2.2.2.1.1, hok.2.2.2.2.1, hok.2.2.2.2.2.1⟩
  obtain ⟨hln', hnn', hkn', han'⟩ := bnd
  have IH := Lib.hid ih
  have IA := Lib.hid ia
  have HAB := Lib.hid hab
  have B2 := Lib.hid (((Below.refl w.heap.size w).alloc (Nat.le_refl _) (.cells #[.int .i64 k, .string n, .bool m, .slice AL l.length cL, .slice AN ns.length cN, .slice AK ks.length cK, .slice AA qs.length cA] 36)).alloc (by simp) (.cells #[.int .i64 k', .string n', .bool m, .slice AL' l'.length cL', .slice AN' ns'.length cN', .slice AK' ks'.length cK', .slice AA' qs'.length cA'] 36))
  have hbo := Lib.hid (blk_old (blk_new w (.cells #[.int .i64 k, .string n, .bool m, .slice AL l.length cL, .slice AN ns.length cN, .slice AK ks.length cK, .slice AA qs.length cA] 36)) (.cells #[.int .i64 k', .string n', .bool m, .slice AL' l'.length cL', .slice AN' ns'.length cN', .slice AK' ks'.length cK', .slice AA' qs'.length cA'] 36))
  have hbr := Lib.hid (blk_new (w.alloc (.cells #[.int .i64 k, .string n, .bool m, .slice AL l.length cL, .slice AN ns.length cN, .slice AK ks.length cK, .slice AA qs.length cA] 36)) (.cells #[.int .i64 k', .string n', .bool m, .slice AL' l'.length cL', .slice AN' ns'.length cN', .slice AK' ks'.length cK', .slice AA' qs'.length cA'] 36))
  have hsW : ((w.alloc (.cells #[.int .i64 k, .string n, .bool m, .slice AL l.length cL, .slice AN ns.length cN, .slice AK ks.length cK, .slice AA qs.length cA] 36)).alloc (.cells #[.int .i64 k', .string n', .bool m, .slice AL' l'.length cL', .slice AN' ns'.length cN', .slice AK' ks'.length cK', .slice AA' qs'.length cA'] 36)).heap.size = w.heap.size + 2 := by simp
  have RL := Lib.hid (RdRow.below rL (by omega) B2.out)
  have RL' := Lib.hid (RdRow.below rL' (by omega) B2.out)
  have RN := Lib.hid (RdRow.below rN (by omega) B2.out)
  have RN' := Lib.hid (RdRow.below rN' (by omega) B2.out)
  have RK := Lib.hid (RdRow.below rK (by omega) B2.out)
  have RK' := Lib.hid (RdRow.below rK' (by omega) B2.out)
  have RA := Lib.hid (RdRow.below rA (by omega) B2.out)
  have RA' := Lib.hid (RdRow.below rA' (by omega) B2.out)
  have DL := Lib.hid (dL.below B2.out)
  have DL' := Lib.hid (dL'.below B2.out)
  have DN := Lib.hid (dN.below B2.out)
  have DN' := Lib.hid (dN'.below B2.out)
  have HSW := Lib.hid hsW
  clear ih ia hab h h' hok hsW rL rN rK rA rL' rN' rK' rA' dL dN dL' dN'
  by_cases hc : k = k'
  rotate_left
  · skip
    have hf : Cr.cmp k k' n n' m m l l' ns ns' ks ks' qs qs' = false := by rw [Cr.cmp, show (k == k') = false from beq_eq_false_iff_ne.2 hc]; simp only [Bool.and_false, Bool.false_and]
    have HF := Lib.hid hf
    have tkind : (k != k') = true := bne_iff_ne.2 hc
    clear hf hc
    go_enter Try.func24, Try.ntmps24
    go_wp2_with fail
    generalize hW : ((w.alloc (.cells #[.int .i64 k, .string n, .bool m, .slice AL l.length cL, .slice AN ns.length cN, .slice AK ks.length cK, .slice AA qs.length cA] 36)).alloc (.cells #[.int .i64 k', .string n', .bool m, .slice AL' l'.length cL', .slice AN' ns'.length cN', .slice AK' ks'.length cK', .slice AA' qs'.length cA'] 36)) = W at *
    clear hW
    go_ret
    exact ⟨by rw [HF.out]; rfl, B2.out⟩
  have tkind : (k != k') = false := bne_eq_false_iff_eq.2 hc
  have Ckind := Lib.hid (show (k == k') = true from beq_iff_eq.2 hc)
  clear hc
  by_cases hc : n.toList = n'.toList
  rotate_left
  · skip
    have hf : Cr.cmp k k' n n' m m l l' ns ns' ks ks' qs qs' = false := by rw [Cr.cmp, show sameTx n n' = false by simp [sameTx, hc]]; simp only [Bool.and_false, Bool.false_and]
    have HF := Lib.hid hf
    have tname' : (n.toList == n'.toList) = false := beq_eq_false_iff_ne.2 hc
    have tname : (n.toList != n'.toList) = true := bne_iff_ne.2 hc
    clear hf hc
    go_enter Try.func24, Try.ntmps24
    go_wp2_with fail
    generalize hW : ((w.alloc (.cells #[.int .i64 k, .string n, .bool m, .slice AL l.length cL, .slice AN ns.length cN, .slice AK ks.length cK, .slice AA qs.length cA] 36)).alloc (.cells #[.int .i64 k', .string n', .bool m, .slice AL' l'.length cL', .slice AN' ns'.length cN', .slice AK' ks'.length cK', .slice AA' qs'.length cA'] 36)) = W at *
    clear hW
    go_ret
    exact ⟨by rw [HF.out]; rfl, B2.out⟩
  have tname' : (n.toList == n'.toList) = true := beq_iff_eq.2 hc
  have tname : (n.toList != n'.toList) = false := bne_eq_false_iff_eq.2 hc
  have Cname := Lib.hid (show sameTx n n' = true by simp [sameTx, hc])
  clear hc
  by_cases hc : sameStrs ns ns' = true
  rotate_left
  · skip
    have hf : Cr.cmp k k' n n' m m l l' ns ns' ks ks' qs qs' = false := by rw [Cr.cmp, show sameStrs ns ns' = false from Bool.eq_false_iff.2 hc]; simp only [Bool.and_false, Bool.false_and]
    have HF := Lib.hid hf
    have CF := Lib.hid (Bool.eq_false_iff.2 hc)
    clear hf hc
    go_enter Try.func24, Try.ntmps24
    go_wp2_with fail
    generalize hW : ((w.alloc (.cells #[.int .i64 k, .string n, .bool m, .slice AL l.length cL, .slice AN ns.length cN, .slice AK ks.length cK, .slice AA qs.length cA] 36)).alloc (.cells #[.int .i64 k', .string n', .bool m, .slice AL' l'.length cL', .slice AN' ns'.length cN', .slice AK' ks'.length cK', .slice AA' qs'.length cA'] 36)) = W at *
    clear hW
    refine (namesS ns ns' hnn W _ _ (DN.out.below (Below.refl W.heap.size W)) (DN'.out.below (Below.refl W.heap.size W))).mono ?_
    rintro e w1 ⟨rfl, hb⟩
    rw [CF.out]
    have HB1 := Lib.hid hb
    clear hb
    have z0 : World.cell? w1 ⟨w.heap.size, 0, none⟩ = some (.int .i64 k) := (blk_cell (blk_below hbo.out HB1.out) 0).trans rfl
    have y0 : World.cell? w1 ⟨w.heap.size + 1, 0, none⟩ = some (.int .i64 k') := by have q := blk_cell (blk_below hbr.out HB1.out) 0; simpa using q
    have z1 : World.cell? w1 ⟨w.heap.size, 1, none⟩ = some (.string n) := (blk_cell (blk_below hbo.out HB1.out) 1).trans rfl
    have y1 : World.cell? w1 ⟨w.heap.size + 1, 1, none⟩ = some (.string n') := by have q := blk_cell (blk_below hbr.out HB1.out) 1; simpa using q
    have z2 : World.cell? w1 ⟨w.heap.size, 2, none⟩ = some (.bool m) := (blk_cell (blk_below hbo.out HB1.out) 2).trans rfl
    have y2 : World.cell? w1 ⟨w.heap.size + 1, 2, none⟩ = some (.bool m) := by have q := blk_cell (blk_below hbr.out HB1.out) 2; simpa using q
    have z3 : World.cell? w1 ⟨w.heap.size, 3, none⟩ = some (.slice AL l.length cL) := (blk_cell (blk_below hbo.out HB1.out) 3).trans rfl
    have y3 : World.cell? w1 ⟨w.heap.size + 1, 3, none⟩ = some (.slice AL' l'.length cL') := by have q := blk_cell (blk_below hbr.out HB1.out) 3; simpa using q
    have z4 : World.cell? w1 ⟨w.heap.size, 4, none⟩ = some (.slice AN ns.length cN) := (blk_cell (blk_below hbo.out HB1.out) 4).trans rfl
    have y4 : World.cell? w1 ⟨w.heap.size + 1, 4, none⟩ = some (.slice AN' ns'.length cN') := by have q := blk_cell (blk_below hbr.out HB1.out) 4; simpa using q
    have z5 : World.cell? w1 ⟨w.heap.size, 5, none⟩ = some (.slice AK ks.length cK) := (blk_cell (blk_below hbo.out HB1.out) 5).trans rfl
    have y5 : World.cell? w1 ⟨w.heap.size + 1, 5, none⟩ = some (.slice AK' ks'.length cK') := by have q := blk_cell (blk_below hbr.out HB1.out) 5; simpa using q
    have z6 : World.cell? w1 ⟨w.heap.size, 6, none⟩ = some (.slice AA qs.length cA) := (blk_cell (blk_below hbo.out HB1.out) 6).trans rfl
    have y6 : World.cell? w1 ⟨w.heap.size + 1, 6, none⟩ = some (.slice AA' qs'.length cA') := by have q := blk_cell (blk_below hbr.out HB1.out) 6; simpa using q
    go_wp2_with fail
    go_ret
    exact ⟨by rw [HF.out]; rfl, B2.out.trans (HB1.out.mono (by rw [HSW.out]; omega))⟩
  have Cnames := Lib.hid hc
  clear hc
  by_cases hc : ks.length = ks'.length
  rotate_left
  · skip
    have hf : Cr.cmp k k' n n' m m l l' ns ns' ks ks' qs qs' = false := by rw [Cr.cmp, show all2 Cr.same ks ks' = false from all2_len hc]; simp only [Bool.and_false, Bool.false_and]
    have HF := Lib.hid hf
    have tklen : ((ks.length : Int) != (ks'.length : Int)) = true := bne_iff_ne.2 (by omega)
    clear hf hc
    go_enter Try.func24, Try.ntmps24
    go_wp2_with fail
    generalize hW : ((w.alloc (.cells #[.int .i64 k, .string n, .bool m, .slice AL l.length cL, .slice AN ns.length cN, .slice AK ks.length cK, .slice AA qs.length cA] 36)).alloc (.cells #[.int .i64 k', .string n', .bool m, .slice AL' l'.length cL', .slice AN' ns'.length cN', .slice AK' ks'.length cK', .slice AA' qs'.length cA'] 36)) = W at *
    clear hW
    refine (namesS ns ns' hnn W _ _ (DN.out.below (Below.refl W.heap.size W)) (DN'.out.below (Below.refl W.heap.size W))).mono ?_
    rintro e w1 ⟨rfl, hb⟩
    rw [Cnames.out]
    have HB1 := Lib.hid hb
    clear hb
    have z0 : World.cell? w1 ⟨w.heap.size, 0, none⟩ = some (.int .i64 k) := (blk_cell (blk_below hbo.out HB1.out) 0).trans rfl
    have y0 : World.cell? w1 ⟨w.heap.size + 1, 0, none⟩ = some (.int .i64 k') := by have q := blk_cell (blk_below hbr.out HB1.out) 0; simpa using q
    have z1 : World.cell? w1 ⟨w.heap.size, 1, none⟩ = some (.string n) := (blk_cell (blk_below hbo.out HB1.out) 1).trans rfl
    have y1 : World.cell? w1 ⟨w.heap.size + 1, 1, none⟩ = some (.string n') := by have q := blk_cell (blk_below hbr.out HB1.out) 1; simpa using q
    have z2 : World.cell? w1 ⟨w.heap.size, 2, none⟩ = some (.bool m) := (blk_cell (blk_below hbo.out HB1.out) 2).trans rfl
    have y2 : World.cell? w1 ⟨w.heap.size + 1, 2, none⟩ = some (.bool m) := by have q := blk_cell (blk_below hbr.out HB1.out) 2; simpa using q
    have z3 : World.cell? w1 ⟨w.heap.size, 3, none⟩ = some (.slice AL l.length cL) := (blk_cell (blk_below hbo.out HB1.out) 3).trans rfl
    have y3 : World.cell? w1 ⟨w.heap.size + 1, 3, none⟩ = some (.slice AL' l'.length cL') := by have q := blk_cell (blk_below hbr.out HB1.out) 3; simpa using q
    have z4 : World.cell? w1 ⟨w.heap.size, 4, none⟩ = some (.slice AN ns.length cN) := (blk_cell (blk_below hbo.out HB1.out) 4).trans rfl
    have y4 : World.cell? w1 ⟨w.heap.size + 1, 4, none⟩ = some (.slice AN' ns'.length cN') := by have q := blk_cell (blk_below hbr.out HB1.out) 4; simpa using q
    have z5 : World.cell? w1 ⟨w.heap.size, 5, none⟩ = some (.slice AK ks.length cK) := (blk_cell (blk_below hbo.out HB1.out) 5).trans rfl
    have y5 : World.cell? w1 ⟨w.heap.size + 1, 5, none⟩ = some (.slice AK' ks'.length cK') := by have q := blk_cell (blk_below hbr.out HB1.out) 5; simpa using q
    have z6 : World.cell? w1 ⟨w.heap.size, 6, none⟩ = some (.slice AA qs.length cA) := (blk_cell (blk_below hbo.out HB1.out) 6).trans rfl
    have y6 : World.cell? w1 ⟨w.heap.size + 1, 6, none⟩ = some (.slice AA' qs'.length cA') := by have q := blk_cell (blk_below hbr.out HB1.out) 6; simpa using q
    go_wp2_with fail
    go_ret
    exact ⟨by rw [HF.out]; rfl, B2.out.trans (HB1.out.mono (by rw [HSW.out]; omega))⟩
  have tklen : ((ks.length : Int) != (ks'.length : Int)) = false := bne_eq_false_iff_eq.2 (by omega)
  have Lklen := Lib.hid hc
  clear hc
  by_cases hc : qs.length = qs'.length
  rotate_left
  · skip
    have hf : Cr.cmp k k' n n' m m l l' ns ns' ks ks' qs qs' = false := by rw [Cr.cmp, show all2 Ca.same qs qs' = false from all2_len hc]; simp only [Bool.and_false, Bool.false_and]
    have HF := Lib.hid hf
    have talen : ((qs.length : Int) != (qs'.length : Int)) = true := bne_iff_ne.2 (by omega)
    clear hf hc
    go_enter Try.func24, Try.ntmps24
    go_wp2_with fail
    generalize hW : ((w.alloc (.cells #[.int .i64 k, .string n, .bool m, .slice AL l.length cL, .slice AN ns.length cN, .slice AK ks.length cK, .slice AA qs.length cA] 36)).alloc (.cells #[.int .i64 k', .string n', .bool m, .slice AL' l'.length cL', .slice AN' ns'.length cN', .slice AK' ks'.length cK', .slice AA' qs'.length cA'] 36)) = W at *
    clear hW
    refine (namesS ns ns' hnn W _ _ (DN.out.below (Below.refl W.heap.size W)) (DN'.out.below (Below.refl W.heap.size W))).mono ?_
    rintro e w1 ⟨rfl, hb⟩
    rw [Cnames.out]
    have HB1 := Lib.hid hb
    clear hb
    have z0 : World.cell? w1 ⟨w.heap.size, 0, none⟩ = some (.int .i64 k) := (blk_cell (blk_below hbo.out HB1.out) 0).trans rfl
    have y0 : World.cell? w1 ⟨w.heap.size + 1, 0, none⟩ = some (.int .i64 k') := by have q := blk_cell (blk_below hbr.out HB1.out) 0; simpa using q
    have z1 : World.cell? w1 ⟨w.heap.size, 1, none⟩ = some (.string n) := (blk_cell (blk_below hbo.out HB1.out) 1).trans rfl
    have y1 : World.cell? w1 ⟨w.heap.size + 1, 1, none⟩ = some (.string n') := by have q := blk_cell (blk_below hbr.out HB1.out) 1; simpa using q
    have z2 : World.cell? w1 ⟨w.heap.size, 2, none⟩ = some (.bool m) := (blk_cell (blk_below hbo.out HB1.out) 2).trans rfl
    have y2 : World.cell? w1 ⟨w.heap.size + 1, 2, none⟩ = some (.bool m) := by have q := blk_cell (blk_below hbr.out HB1.out) 2; simpa using q
    have z3 : World.cell? w1 ⟨w.heap.size, 3, none⟩ = some (.slice AL l.length cL) := (blk_cell (blk_below hbo.out HB1.out) 3).trans rfl
    have y3 : World.cell? w1 ⟨w.heap.size + 1, 3, none⟩ = some (.slice AL' l'.length cL') := by have q := blk_cell (blk_below hbr.out HB1.out) 3; simpa using q
    have z4 : World.cell? w1 ⟨w.heap.size, 4, none⟩ = some (.slice AN ns.length cN) := (blk_cell (blk_below hbo.out HB1.out) 4).trans rfl
    have y4 : World.cell? w1 ⟨w.heap.size + 1, 4, none⟩ = some (.slice AN' ns'.length cN') := by have q := blk_cell (blk_below hbr.out HB1.out) 4; simpa using q
    have z5 : World.cell? w1 ⟨w.heap.size, 5, none⟩ = some (.slice AK ks.length cK) := (blk_cell (blk_below hbo.out HB1.out) 5).trans rfl
    have y5 : World.cell? w1 ⟨w.heap.size + 1, 5, none⟩ = some (.slice AK' ks'.length cK') := by have q := blk_cell (blk_below hbr.out HB1.out) 5; simpa using q
    have z6 : World.cell? w1 ⟨w.heap.size, 6, none⟩ = some (.slice AA qs.length cA) := (blk_cell (blk_below hbo.out HB1.out) 6).trans rfl
    have y6 : World.cell? w1 ⟨w.heap.size + 1, 6, none⟩ = some (.slice AA' qs'.length cA') := by have q := blk_cell (blk_below hbr.out HB1.out) 6; simpa using q
    go_wp2_with fail
    go_ret
    exact ⟨by rw [HF.out]; rfl, B2.out.trans (HB1.out.mono (by rw [HSW.out]; omega))⟩
  have talen : ((qs.length : Int) != (qs'.length : Int)) = false := bne_eq_false_iff_eq.2 (by omega)
  have Lalen := Lib.hid hc
  clear hc
  by_cases hc : l.length = l'.length
  rotate_left
  · skip
    have hf : Cr.cmp k k' n n' m m l l' ns ns' ks ks' qs qs' = false := by rw [Cr.cmp, show sameInts l l' = false from all2_len hc]; simp only [Bool.and_false, Bool.false_and]
    have HF := Lib.hid hf
    have tllen : ((l.length : Int) != (l'.length : Int)) = true := bne_iff_ne.2 (by omega)
    clear hf hc
    go_enter Try.func24, Try.ntmps24
    go_wp2_with fail
    generalize hW : ((w.alloc (.cells #[.int .i64 k, .string n, .bool m, .slice AL l.length cL, .slice AN ns.length cN, .slice AK ks.length cK, .slice AA qs.length cA] 36)).alloc (.cells #[.int .i64 k', .string n', .bool m, .slice AL' l'.length cL', .slice AN' ns'.length cN', .slice AK' ks'.length cK', .slice AA' qs'.length cA'] 36)) = W at *
    clear hW
    refine (namesS ns ns' hnn W _ _ (DN.out.below (Below.refl W.heap.size W)) (DN'.out.below (Below.refl W.heap.size W))).mono ?_
    rintro e w1 ⟨rfl, hb⟩
    rw [Cnames.out]
    have HB1 := Lib.hid hb
    clear hb
    have z0 : World.cell? w1 ⟨w.heap.size, 0, none⟩ = some (.int .i64 k) := (blk_cell (blk_below hbo.out HB1.out) 0).trans rfl
    have y0 : World.cell? w1 ⟨w.heap.size + 1, 0, none⟩ = some (.int .i64 k') := by have q := blk_cell (blk_below hbr.out HB1.out) 0; simpa using q
    have z1 : World.cell? w1 ⟨w.heap.size, 1, none⟩ = some (.string n) := (blk_cell (blk_below hbo.out HB1.out) 1).trans rfl
    have y1 : World.cell? w1 ⟨w.heap.size + 1, 1, none⟩ = some (.string n') := by have q := blk_cell (blk_below hbr.out HB1.out) 1; simpa using q
    have z2 : World.cell? w1 ⟨w.heap.size, 2, none⟩ = some (.bool m) := (blk_cell (blk_below hbo.out HB1.out) 2).trans rfl
    have y2 : World.cell? w1 ⟨w.heap.size + 1, 2, none⟩ = some (.bool m) := by have q := blk_cell (blk_below hbr.out HB1.out) 2; simpa using q
    have z3 : World.cell? w1 ⟨w.heap.size, 3, none⟩ = some (.slice AL l.length cL) := (blk_cell (blk_below hbo.out HB1.out) 3).trans rfl
    have y3 : World.cell? w1 ⟨w.heap.size + 1, 3, none⟩ = some (.slice AL' l'.length cL') := by have q := blk_cell (blk_below hbr.out HB1.out) 3; simpa using q
    have z4 : World.cell? w1 ⟨w.heap.size, 4, none⟩ = some (.slice AN ns.length cN) := (blk_cell (blk_below hbo.out HB1.out) 4).trans rfl
    have y4 : World.cell? w1 ⟨w.heap.size + 1, 4, none⟩ = some (.slice AN' ns'.length cN') := by have q := blk_cell (blk_below hbr.out HB1.out) 4; simpa using q
    have z5 : World.cell? w1 ⟨w.heap.size, 5, none⟩ = some (.slice AK ks.length cK) := (blk_cell (blk_below hbo.out HB1.out) 5).trans rfl
    have y5 : World.cell? w1 ⟨w.heap.size + 1, 5, none⟩ = some (.slice AK' ks'.length cK') := by have q := blk_cell (blk_below hbr.out HB1.out) 5; simpa using q
    have z6 : World.cell? w1 ⟨w.heap.size, 6, none⟩ = some (.slice AA qs.length cA) := (blk_cell (blk_below hbo.out HB1.out) 6).trans rfl
    have y6 : World.cell? w1 ⟨w.heap.size + 1, 6, none⟩ = some (.slice AA' qs'.length cA') := by have q := blk_cell (blk_below hbr.out HB1.out) 6; simpa using q
    go_wp2_with fail
    go_ret
    exact ⟨by rw [HF.out]; rfl, B2.out.trans (HB1.out.mono (by rw [HSW.out]; omega))⟩
  have tllen : ((l.length : Int) != (l'.length : Int)) = false := bne_eq_false_iff_eq.2 (by omega)
  have Lllen := Lib.hid hc
  clear hc
  have Cminus := Lib.hid (show (m == m) = true from beq_iff_eq.2 rfl)
  have CMP : Hid (Cr.cmp k k' n n' m m l l' ns ns' ks ks' qs qs' = (sameInts l l' && (all2 Cr.same ks ks' && all2 Ca.same qs qs'))) := by
    show _ = _
    rw [Cr.cmp, Ckind.out, Cname.out, Cminus.out, Cnames.out]; simp only [Bool.true_and]
  go_enter Try.func24, Try.ntmps24
  go_wp2_with fail
  generalize hW : ((w.alloc (.cells #[.int .i64 k, .string n, .bool m, .slice AL l.length cL, .slice AN ns.length cN, .slice AK ks.length cK, .slice AA qs.length cA] 36)).alloc (.cells #[.int .i64 k', .string n', .bool m, .slice AL' l'.length cL', .slice AN' ns'.length cN', .slice AK' ks'.length cK', .slice AA' qs'.length cA'] 36)) = W at *
  clear hW
  refine (namesS ns ns' hnn W _ _ (DN.out.below (Below.refl W.heap.size W)) (DN'.out.below (Below.refl W.heap.size W))).mono ?_
  rintro e w1 ⟨rfl, hb⟩
  rw [Cnames.out]
  have HB1 := Lib.hid hb
  clear hb
  have z0 : World.cell? w1 ⟨w.heap.size, 0, none⟩ = some (.int .i64 k) := (blk_cell (blk_below hbo.out HB1.out) 0).trans rfl
  have y0 : World.cell? w1 ⟨w.heap.size + 1, 0, none⟩ = some (.int .i64 k') := by have q := blk_cell (blk_below hbr.out HB1.out) 0; simpa using q
  have z1 : World.cell? w1 ⟨w.heap.size, 1, none⟩ = some (.string n) := (blk_cell (blk_below hbo.out HB1.out) 1).trans rfl
  have y1 : World.cell? w1 ⟨w.heap.size + 1, 1, none⟩ = some (.string n') := by have q := blk_cell (blk_below hbr.out HB1.out) 1; simpa using q
  have z2 : World.cell? w1 ⟨w.heap.size, 2, none⟩ = some (.bool m) := (blk_cell (blk_below hbo.out HB1.out) 2).trans rfl
  have y2 : World.cell? w1 ⟨w.heap.size + 1, 2, none⟩ = some (.bool m) := by have q := blk_cell (blk_below hbr.out HB1.out) 2; simpa using q
  have z3 : World.cell? w1 ⟨w.heap.size, 3, none⟩ = some (.slice AL l.length cL) := (blk_cell (blk_below hbo.out HB1.out) 3).trans rfl
  have y3 : World.cell? w1 ⟨w.heap.size + 1, 3, none⟩ = some (.slice AL' l'.length cL') := by have q := blk_cell (blk_below hbr.out HB1.out) 3; simpa using q
  have z4 : World.cell? w1 ⟨w.heap.size, 4, none⟩ = some (.slice AN ns.length cN) := (blk_cell (blk_below hbo.out HB1.out) 4).trans rfl
  have y4 : World.cell? w1 ⟨w.heap.size + 1, 4, none⟩ = some (.slice AN' ns'.length cN') := by have q := blk_cell (blk_below hbr.out HB1.out) 4; simpa using q
  have z5 : World.cell? w1 ⟨w.heap.size, 5, none⟩ = some (.slice AK ks.length cK) := (blk_cell (blk_below hbo.out HB1.out) 5).trans rfl
  have y5 : World.cell? w1 ⟨w.heap.size + 1, 5, none⟩ = some (.slice AK' ks'.length cK') := by have q := blk_cell (blk_below hbr.out HB1.out) 5; simpa using q
  have z6 : World.cell? w1 ⟨w.heap.size, 6, none⟩ = some (.slice AA qs.length cA) := (blk_cell (blk_below hbo.out HB1.out) 6).trans rfl
  have y6 : World.cell? w1 ⟨w.heap.size + 1, 6, none⟩ = some (.slice AA' qs'.length cA') := by have q := blk_cell (blk_below hbr.out HB1.out) 6; simpa using q
  go_wp2_with fail
  have HX := Lib.hid HB1.out
  have HXB := Lib.hid (B2.out.trans (HX.out.mono (by rw [HSW.out]; omega)))
  clear z0 y0 z1 y1 z2 y2 z3 y3 z4 y4 z5 y5 z6 y6
  go_loopw [5] (fun i wr => ∃ j : Nat, j ≤ l.length ∧ i = .int .i64 j ∧ Below W.heap.size W wr ∧ Hid (all2 (fun (x y : Int) => x == y) l l' = all2 (fun (x y : Int) => x == y) (l.drop j) (l'.drop j))) (fun i _ => l.length - (intOf i).toNat)
  case atStart => exact ⟨0, Nat.zero_le _, rfl, HX.out, rfl⟩
  case round =>
    obtain ⟨j, hj, rfl, hb, hsm⟩ := hrel
    clear HX HXB
    have z0 : World.cell? wr ⟨w.heap.size, 0, none⟩ = some (.int .i64 k) := (blk_cell (blk_below hbo.out hb) 0).trans rfl
    have y0 : World.cell? wr ⟨w.heap.size + 1, 0, none⟩ = some (.int .i64 k') := by have q := blk_cell (blk_below hbr.out hb) 0; simpa using q
    have z1 : World.cell? wr ⟨w.heap.size, 1, none⟩ = some (.string n) := (blk_cell (blk_below hbo.out hb) 1).trans rfl
    have y1 : World.cell? wr ⟨w.heap.size + 1, 1, none⟩ = some (.string n') := by have q := blk_cell (blk_below hbr.out hb) 1; simpa using q
    have z2 : World.cell? wr ⟨w.heap.size, 2, none⟩ = some (.bool m) := (blk_cell (blk_below hbo.out hb) 2).trans rfl
    have y2 : World.cell? wr ⟨w.heap.size + 1, 2, none⟩ = some (.bool m) := by have q := blk_cell (blk_below hbr.out hb) 2; simpa using q
    have z3 : World.cell? wr ⟨w.heap.size, 3, none⟩ = some (.slice AL l.length cL) := (blk_cell (blk_below hbo.out hb) 3).trans rfl
    have y3 : World.cell? wr ⟨w.heap.size + 1, 3, none⟩ = some (.slice AL' l'.length cL') := by have q := blk_cell (blk_below hbr.out hb) 3; simpa using q
    have z4 : World.cell? wr ⟨w.heap.size, 4, none⟩ = some (.slice AN ns.length cN) := (blk_cell (blk_below hbo.out hb) 4).trans rfl
    have y4 : World.cell? wr ⟨w.heap.size + 1, 4, none⟩ = some (.slice AN' ns'.length cN') := by have q := blk_cell (blk_below hbr.out hb) 4; simpa using q
    have z5 : World.cell? wr ⟨w.heap.size, 5, none⟩ = some (.slice AK ks.length cK) := (blk_cell (blk_below hbo.out hb) 5).trans rfl
    have y5 : World.cell? wr ⟨w.heap.size + 1, 5, none⟩ = some (.slice AK' ks'.length cK') := by have q := blk_cell (blk_below hbr.out hb) 5; simpa using q
    have z6 : World.cell? wr ⟨w.heap.size, 6, none⟩ = some (.slice AA qs.length cA) := (blk_cell (blk_below hbo.out hb) 6).trans rfl
    have y6 : World.cell? wr ⟨w.heap.size + 1, 6, none⟩ = some (.slice AA' qs'.length cA') := by have q := blk_cell (blk_below hbr.out hb) 6; simpa using q
    by_cases hlt : j < l.length
    · skip
      have hlt' : j < l'.length := by have := Lllen.out; omega
      have i0 : (0 : Int) ≤ (j : Int) := Int.natCast_nonneg _
      have i1 : (j : Int) < (l.length : Int) := by omega
      have i2 : (j : Int) < (l'.length : Int) := by omega
      obtain ⟨b, off, rfl, c0⟩ := u32s_get (RdRow.below RL.out (by omega) hb) hlt
      obtain ⟨b', off', rfl, c1⟩ := u32s_get (RdRow.below RL'.out (by omega) hb) hlt'
      have HB := Lib.hid hb
      have SM := Lib.hid (hsm.out.trans (all2_drop hlt hlt'))
      clear hb hsm
      by_cases hq : l[j] = l'[j]
      · skip
        have u2 : (l[j] != l'[j]) = false := bne_eq_false_iff_eq.2 hq
        have SQ := Lib.hid (show (l[j] == l'[j]) = true from beq_iff_eq.2 hq)
        clear hq
        go_wp2_with fail
        go_quiet (fail)
        go_wp2
        go_roundw
        case rel => exact ⟨j + 1, by omega, by go_num, drewN_below HB.out _, Lib.hid (by rw [SM.out, SQ.out, Bool.true_and])⟩
        case measure => simp [intOf]; omega
      · skip
        have u2 : (l[j] != l'[j]) = true := bne_iff_ne.2 hq
        have SQ := Lib.hid (show (l[j] == l'[j]) = false from beq_eq_false_iff_ne.2 hq)
        clear hq
        go_wp2_with fail
        go_quiet (fail)
        go_wp2
        go_ret
        exact ⟨by rw [CMP.out, show sameInts l l' = _ from SM.out, SQ.out]; simp only [Bool.false_and]; rfl, B2.out.trans ((drewN_below HB.out _).mono (by rw [HSW.out]; omega))⟩
    obtain rfl : j = l.length := by omega
    have HX := Lib.hid hb
    have HXB := Lib.hid (B2.out.trans (HX.out.mono (by rw [HSW.out]; omega)))
    have KQ := hsm.out
    rw [List.drop_length, Lllen.out, List.drop_length] at KQ
    have Kl : Hid (all2 (fun (x y : Int) => x == y) l l' = true) := KQ
    clear hb hsm KQ hlt hj
    have hnn0 := hnn
    go_wp2_with fail
    clear z0 y0 z1 y1 z2 y2 z3 y3 z4 y4 z5 y5 z6 y6
    go_loopw [6] (fun i wr => ∃ j : Nat, j ≤ ks.length ∧ i = .int .i64 j ∧ Below W.heap.size W wr ∧ Hid (all2 Cr.same ks ks' = all2 Cr.same (ks.drop j) (ks'.drop j))) (fun i _ => ks.length - (intOf i).toNat)
    case atStart => exact ⟨0, Nat.zero_le _, rfl, HX.out, rfl⟩
    case round =>
      obtain ⟨j, hj, rfl, hb, hsm⟩ := hrel
      clear HX HXB
      have z0 : World.cell? wr ⟨w.heap.size, 0, none⟩ = some (.int .i64 k) := (blk_cell (blk_below hbo.out hb) 0).trans rfl
      have y0 : World.cell? wr ⟨w.heap.size + 1, 0, none⟩ = some (.int .i64 k') := by have q := blk_cell (blk_below hbr.out hb) 0; simpa using q
      have z1 : World.cell? wr ⟨w.heap.size, 1, none⟩ = some (.string n) := (blk_cell (blk_below hbo.out hb) 1).trans rfl
      have y1 : World.cell? wr ⟨w.heap.size + 1, 1, none⟩ = some (.string n') := by have q := blk_cell (blk_below hbr.out hb) 1; simpa using q
      have z2 : World.cell? wr ⟨w.heap.size, 2, none⟩ = some (.bool m) := (blk_cell (blk_below hbo.out hb) 2).trans rfl
      have y2 : World.cell? wr ⟨w.heap.size + 1, 2, none⟩ = some (.bool m) := by have q := blk_cell (blk_below hbr.out hb) 2; simpa using q
      have z3 : World.cell? wr ⟨w.heap.size, 3, none⟩ = some (.slice AL l.length cL) := (blk_cell (blk_below hbo.out hb) 3).trans rfl
      have y3 : World.cell? wr ⟨w.heap.size + 1, 3, none⟩ = some (.slice AL' l'.length cL') := by have q := blk_cell (blk_below hbr.out hb) 3; simpa using q
      have z4 : World.cell? wr ⟨w.heap.size, 4, none⟩ = some (.slice AN ns.length cN) := (blk_cell (blk_below hbo.out hb) 4).trans rfl
      have y4 : World.cell? wr ⟨w.heap.size + 1, 4, none⟩ = some (.slice AN' ns'.length cN') := by have q := blk_cell (blk_below hbr.out hb) 4; simpa using q
      have z5 : World.cell? wr ⟨w.heap.size, 5, none⟩ = some (.slice AK ks.length cK) := (blk_cell (blk_below hbo.out hb) 5).trans rfl
      have y5 : World.cell? wr ⟨w.heap.size + 1, 5, none⟩ = some (.slice AK' ks'.length cK') := by have q := blk_cell (blk_below hbr.out hb) 5; simpa using q
      have z6 : World.cell? wr ⟨w.heap.size, 6, none⟩ = some (.slice AA qs.length cA) := (blk_cell (blk_below hbo.out hb) 6).trans rfl
      have y6 : World.cell? wr ⟨w.heap.size + 1, 6, none⟩ = some (.slice AA' qs'.length cA') := by have q := blk_cell (blk_below hbr.out hb) 6; simpa using q
      by_cases hlt : j < ks.length
      · skip
        have hlt' : j < ks'.length := by have := Lklen.out; omega
        have i0 : (0 : Int) ≤ (j : Int) := Int.natCast_nonneg _
        have i1 : (j : Int) < (ks.length : Int) := by omega
        have i2 : (j : Int) < (ks'.length : Int) := by omega
        obtain ⟨b, off, es, rfl, hcl, hrd, hc⟩ := (RdRow.below RK.out (by omega) hb).get (i := j) (x := ks[j].enc) (by simp [Cr.encs_map, List.getElem?_eq_getElem hlt])
        obtain ⟨u0, u1, u2, u3, u4, u5, u6, rfl⟩ := cells7 hcl
        have e0 : wr.cell? ⟨b, off + j * 7, none⟩ = some u0 := hc 0 _ rfl
        have e1 : wr.cell? ⟨b, off + j * 7 + 1, none⟩ = some u1 := hc 1 _ rfl
        have e2 : wr.cell? ⟨b, off + j * 7 + 2, none⟩ = some u2 := hc 2 _ rfl
        have e3 : wr.cell? ⟨b, off + j * 7 + 3, none⟩ = some u3 := hc 3 _ rfl
        have e4 : wr.cell? ⟨b, off + j * 7 + 4, none⟩ = some u4 := hc 4 _ rfl
        have e5 : wr.cell? ⟨b, off + j * 7 + 5, none⟩ = some u5 := hc 5 _ rfl
        have e6 : wr.cell? ⟨b, off + j * 7 + 6, none⟩ = some u6 := hc 6 _ rfl
        obtain ⟨b', off', es', rfl, hcl', hrd', hc'⟩ := (RdRow.below RK'.out (by omega) hb).get (i := j) (x := ks'[j].enc) (by simp [Cr.encs_map, List.getElem?_eq_getElem hlt'])
        obtain ⟨v0, v1, v2, v3, v4, v5, v6, rfl⟩ := cells7 hcl'
        have f0 : wr.cell? ⟨b', off' + j * 7, none⟩ = some v0 := hc' 0 _ rfl
        have f1 : wr.cell? ⟨b', off' + j * 7 + 1, none⟩ = some v1 := hc' 1 _ rfl
        have f2 : wr.cell? ⟨b', off' + j * 7 + 2, none⟩ = some v2 := hc' 2 _ rfl
        have f3 : wr.cell? ⟨b', off' + j * 7 + 3, none⟩ = some v3 := hc' 3 _ rfl
        have f4 : wr.cell? ⟨b', off' + j * 7 + 4, none⟩ = some v4 := hc' 4 _ rfl
        have f5 : wr.cell? ⟨b', off' + j * 7 + 5, none⟩ = some v5 := hc' 5 _ rfl
        have f6 : wr.cell? ⟨b', off' + j * 7 + 6, none⟩ = some v6 := hc' 6 _ rfl
        have CAL := Lib.hid (IH.out _ (List.getElem_mem hlt) ks'[j] wr.drew _ _ (OKS.out _ (List.getElem_mem hlt')) (hrd.below (Below.refl _ _).drew) (hrd'.below (Below.refl _ _).drew))
        have HB := Lib.hid hb
        have SM := Lib.hid (hsm.out.trans (all2_drop hlt hlt'))
        clear hrd hcl hc hb hrd' hcl' hc' hsm
        cases hq : ks[j].same ks'[j] with
        | true =>
          have SQ := Lib.hid hq
          rw [hq] at CAL
          clear hq
          go_wp2_with fail
          go_still_tail 10, (by kernel_rfl)
          go_wp2_with fail
          refine CAL.out.mono ?_
          rintro e wc ⟨rfl, hb1⟩
          have HB1 := Lib.hid (HB.out.drew.trans (hb1.mono HB.out.size))
          clear hb1 CAL
          go_wp2
          go_roundw
          case rel => exact ⟨j + 1, by omega, by go_num, HB1.out, Lib.hid (by rw [SM.out, SQ.out, Bool.true_and])⟩
          case measure => simp [intOf]; omega
        | false =>
          have SQ := Lib.hid hq
          rw [hq] at CAL
          clear hq
          go_wp2_with fail
          go_still_tail 10, (by kernel_rfl)
          go_wp2_with fail
          refine CAL.out.mono ?_
          rintro e wc ⟨rfl, hb1⟩
          have HB1 := Lib.hid (HB.out.drew.trans (hb1.mono HB.out.size))
          clear hb1 CAL
          go_wp2
          go_ret
          exact ⟨by rw [CMP.out, show sameInts l l' = true from Kl.out, SM.out, SQ.out]; simp only [Bool.false_and, Bool.and_false]; rfl, B2.out.trans (HB1.out.mono (by rw [HSW.out]; omega))⟩
      obtain rfl : j = ks.length := by omega
      have HX := Lib.hid hb
      have HXB := Lib.hid (B2.out.trans (HX.out.mono (by rw [HSW.out]; omega)))
      have KQ := hsm.out
      rw [List.drop_length, Lklen.out, List.drop_length] at KQ
      have Kk : Hid (all2 Cr.same ks ks' = true) := KQ
      clear hb hsm KQ hlt hj
      have hnn0 := hnn
      go_wp2_with fail
      clear z0 y0 z1 y1 z2 y2 z3 y3 z4 y4 z5 y5 z6 y6
      go_loopw [7] (fun i wr => ∃ j : Nat, j ≤ qs.length ∧ i = .int .i64 j ∧ Below W.heap.size W wr ∧ Hid (all2 Ca.same qs qs' = all2 Ca.same (qs.drop j) (qs'.drop j))) (fun i _ => qs.length - (intOf i).toNat)
      case atStart => exact ⟨0, Nat.zero_le _, rfl, HX.out, rfl⟩
      case round =>
        obtain ⟨j, hj, rfl, hb, hsm⟩ := hrel
        clear HX HXB
        have z0 : World.cell? wr ⟨w.heap.size, 0, none⟩ = some (.int .i64 k) := (blk_cell (blk_below hbo.out hb) 0).trans rfl
        have y0 : World.cell? wr ⟨w.heap.size + 1, 0, none⟩ = some (.int .i64 k') := by have q := blk_cell (blk_below hbr.out hb) 0; simpa using q
        have z1 : World.cell? wr ⟨w.heap.size, 1, none⟩ = some (.string n) := (blk_cell (blk_below hbo.out hb) 1).trans rfl
        have y1 : World.cell? wr ⟨w.heap.size + 1, 1, none⟩ = some (.string n') := by have q := blk_cell (blk_below hbr.out hb) 1; simpa using q
        have z2 : World.cell? wr ⟨w.heap.size, 2, none⟩ = some (.bool m) := (blk_cell (blk_below hbo.out hb) 2).trans rfl
        have y2 : World.cell? wr ⟨w.heap.size + 1, 2, none⟩ = some (.bool m) := by have q := blk_cell (blk_below hbr.out hb) 2; simpa using q
        have z3 : World.cell? wr ⟨w.heap.size, 3, none⟩ = some (.slice AL l.length cL) := (blk_cell (blk_below hbo.out hb) 3).trans rfl
        have y3 : World.cell? wr ⟨w.heap.size + 1, 3, none⟩ = some (.slice AL' l'.length cL') := by have q := blk_cell (blk_below hbr.out hb) 3; simpa using q
        have z4 : World.cell? wr ⟨w.heap.size, 4, none⟩ = some (.slice AN ns.length cN) := (blk_cell (blk_below hbo.out hb) 4).trans rfl
        have y4 : World.cell? wr ⟨w.heap.size + 1, 4, none⟩ = some (.slice AN' ns'.length cN') := by have q := blk_cell (blk_below hbr.out hb) 4; simpa using q
        have z5 : World.cell? wr ⟨w.heap.size, 5, none⟩ = some (.slice AK ks.length cK) := (blk_cell (blk_below hbo.out hb) 5).trans rfl
        have y5 : World.cell? wr ⟨w.heap.size + 1, 5, none⟩ = some (.slice AK' ks'.length cK') := by have q := blk_cell (blk_below hbr.out hb) 5; simpa using q
        have z6 : World.cell? wr ⟨w.heap.size, 6, none⟩ = some (.slice AA qs.length cA) := (blk_cell (blk_below hbo.out hb) 6).trans rfl
        have y6 : World.cell? wr ⟨w.heap.size + 1, 6, none⟩ = some (.slice AA' qs'.length cA') := by have q := blk_cell (blk_below hbr.out hb) 6; simpa using q
        by_cases hlt : j < qs.length
        · skip
          have hlt' : j < qs'.length := by have := Lalen.out; omega
          have i0 : (0 : Int) ≤ (j : Int) := Int.natCast_nonneg _
          have i1 : (j : Int) < (qs.length : Int) := by omega
          have i2 : (j : Int) < (qs'.length : Int) := by omega
          obtain ⟨b, off, es, rfl, hcl, hrd, hc⟩ := (RdRow.below RA.out (by omega) hb).get (i := j) (x := qs[j].enc) (by simp [Ca.encs_map, List.getElem?_eq_getElem hlt])
          obtain ⟨nv, bs, rfl, hbl, hnv, hbd⟩ := Ca.open_ hrd
          obtain ⟨u2, u3, u4, u5, u6, u7, u8, rfl⟩ := cells7 hbl
          have e0 := fun d os => cell_regrown (show wr.cell? ⟨b, off + j * 9, none⟩ = some (.string qs[j].con) from hc 0 _ rfl) d os
          have e1 := fun d os => cell_regrown (show wr.cell? ⟨b, off + j * 9 + 1, none⟩ = some nv from hc 1 _ rfl) d os
          have e2 := fun d os => cell_regrown (show wr.cell? ⟨b, off + j * 9 + 2, none⟩ = some u2 from hc 2 _ rfl) d os
          have e3 := fun d os => cell_regrown (show wr.cell? ⟨b, off + j * 9 + 3, none⟩ = some u3 from hc 3 _ rfl) d os
          have e4 := fun d os => cell_regrown (show wr.cell? ⟨b, off + j * 9 + 4, none⟩ = some u4 from hc 4 _ rfl) d os
          have e5 := fun d os => cell_regrown (show wr.cell? ⟨b, off + j * 9 + 5, none⟩ = some u5 from hc 5 _ rfl) d os
          have e6 := fun d os => cell_regrown (show wr.cell? ⟨b, off + j * 9 + 6, none⟩ = some u6 from hc 6 _ rfl) d os
          have e7 := fun d os => cell_regrown (show wr.cell? ⟨b, off + j * 9 + 7, none⟩ = some u7 from hc 7 _ rfl) d os
          have e8 := fun d os => cell_regrown (show wr.cell? ⟨b, off + j * 9 + 8, none⟩ = some u8 from hc 8 _ rfl) d os
          obtain ⟨b', off', es', rfl, hcl', hrd', hc'⟩ := (RdRow.below RA'.out (by omega) hb).get (i := j) (x := qs'[j].enc) (by simp [Ca.encs_map, List.getElem?_eq_getElem hlt'])
          obtain ⟨nv', bs', rfl, hbl', hnv', hbd'⟩ := Ca.open_ hrd'
          obtain ⟨v2, v3, v4, v5, v6, v7, v8, rfl⟩ := cells7 hbl'
          have f0 := fun d os => cell_regrown (show wr.cell? ⟨b', off' + j * 9, none⟩ = some (.string qs'[j].con) from hc' 0 _ rfl) d os
          have f1 := fun d os => cell_regrown (show wr.cell? ⟨b', off' + j * 9 + 1, none⟩ = some nv' from hc' 1 _ rfl) d os
          have f2 := fun d os => cell_regrown (show wr.cell? ⟨b', off' + j * 9 + 2, none⟩ = some v2 from hc' 2 _ rfl) d os
          have f3 := fun d os => cell_regrown (show wr.cell? ⟨b', off' + j * 9 + 3, none⟩ = some v3 from hc' 3 _ rfl) d os
          have f4 := fun d os => cell_regrown (show wr.cell? ⟨b', off' + j * 9 + 4, none⟩ = some v4 from hc' 4 _ rfl) d os
          have f5 := fun d os => cell_regrown (show wr.cell? ⟨b', off' + j * 9 + 5, none⟩ = some v5 from hc' 5 _ rfl) d os
          have f6 := fun d os => cell_regrown (show wr.cell? ⟨b', off' + j * 9 + 6, none⟩ = some v6 from hc' 6 _ rfl) d os
          have f7 := fun d os => cell_regrown (show wr.cell? ⟨b', off' + j * 9 + 7, none⟩ = some v7 from hc' 7 _ rfl) d os
          have f8 := fun d os => cell_regrown (show wr.cell? ⟨b', off' + j * 9 + 8, none⟩ = some v8 from hc' 8 _ rfl) d os
          have ze := fun d os => cell_regrown z6 d os
          have ye := fun d os => cell_regrown y6 d os
          have QN : Hid (∀ r, sameStrs qs[j].names qs'[j].names = r → ∀ d os, Calls Try.prog 59 #[nv, nv'] (Go.Sort.grow (redrawn wr d) os) fun e w' => e = .returned (.bool r) ∧ Below (Go.Sort.grow (redrawn wr d) os).heap.size (Go.Sort.grow (redrawn wr d) os) w') := fun r hr d os => hr ▸ namesS _ _ (HAB.out _ (List.getElem_mem hlt)) _ _ _ (hnv.below (below_regrown wr d os)) (hnv'.below (below_regrown wr d os))
          have QB : Hid (∀ r, qs[j].body.same qs'[j].body = r → ∀ d os, Calls Try.prog 24 #[.agg #[u2, u3, u4, u5, u6, u7, u8], .agg #[v2, v3, v4, v5, v6, v7, v8]] (Go.Sort.grow (redrawn wr d) os) fun e w' => e = .returned (.bool r) ∧ Below (Go.Sort.grow (redrawn wr d) os).heap.size (Go.Sort.grow (redrawn wr d) os) w') := fun r hr d os => hr ▸ IA.out _ (List.getElem_mem hlt) _ _ _ _ (Ca.body_ok (OKA.out _ (List.getElem_mem hlt'))) (hbd.below (below_regrown wr d os)) (hbd'.below (below_regrown wr d os))
          have HB := Lib.hid hb
          have SM := Lib.hid (hsm.out.trans (all2_drop hlt hlt'))
          have SP := Lib.hid (Ca.same_parts qs[j] qs'[j])
          clear hrd hcl hc hb hrd' hcl' hc' hsm hnv hnv' hbd hbd' hbl hbl'
          by_cases hq : qs[j].con.toList = qs'[j].con.toList
          rotate_left
          · skip
            have u9 : (qs[j].con.toList != qs'[j].con.toList) = true := bne_iff_ne.2 hq
            have u9' : (qs[j].con.toList == qs'[j].con.toList) = false := beq_eq_false_iff_ne.2 hq
            have SQ := Lib.hid (show qs[j].same qs'[j] = false by rw [SP.out, show sameTx qs[j].con qs'[j].con = false by simp [sameTx, hq], Bool.false_and])
            clear hq
            have HQN := Lib.hid (rfl : sameStrs qs[j].names qs'[j].names = _)
            have HQB := Lib.hid (rfl : qs[j].body.same qs'[j].body = _)
            go_wp2_with fail
            refine wp_region_quiet_below (by kernel_rfl) (by kernel_rfl) ?_
            repeat (first | go_big_quiet_skip | quiet_step (first | (go_at_call 59; exact Calls.regrown_of (QN.out _ HQN.out _ _)) | (go_at_call 24; exact Calls.regrown_of (QB.out _ HQB.out _ _))))
            refine wpQuiet_nil ?_
            intro _ hw'
            obtain ⟨⟨dq, osq⟩, hw''⟩ := hw'
            subst hw''
            have hbq := below_regrown wr dq osq
            generalize Go.Sort.grow (redrawn wr dq) osq = wq at *
            have HB1 := Lib.hid (HB.out.trans (hbq.mono HB.out.size))
            clear hbq
            go_wp2
            go_ret
            exact ⟨by rw [CMP.out, show sameInts l l' = true from Kl.out, Kk.out, SM.out, SQ.out]; simp only [Bool.false_and, Bool.and_false]; rfl, B2.out.trans (HB1.out.mono (by rw [HSW.out]; omega))⟩
          have u9 : (qs[j].con.toList != qs'[j].con.toList) = false := bne_eq_false_iff_eq.2 hq
          have u9' : (qs[j].con.toList == qs'[j].con.toList) = true := beq_iff_eq.2 hq
          have SC := Lib.hid (show sameTx qs[j].con qs'[j].con = true by simp [sameTx, hq])
          clear hq
          cases hqn : sameStrs qs[j].names qs'[j].names with
          | false =>
            have HQN := Lib.hid hqn
            have HQB := Lib.hid (rfl : qs[j].body.same qs'[j].body = _)
            have SQ := Lib.hid (show qs[j].same qs'[j] = false by rw [SP.out, hqn, Bool.false_and, Bool.and_false])
            clear hqn
            go_wp2_with fail
            refine wp_region_quiet_below (by kernel_rfl) (by kernel_rfl) ?_
            repeat (first | go_big_quiet_skip | quiet_step (first | (go_at_call 59; exact Calls.regrown_of (QN.out _ HQN.out _ _)) | (go_at_call 24; exact Calls.regrown_of (QB.out _ HQB.out _ _))))
            refine wpQuiet_nil ?_
            intro _ hw'
            obtain ⟨⟨dq, osq⟩, hw''⟩ := hw'
            subst hw''
            have hbq := below_regrown wr dq osq
            generalize Go.Sort.grow (redrawn wr dq) osq = wq at *
            have HB1 := Lib.hid (HB.out.trans (hbq.mono HB.out.size))
            clear hbq
            go_wp2
            go_ret
            exact ⟨by rw [CMP.out, show sameInts l l' = true from Kl.out, Kk.out, SM.out, SQ.out]; simp only [Bool.false_and, Bool.and_false]; rfl, B2.out.trans (HB1.out.mono (by rw [HSW.out]; omega))⟩
          | true =>
            have HQN := Lib.hid hqn
            cases hqb : qs[j].body.same qs'[j].body with
            | true =>
              have HQB := Lib.hid hqb
              have SQ := Lib.hid (show qs[j].same qs'[j] = true by rw [SP.out, hqn, hqb, SC.out]; rfl)
              clear hqn hqb
              go_wp2_with fail
              refine wp_region_quiet_below (by kernel_rfl) (by kernel_rfl) ?_
              repeat (first | go_big_quiet_skip | quiet_step (first | (go_at_call 59; exact Calls.regrown_of (QN.out _ HQN.out _ _)) | (go_at_call 24; exact Calls.regrown_of (QB.out _ HQB.out _ _))))
              refine wpQuiet_nil ?_
              intro _ hw'
              obtain ⟨⟨dq, osq⟩, hw''⟩ := hw'
              subst hw''
              have hbq := below_regrown wr dq osq
              generalize Go.Sort.grow (redrawn wr dq) osq = wq at *
              have HB1 := Lib.hid (HB.out.trans (hbq.mono HB.out.size))
              clear hbq
              go_wp2
              go_roundw
              case rel => exact ⟨j + 1, by omega, by go_num, HB1.out, Lib.hid (by rw [SM.out, SQ.out, Bool.true_and])⟩
              case measure => simp [intOf]; omega
            | false =>
              have HQB := Lib.hid hqb
              have SQ := Lib.hid (show qs[j].same qs'[j] = false by rw [SP.out, hqn, hqb, SC.out]; rfl)
              clear hqn hqb
              go_wp2_with fail
              refine wp_region_quiet_below (by kernel_rfl) (by kernel_rfl) ?_
              repeat (first | go_big_quiet_skip | quiet_step (first | (go_at_call 59; exact Calls.regrown_of (QN.out _ HQN.out _ _)) | (go_at_call 24; exact Calls.regrown_of (QB.out _ HQB.out _ _))))
              refine wpQuiet_nil ?_
              intro _ hw'
              obtain ⟨⟨dq, osq⟩, hw''⟩ := hw'
              subst hw''
              have hbq := below_regrown wr dq osq
              generalize Go.Sort.grow (redrawn wr dq) osq = wq at *
              have HB1 := Lib.hid (HB.out.trans (hbq.mono HB.out.size))
              clear hbq
              go_wp2
              go_ret
              exact ⟨by rw [CMP.out, show sameInts l l' = true from Kl.out, Kk.out, SM.out, SQ.out]; simp only [Bool.false_and, Bool.and_false]; rfl, B2.out.trans (HB1.out.mono (by rw [HSW.out]; omega))⟩
        obtain rfl : j = qs.length := by omega
        have HX := Lib.hid hb
        have HXB := Lib.hid (B2.out.trans (HX.out.mono (by rw [HSW.out]; omega)))
        have KQ := hsm.out
        rw [List.drop_length, Lalen.out, List.drop_length] at KQ
        have Ka : Hid (all2 Ca.same qs qs' = true) := KQ
        clear hb hsm KQ hlt hj
        have hnn0 := hnn
        go_wp2
        go_ret
        exact ⟨by rw [CMP.out, show sameInts l l' = true from Kl.out, Kk.out, Ka.out]; rfl, HXB.out⟩
theorem SameS_of (k : Int) (n : ByteArray) (m : Bool) (l : List Int) (ns : List ByteArray) (ks : List Cr) (qs : List Ca) (hln : l.length ≤ 140737488351232) (hnn : ns.length ≤ 140737488351232) (hkn : ks.length ≤ 140737488351232) (han : qs.length ≤ 140737488351232) (hab : ∀ a ∈ qs, a.names.length ≤ 140737488351232) (ih : ∀ x ∈ ks, SameS x) (ia : ∀ a ∈ qs, SameS a.body) : SameS (.mk k n m l ns ks qs) := by
  rintro ⟨k', n', m', l', ns', ks', qs'⟩ w cs cs' hok h h'
  by_cases hm : m = m'
  · subst hm
    exact SameS_eq k n m l ns ks qs hln hnn hkn han hab ih ia k' n' l' ns' ks' qs' w cs cs' hok h h'
  · obtain rfl : m' = !m := by cases m <;> cases m' <;> simp_all
    exact SameS_ne k n m l ns ks qs hln hnn hkn han hab ih ia k' n' l' ns' ks' qs' w cs cs' hok h h'

theorem SameS_all : ∀ (x : Cr), x.ok → SameS x :=
  Cr.induct fun k n m l ns ks qs ih ia h => by
    simp only [Cr.ok] at h
    obtain ⟨_, _, hl, hns, hk, ha, hks, has⟩ := h
    exact SameS_of k n m l ns ks qs hl.1 hns.1 hk ha (fun a hm => by have := Ca.oks_mem has a hm; cases a; simp only [Ca.ok] at this; exact this.2.1.1) (fun x hx => ih x hx (Cr.oks_mem hks x hx)) (fun a hm => ia a hm (Ca.body_ok (Ca.oks_mem has a hm)))

def SameI (x : Cr) : Prop := ∀ (y : Cr) (w : World) (cs cs' : List Value), y.ok → Rd w x.enc cs → Rd w y.enc cs' →
  Calls Try.prog 25 #[.agg cs.toArray, .agg cs'.toArray] w fun e w' => e = .returned (.bool (x.same y)) ∧ Below w.heap.size w w'

set_option maxRecDepth 100000 in
set_option maxHeartbeats 2000000 in
theorem SameI_of (k : Int) (n : ByteArray) (m : Bool) (l : List Int) (ns : List ByteArray) (ks : List Cr) (qs : List Ca) (hln : l.length ≤ 140737488351232) (hnn : ns.length ≤ 140737488351232) (hkn : ks.length ≤ 140737488351232) (han : qs.length ≤ 140737488351232) (hab : ∀ a ∈ qs, a.names.length ≤ 140737488351232) (ih : ∀ x ∈ ks, SameI x) (ia : ∀ a ∈ qs, SameI a.body) : SameI (.mk k n m l ns ks qs) := by
  rintro ⟨k', n', m', l', ns', ks', qs'⟩ w cs cs' hok h h'
  rw [Cr.same_cmp]
  obtain ⟨AL, cL, AN, cN, AK, cK, AA, cA, rfl, rL, rN, rK, rA, dL, dN, _, _⟩ := Cr.open_ h
  obtain ⟨AL', cL', AN', cN', AK', cK', AA', cA', rfl, rL', rN', rK', rA', dL', dN', _, _⟩ := Cr.open_ h'
  simp only [Cr.ok] at hok
  have OKS := Lib.hid (Cr.oks_mem hok.2.2.2.2.2.2.1)
  have OKA := Lib.hid (Ca.oks_mem hok.2.2.2.2.2.2.2)
  have bnd : l'.length ≤ 140737488351232 ∧ ns'.length ≤ 140737488351232 ∧ ks'.length ≤ 140737488351232 ∧ qs'.length ≤ 140737488351232 := ⟨hok.2.2.1.1, hok.2.2.2.1.1, hok.2.2.2.2.1, hok.2.2.2.2.2.1⟩
  obtain ⟨hln', hnn', hkn', han'⟩ := bnd
  have IH := Lib.hid ih
  have IA := Lib.hid ia
  have HAB := Lib.hid hab
  have B2 := Lib.hid (((Below.refl w.heap.size w).alloc (Nat.le_refl _) (.cells #[.int .i64 k, .string n, .bool m, .slice AL l.length cL, .slice AN ns.length cN, .slice AK ks.length cK, .slice AA qs.length cA] 36)).alloc (by simp) (.cells #[.int .i64 k', .string n', .bool m', .slice AL' l'.length cL', .slice AN' ns'.length cN', .slice AK' ks'.length cK', .slice AA' qs'.length cA'] 36))
  have hbo := Lib.hid (blk_old (blk_new w (.cells #[.int .i64 k, .string n, .bool m, .slice AL l.length cL, .slice AN ns.length cN, .slice AK ks.length cK, .slice AA qs.length cA] 36)) (.cells #[.int .i64 k', .string n', .bool m', .slice AL' l'.length cL', .slice AN' ns'.length cN', .slice AK' ks'.length cK', .slice AA' qs'.length cA'] 36))
  have hbr := Lib.hid (blk_new (w.alloc (.cells #[.int .i64 k, .string n, .bool m, .slice AL l.length cL, .slice AN ns.length cN, .slice AK ks.length cK, .slice AA qs.length cA] 36)) (.cells #[.int .i64 k', .string n', .bool m', .slice AL' l'.length cL', .slice AN' ns'.length cN', .slice AK' ks'.length cK', .slice AA' qs'.length cA'] 36))
  have hsW : ((w.alloc (.cells #[.int .i64 k, .string n, .bool m, .slice AL l.length cL, .slice AN ns.length cN, .slice AK ks.length cK, .slice AA qs.length cA] 36)).alloc (.cells #[.int .i64 k', .string n', .bool m', .slice AL' l'.length cL', .slice AN' ns'.length cN', .slice AK' ks'.length cK', .slice AA' qs'.length cA'] 36)).heap.size = w.heap.size + 2 := by simp
  have RL := Lib.hid (RdRow.below rL (by omega) B2.out)
  have RL' := Lib.hid (RdRow.below rL' (by omega) B2.out)
  have RN := Lib.hid (RdRow.below rN (by omega) B2.out)
  have RN' := Lib.hid (RdRow.below rN' (by omega) B2.out)
  have RK := Lib.hid (RdRow.below rK (by omega) B2.out)
  have RK' := Lib.hid (RdRow.below rK' (by omega) B2.out)
  have RA := Lib.hid (RdRow.below rA (by omega) B2.out)
  have RA' := Lib.hid (RdRow.below rA' (by omega) B2.out)
  have DL := Lib.hid (dL.below B2.out)
  have DL' := Lib.hid (dL'.below B2.out)
  have DN := Lib.hid (dN.below B2.out)
  have DN' := Lib.hid (dN'.below B2.out)
  have HSW := Lib.hid hsW
  clear ih ia hab h h' hok hsW rL rN rK rA rL' rN' rK' rA' dL dN dL' dN'
  by_cases hc : k = k'
  rotate_left
  · skip
    have hf : Cr.cmp k k' n n' m m' l l' ns ns' ks ks' qs qs' = false := by rw [Cr.cmp, show (k == k') = false from beq_eq_false_iff_ne.2 hc]; simp only [Bool.and_false, Bool.false_and]
    have HF := Lib.hid hf
    have tkind : (k != k') = true := bne_iff_ne.2 hc
    clear hf hc
    go_enter Try.func25, Try.ntmps25
    go_wp2_with fail
    generalize hW : ((w.alloc (.cells #[.int .i64 k, .string n, .bool m, .slice AL l.length cL, .slice AN ns.length cN, .slice AK ks.length cK, .slice AA qs.length cA] 36)).alloc (.cells #[.int .i64 k', .string n', .bool m', .slice AL' l'.length cL', .slice AN' ns'.length cN', .slice AK' ks'.length cK', .slice AA' qs'.length cA'] 36)) = W at *
    clear hW
    go_ret
    exact ⟨by rw [HF.out]; rfl, B2.out⟩
  have tkind : (k != k') = false := bne_eq_false_iff_eq.2 hc
  have Ckind := Lib.hid (show (k == k') = true from beq_iff_eq.2 hc)
  clear hc
  by_cases hc : n.toList = n'.toList
  rotate_left
  · skip
    have hf : Cr.cmp k k' n n' m m' l l' ns ns' ks ks' qs qs' = false := by rw [Cr.cmp, show sameTx n n' = false by simp [sameTx, hc]]; simp only [Bool.and_false, Bool.false_and]
    have HF := Lib.hid hf
    have tname' : (n.toList == n'.toList) = false := beq_eq_false_iff_ne.2 hc
    have tname : (n.toList != n'.toList) = true := bne_iff_ne.2 hc
    clear hf hc
    go_enter Try.func25, Try.ntmps25
    go_wp2_with fail
    generalize hW : ((w.alloc (.cells #[.int .i64 k, .string n, .bool m, .slice AL l.length cL, .slice AN ns.length cN, .slice AK ks.length cK, .slice AA qs.length cA] 36)).alloc (.cells #[.int .i64 k', .string n', .bool m', .slice AL' l'.length cL', .slice AN' ns'.length cN', .slice AK' ks'.length cK', .slice AA' qs'.length cA'] 36)) = W at *
    clear hW
    go_ret
    exact ⟨by rw [HF.out]; rfl, B2.out⟩
  have tname' : (n.toList == n'.toList) = true := beq_iff_eq.2 hc
  have tname : (n.toList != n'.toList) = false := bne_eq_false_iff_eq.2 hc
  have Cname := Lib.hid (show sameTx n n' = true by simp [sameTx, hc])
  clear hc
  by_cases hc : ((m == m') && sameInts l l') = true
  rotate_left
  · skip
    have hf : Cr.cmp k k' n n' m m' l l' ns ns' ks ks' qs qs' = false := by
      have := Bool.eq_false_iff.2 hc
      rw [Cr.cmp]
      revert this
      cases (m == m') <;> cases sameInts l l' <;> simp
    have HF := Lib.hid hf
    have CF := Lib.hid (Bool.eq_false_iff.2 hc)
    clear hf hc
    go_enter Try.func25, Try.ntmps25
    go_wp2_with fail
    generalize hW : ((w.alloc (.cells #[.int .i64 k, .string n, .bool m, .slice AL l.length cL, .slice AN ns.length cN, .slice AK ks.length cK, .slice AA qs.length cA] 36)).alloc (.cells #[.int .i64 k', .string n', .bool m', .slice AL' l'.length cL', .slice AN' ns'.length cN', .slice AK' ks'.length cK', .slice AA' qs'.length cA'] 36)) = W at *
    clear hW
    refine (bigI m m' l l' hln W _ _ (DL.out.below (Below.refl W.heap.size W)) (DL'.out.below (Below.refl W.heap.size W))).mono ?_
    rintro e w1 ⟨rfl, hb⟩
    rw [CF.out]
    have HB1 := Lib.hid hb
    clear hb
    have z0 : World.cell? w1 ⟨w.heap.size, 0, none⟩ = some (.int .i64 k) := (blk_cell (blk_below hbo.out HB1.out) 0).trans rfl
    have y0 : World.cell? w1 ⟨w.heap.size + 1, 0, none⟩ = some (.int .i64 k') := by have q := blk_cell (blk_below hbr.out HB1.out) 0; simpa using q
    have z1 : World.cell? w1 ⟨w.heap.size, 1, none⟩ = some (.string n) := (blk_cell (blk_below hbo.out HB1.out) 1).trans rfl
    have y1 : World.cell? w1 ⟨w.heap.size + 1, 1, none⟩ = some (.string n') := by have q := blk_cell (blk_below hbr.out HB1.out) 1; simpa using q
    have z2 : World.cell? w1 ⟨w.heap.size, 2, none⟩ = some (.bool m) := (blk_cell (blk_below hbo.out HB1.out) 2).trans rfl
    have y2 : World.cell? w1 ⟨w.heap.size + 1, 2, none⟩ = some (.bool m') := by have q := blk_cell (blk_below hbr.out HB1.out) 2; simpa using q
    have z3 : World.cell? w1 ⟨w.heap.size, 3, none⟩ = some (.slice AL l.length cL) := (blk_cell (blk_below hbo.out HB1.out) 3).trans rfl
    have y3 : World.cell? w1 ⟨w.heap.size + 1, 3, none⟩ = some (.slice AL' l'.length cL') := by have q := blk_cell (blk_below hbr.out HB1.out) 3; simpa using q
    have z4 : World.cell? w1 ⟨w.heap.size, 4, none⟩ = some (.slice AN ns.length cN) := (blk_cell (blk_below hbo.out HB1.out) 4).trans rfl
    have y4 : World.cell? w1 ⟨w.heap.size + 1, 4, none⟩ = some (.slice AN' ns'.length cN') := by have q := blk_cell (blk_below hbr.out HB1.out) 4; simpa using q
    have z5 : World.cell? w1 ⟨w.heap.size, 5, none⟩ = some (.slice AK ks.length cK) := (blk_cell (blk_below hbo.out HB1.out) 5).trans rfl
    have y5 : World.cell? w1 ⟨w.heap.size + 1, 5, none⟩ = some (.slice AK' ks'.length cK') := by have q := blk_cell (blk_below hbr.out HB1.out) 5; simpa using q
    have z6 : World.cell? w1 ⟨w.heap.size, 6, none⟩ = some (.slice AA qs.length cA) := (blk_cell (blk_below hbo.out HB1.out) 6).trans rfl
    have y6 : World.cell? w1 ⟨w.heap.size + 1, 6, none⟩ = some (.slice AA' qs'.length cA') := by have q := blk_cell (blk_below hbr.out HB1.out) 6; simpa using q
    go_wp2_with fail
    go_ret
    exact ⟨by rw [HF.out]; rfl, B2.out.trans (HB1.out.mono (by rw [HSW.out]; omega))⟩
  have Cbig := Lib.hid hc
  clear hc
  by_cases hc : sameStrs ns ns' = true
  rotate_left
  · skip
    have hf : Cr.cmp k k' n n' m m' l l' ns ns' ks ks' qs qs' = false := by rw [Cr.cmp, show sameStrs ns ns' = false from Bool.eq_false_iff.2 hc]; simp only [Bool.and_false, Bool.false_and]
    have HF := Lib.hid hf
    have CF := Lib.hid (Bool.eq_false_iff.2 hc)
    clear hf hc
    go_enter Try.func25, Try.ntmps25
    go_wp2_with fail
    generalize hW : ((w.alloc (.cells #[.int .i64 k, .string n, .bool m, .slice AL l.length cL, .slice AN ns.length cN, .slice AK ks.length cK, .slice AA qs.length cA] 36)).alloc (.cells #[.int .i64 k', .string n', .bool m', .slice AL' l'.length cL', .slice AN' ns'.length cN', .slice AK' ks'.length cK', .slice AA' qs'.length cA'] 36)) = W at *
    clear hW
    refine (bigI m m' l l' hln W _ _ (DL.out.below (Below.refl W.heap.size W)) (DL'.out.below (Below.refl W.heap.size W))).mono ?_
    rintro e w1 ⟨rfl, hb⟩
    rw [Cbig.out]
    have HB1 := Lib.hid hb
    clear hb
    have z0 : World.cell? w1 ⟨w.heap.size, 0, none⟩ = some (.int .i64 k) := (blk_cell (blk_below hbo.out HB1.out) 0).trans rfl
    have y0 : World.cell? w1 ⟨w.heap.size + 1, 0, none⟩ = some (.int .i64 k') := by have q := blk_cell (blk_below hbr.out HB1.out) 0; simpa using q
    have z1 : World.cell? w1 ⟨w.heap.size, 1, none⟩ = some (.string n) := (blk_cell (blk_below hbo.out HB1.out) 1).trans rfl
    have y1 : World.cell? w1 ⟨w.heap.size + 1, 1, none⟩ = some (.string n') := by have q := blk_cell (blk_below hbr.out HB1.out) 1; simpa using q
    have z2 : World.cell? w1 ⟨w.heap.size, 2, none⟩ = some (.bool m) := (blk_cell (blk_below hbo.out HB1.out) 2).trans rfl
    have y2 : World.cell? w1 ⟨w.heap.size + 1, 2, none⟩ = some (.bool m') := by have q := blk_cell (blk_below hbr.out HB1.out) 2; simpa using q
    have z3 : World.cell? w1 ⟨w.heap.size, 3, none⟩ = some (.slice AL l.length cL) := (blk_cell (blk_below hbo.out HB1.out) 3).trans rfl
    have y3 : World.cell? w1 ⟨w.heap.size + 1, 3, none⟩ = some (.slice AL' l'.length cL') := by have q := blk_cell (blk_below hbr.out HB1.out) 3; simpa using q
    have z4 : World.cell? w1 ⟨w.heap.size, 4, none⟩ = some (.slice AN ns.length cN) := (blk_cell (blk_below hbo.out HB1.out) 4).trans rfl
    have y4 : World.cell? w1 ⟨w.heap.size + 1, 4, none⟩ = some (.slice AN' ns'.length cN') := by have q := blk_cell (blk_below hbr.out HB1.out) 4; simpa using q
    have z5 : World.cell? w1 ⟨w.heap.size, 5, none⟩ = some (.slice AK ks.length cK) := (blk_cell (blk_below hbo.out HB1.out) 5).trans rfl
    have y5 : World.cell? w1 ⟨w.heap.size + 1, 5, none⟩ = some (.slice AK' ks'.length cK') := by have q := blk_cell (blk_below hbr.out HB1.out) 5; simpa using q
    have z6 : World.cell? w1 ⟨w.heap.size, 6, none⟩ = some (.slice AA qs.length cA) := (blk_cell (blk_below hbo.out HB1.out) 6).trans rfl
    have y6 : World.cell? w1 ⟨w.heap.size + 1, 6, none⟩ = some (.slice AA' qs'.length cA') := by have q := blk_cell (blk_below hbr.out HB1.out) 6; simpa using q
    go_wp2_with fail
    refine (namesI ns ns' hnn w1 _ _ (DN.out.below HB1.out) (DN'.out.below HB1.out)).mono ?_
    rintro e w2 ⟨rfl, hb⟩
    rw [CF.out]
    have HB2 := Lib.hid (HB1.out.trans (hb.mono HB1.out.size))
    clear hb
    have z0 : World.cell? w2 ⟨w.heap.size, 0, none⟩ = some (.int .i64 k) := (blk_cell (blk_below hbo.out HB2.out) 0).trans rfl
    have y0 : World.cell? w2 ⟨w.heap.size + 1, 0, none⟩ = some (.int .i64 k') := by have q := blk_cell (blk_below hbr.out HB2.out) 0; simpa using q
    have z1 : World.cell? w2 ⟨w.heap.size, 1, none⟩ = some (.string n) := (blk_cell (blk_below hbo.out HB2.out) 1).trans rfl
    have y1 : World.cell? w2 ⟨w.heap.size + 1, 1, none⟩ = some (.string n') := by have q := blk_cell (blk_below hbr.out HB2.out) 1; simpa using q
    have z2 : World.cell? w2 ⟨w.heap.size, 2, none⟩ = some (.bool m) := (blk_cell (blk_below hbo.out HB2.out) 2).trans rfl
    have y2 : World.cell? w2 ⟨w.heap.size + 1, 2, none⟩ = some (.bool m') := by have q := blk_cell (blk_below hbr.out HB2.out) 2; simpa using q
    have z3 : World.cell? w2 ⟨w.heap.size, 3, none⟩ = some (.slice AL l.length cL) := (blk_cell (blk_below hbo.out HB2.out) 3).trans rfl
    have y3 : World.cell? w2 ⟨w.heap.size + 1, 3, none⟩ = some (.slice AL' l'.length cL') := by have q := blk_cell (blk_below hbr.out HB2.out) 3; simpa using q
    have z4 : World.cell? w2 ⟨w.heap.size, 4, none⟩ = some (.slice AN ns.length cN) := (blk_cell (blk_below hbo.out HB2.out) 4).trans rfl
    have y4 : World.cell? w2 ⟨w.heap.size + 1, 4, none⟩ = some (.slice AN' ns'.length cN') := by have q := blk_cell (blk_below hbr.out HB2.out) 4; simpa using q
    have z5 : World.cell? w2 ⟨w.heap.size, 5, none⟩ = some (.slice AK ks.length cK) := (blk_cell (blk_below hbo.out HB2.out) 5).trans rfl
    have y5 : World.cell? w2 ⟨w.heap.size + 1, 5, none⟩ = some (.slice AK' ks'.length cK') := by have q := blk_cell (blk_below hbr.out HB2.out) 5; simpa using q
    have z6 : World.cell? w2 ⟨w.heap.size, 6, none⟩ = some (.slice AA qs.length cA) := (blk_cell (blk_below hbo.out HB2.out) 6).trans rfl
    have y6 : World.cell? w2 ⟨w.heap.size + 1, 6, none⟩ = some (.slice AA' qs'.length cA') := by have q := blk_cell (blk_below hbr.out HB2.out) 6; simpa using q
    go_wp2_with fail
    go_ret
    exact ⟨by rw [HF.out]; rfl, B2.out.trans (HB2.out.mono (by rw [HSW.out]; omega))⟩
  have Cnames := Lib.hid hc
  clear hc
  by_cases hc : ks.length = ks'.length
  rotate_left
  · skip
    have hf : Cr.cmp k k' n n' m m' l l' ns ns' ks ks' qs qs' = false := by rw [Cr.cmp, show all2 Cr.same ks ks' = false from all2_len hc]; simp only [Bool.and_false, Bool.false_and]
    have HF := Lib.hid hf
    have tklen : ((ks.length : Int) != (ks'.length : Int)) = true := bne_iff_ne.2 (by omega)
    clear hf hc
    go_enter Try.func25, Try.ntmps25
    go_wp2_with fail
    generalize hW : ((w.alloc (.cells #[.int .i64 k, .string n, .bool m, .slice AL l.length cL, .slice AN ns.length cN, .slice AK ks.length cK, .slice AA qs.length cA] 36)).alloc (.cells #[.int .i64 k', .string n', .bool m', .slice AL' l'.length cL', .slice AN' ns'.length cN', .slice AK' ks'.length cK', .slice AA' qs'.length cA'] 36)) = W at *
    clear hW
    refine (bigI m m' l l' hln W _ _ (DL.out.below (Below.refl W.heap.size W)) (DL'.out.below (Below.refl W.heap.size W))).mono ?_
    rintro e w1 ⟨rfl, hb⟩
    rw [Cbig.out]
    have HB1 := Lib.hid hb
    clear hb
    have z0 : World.cell? w1 ⟨w.heap.size, 0, none⟩ = some (.int .i64 k) := (blk_cell (blk_below hbo.out HB1.out) 0).trans rfl
    have y0 : World.cell? w1 ⟨w.heap.size + 1, 0, none⟩ = some (.int .i64 k') := by have q := blk_cell (blk_below hbr.out HB1.out) 0; simpa using q
    have z1 : World.cell? w1 ⟨w.heap.size, 1, none⟩ = some (.string n) := (blk_cell (blk_below hbo.out HB1.out) 1).trans rfl
    have y1 : World.cell? w1 ⟨w.heap.size + 1, 1, none⟩ = some (.string n') := by have q := blk_cell (blk_below hbr.out HB1.out) 1; simpa using q
    have z2 : World.cell? w1 ⟨w.heap.size, 2, none⟩ = some (.bool m) := (blk_cell (blk_below hbo.out HB1.out) 2).trans rfl
    have y2 : World.cell? w1 ⟨w.heap.size + 1, 2, none⟩ = some (.bool m') := by have q := blk_cell (blk_below hbr.out HB1.out) 2; simpa using q
    have z3 : World.cell? w1 ⟨w.heap.size, 3, none⟩ = some (.slice AL l.length cL) := (blk_cell (blk_below hbo.out HB1.out) 3).trans rfl
    have y3 : World.cell? w1 ⟨w.heap.size + 1, 3, none⟩ = some (.slice AL' l'.length cL') := by have q := blk_cell (blk_below hbr.out HB1.out) 3; simpa using q
    have z4 : World.cell? w1 ⟨w.heap.size, 4, none⟩ = some (.slice AN ns.length cN) := (blk_cell (blk_below hbo.out HB1.out) 4).trans rfl
    have y4 : World.cell? w1 ⟨w.heap.size + 1, 4, none⟩ = some (.slice AN' ns'.length cN') := by have q := blk_cell (blk_below hbr.out HB1.out) 4; simpa using q
    have z5 : World.cell? w1 ⟨w.heap.size, 5, none⟩ = some (.slice AK ks.length cK) := (blk_cell (blk_below hbo.out HB1.out) 5).trans rfl
    have y5 : World.cell? w1 ⟨w.heap.size + 1, 5, none⟩ = some (.slice AK' ks'.length cK') := by have q := blk_cell (blk_below hbr.out HB1.out) 5; simpa using q
    have z6 : World.cell? w1 ⟨w.heap.size, 6, none⟩ = some (.slice AA qs.length cA) := (blk_cell (blk_below hbo.out HB1.out) 6).trans rfl
    have y6 : World.cell? w1 ⟨w.heap.size + 1, 6, none⟩ = some (.slice AA' qs'.length cA') := by have q := blk_cell (blk_below hbr.out HB1.out) 6; simpa using q
    go_wp2_with fail
    refine (namesI ns ns' hnn w1 _ _ (DN.out.below HB1.out) (DN'.out.below HB1.out)).mono ?_
    rintro e w2 ⟨rfl, hb⟩
    rw [Cnames.out]
    have HB2 := Lib.hid (HB1.out.trans (hb.mono HB1.out.size))
    clear hb
    have z0 : World.cell? w2 ⟨w.heap.size, 0, none⟩ = some (.int .i64 k) := (blk_cell (blk_below hbo.out HB2.out) 0).trans rfl
    have y0 : World.cell? w2 ⟨w.heap.size + 1, 0, none⟩ = some (.int .i64 k') := by have q := blk_cell (blk_below hbr.out HB2.out) 0; simpa using q
    have z1 : World.cell? w2 ⟨w.heap.size, 1, none⟩ = some (.string n) := (blk_cell (blk_below hbo.out HB2.out) 1).trans rfl
    have y1 : World.cell? w2 ⟨w.heap.size + 1, 1, none⟩ = some (.string n') := by have q := blk_cell (blk_below hbr.out HB2.out) 1; simpa using q
    have z2 : World.cell? w2 ⟨w.heap.size, 2, none⟩ = some (.bool m) := (blk_cell (blk_below hbo.out HB2.out) 2).trans rfl
    have y2 : World.cell? w2 ⟨w.heap.size + 1, 2, none⟩ = some (.bool m') := by have q := blk_cell (blk_below hbr.out HB2.out) 2; simpa using q
    have z3 : World.cell? w2 ⟨w.heap.size, 3, none⟩ = some (.slice AL l.length cL) := (blk_cell (blk_below hbo.out HB2.out) 3).trans rfl
    have y3 : World.cell? w2 ⟨w.heap.size + 1, 3, none⟩ = some (.slice AL' l'.length cL') := by have q := blk_cell (blk_below hbr.out HB2.out) 3; simpa using q
    have z4 : World.cell? w2 ⟨w.heap.size, 4, none⟩ = some (.slice AN ns.length cN) := (blk_cell (blk_below hbo.out HB2.out) 4).trans rfl
    have y4 : World.cell? w2 ⟨w.heap.size + 1, 4, none⟩ = some (.slice AN' ns'.length cN') := by have q := blk_cell (blk_below hbr.out HB2.out) 4; simpa using q
    have z5 : World.cell? w2 ⟨w.heap.size, 5, none⟩ = some (.slice AK ks.length cK) := (blk_cell (blk_below hbo.out HB2.out) 5).trans rfl
    have y5 : World.cell? w2 ⟨w.heap.size + 1, 5, none⟩ = some (.slice AK' ks'.length cK') := by have q := blk_cell (blk_below hbr.out HB2.out) 5; simpa using q
    have z6 : World.cell? w2 ⟨w.heap.size, 6, none⟩ = some (.slice AA qs.length cA) := (blk_cell (blk_below hbo.out HB2.out) 6).trans rfl
    have y6 : World.cell? w2 ⟨w.heap.size + 1, 6, none⟩ = some (.slice AA' qs'.length cA') := by have q := blk_cell (blk_below hbr.out HB2.out) 6; simpa using q
    go_wp2_with fail
    go_ret
    exact ⟨by rw [HF.out]; rfl, B2.out.trans (HB2.out.mono (by rw [HSW.out]; omega))⟩
  have tklen : ((ks.length : Int) != (ks'.length : Int)) = false := bne_eq_false_iff_eq.2 (by omega)
  have Lklen := Lib.hid hc
  clear hc
  by_cases hc : qs.length = qs'.length
  rotate_left
  · skip
    have hf : Cr.cmp k k' n n' m m' l l' ns ns' ks ks' qs qs' = false := by rw [Cr.cmp, show all2 Ca.same qs qs' = false from all2_len hc]; simp only [Bool.and_false, Bool.false_and]
    have HF := Lib.hid hf
    have talen : ((qs.length : Int) != (qs'.length : Int)) = true := bne_iff_ne.2 (by omega)
    clear hf hc
    go_enter Try.func25, Try.ntmps25
    go_wp2_with fail
    generalize hW : ((w.alloc (.cells #[.int .i64 k, .string n, .bool m, .slice AL l.length cL, .slice AN ns.length cN, .slice AK ks.length cK, .slice AA qs.length cA] 36)).alloc (.cells #[.int .i64 k', .string n', .bool m', .slice AL' l'.length cL', .slice AN' ns'.length cN', .slice AK' ks'.length cK', .slice AA' qs'.length cA'] 36)) = W at *
    clear hW
    refine (bigI m m' l l' hln W _ _ (DL.out.below (Below.refl W.heap.size W)) (DL'.out.below (Below.refl W.heap.size W))).mono ?_
    rintro e w1 ⟨rfl, hb⟩
    rw [Cbig.out]
    have HB1 := Lib.hid hb
    clear hb
    have z0 : World.cell? w1 ⟨w.heap.size, 0, none⟩ = some (.int .i64 k) := (blk_cell (blk_below hbo.out HB1.out) 0).trans rfl
    have y0 : World.cell? w1 ⟨w.heap.size + 1, 0, none⟩ = some (.int .i64 k') := by have q := blk_cell (blk_below hbr.out HB1.out) 0; simpa using q
    have z1 : World.cell? w1 ⟨w.heap.size, 1, none⟩ = some (.string n) := (blk_cell (blk_below hbo.out HB1.out) 1).trans rfl
    have y1 : World.cell? w1 ⟨w.heap.size + 1, 1, none⟩ = some (.string n') := by have q := blk_cell (blk_below hbr.out HB1.out) 1; simpa using q
    have z2 : World.cell? w1 ⟨w.heap.size, 2, none⟩ = some (.bool m) := (blk_cell (blk_below hbo.out HB1.out) 2).trans rfl
    have y2 : World.cell? w1 ⟨w.heap.size + 1, 2, none⟩ = some (.bool m') := by have q := blk_cell (blk_below hbr.out HB1.out) 2; simpa using q
    have z3 : World.cell? w1 ⟨w.heap.size, 3, none⟩ = some (.slice AL l.length cL) := (blk_cell (blk_below hbo.out HB1.out) 3).trans rfl
    have y3 : World.cell? w1 ⟨w.heap.size + 1, 3, none⟩ = some (.slice AL' l'.length cL') := by have q := blk_cell (blk_below hbr.out HB1.out) 3; simpa using q
    have z4 : World.cell? w1 ⟨w.heap.size, 4, none⟩ = some (.slice AN ns.length cN) := (blk_cell (blk_below hbo.out HB1.out) 4).trans rfl
    have y4 : World.cell? w1 ⟨w.heap.size + 1, 4, none⟩ = some (.slice AN' ns'.length cN') := by have q := blk_cell (blk_below hbr.out HB1.out) 4; simpa using q
    have z5 : World.cell? w1 ⟨w.heap.size, 5, none⟩ = some (.slice AK ks.length cK) := (blk_cell (blk_below hbo.out HB1.out) 5).trans rfl
    have y5 : World.cell? w1 ⟨w.heap.size + 1, 5, none⟩ = some (.slice AK' ks'.length cK') := by have q := blk_cell (blk_below hbr.out HB1.out) 5; simpa using q
    have z6 : World.cell? w1 ⟨w.heap.size, 6, none⟩ = some (.slice AA qs.length cA) := (blk_cell (blk_below hbo.out HB1.out) 6).trans rfl
    have y6 : World.cell? w1 ⟨w.heap.size + 1, 6, none⟩ = some (.slice AA' qs'.length cA') := by have q := blk_cell (blk_below hbr.out HB1.out) 6; simpa using q
    go_wp2_with fail
    refine (namesI ns ns' hnn w1 _ _ (DN.out.below HB1.out) (DN'.out.below HB1.out)).mono ?_
    rintro e w2 ⟨rfl, hb⟩
    rw [Cnames.out]
    have HB2 := Lib.hid (HB1.out.trans (hb.mono HB1.out.size))
    clear hb
    have z0 : World.cell? w2 ⟨w.heap.size, 0, none⟩ = some (.int .i64 k) := (blk_cell (blk_below hbo.out HB2.out) 0).trans rfl
    have y0 : World.cell? w2 ⟨w.heap.size + 1, 0, none⟩ = some (.int .i64 k') := by have q := blk_cell (blk_below hbr.out HB2.out) 0; simpa using q
    have z1 : World.cell? w2 ⟨w.heap.size, 1, none⟩ = some (.string n) := (blk_cell (blk_below hbo.out HB2.out) 1).trans rfl
    have y1 : World.cell? w2 ⟨w.heap.size + 1, 1, none⟩ = some (.string n') := by have q := blk_cell (blk_below hbr.out HB2.out) 1; simpa using q
    have z2 : World.cell? w2 ⟨w.heap.size, 2, none⟩ = some (.bool m) := (blk_cell (blk_below hbo.out HB2.out) 2).trans rfl
    have y2 : World.cell? w2 ⟨w.heap.size + 1, 2, none⟩ = some (.bool m') := by have q := blk_cell (blk_below hbr.out HB2.out) 2; simpa using q
    have z3 : World.cell? w2 ⟨w.heap.size, 3, none⟩ = some (.slice AL l.length cL) := (blk_cell (blk_below hbo.out HB2.out) 3).trans rfl
    have y3 : World.cell? w2 ⟨w.heap.size + 1, 3, none⟩ = some (.slice AL' l'.length cL') := by have q := blk_cell (blk_below hbr.out HB2.out) 3; simpa using q
    have z4 : World.cell? w2 ⟨w.heap.size, 4, none⟩ = some (.slice AN ns.length cN) := (blk_cell (blk_below hbo.out HB2.out) 4).trans rfl
    have y4 : World.cell? w2 ⟨w.heap.size + 1, 4, none⟩ = some (.slice AN' ns'.length cN') := by have q := blk_cell (blk_below hbr.out HB2.out) 4; simpa using q
    have z5 : World.cell? w2 ⟨w.heap.size, 5, none⟩ = some (.slice AK ks.length cK) := (blk_cell (blk_below hbo.out HB2.out) 5).trans rfl
    have y5 : World.cell? w2 ⟨w.heap.size + 1, 5, none⟩ = some (.slice AK' ks'.length cK') := by have q := blk_cell (blk_below hbr.out HB2.out) 5; simpa using q
    have z6 : World.cell? w2 ⟨w.heap.size, 6, none⟩ = some (.slice AA qs.length cA) := (blk_cell (blk_below hbo.out HB2.out) 6).trans rfl
    have y6 : World.cell? w2 ⟨w.heap.size + 1, 6, none⟩ = some (.slice AA' qs'.length cA') := by have q := blk_cell (blk_below hbr.out HB2.out) 6; simpa using q
    go_wp2_with fail
    go_ret
    exact ⟨by rw [HF.out]; rfl, B2.out.trans (HB2.out.mono (by rw [HSW.out]; omega))⟩
  have talen : ((qs.length : Int) != (qs'.length : Int)) = false := bne_eq_false_iff_eq.2 (by omega)
  have Lalen := Lib.hid hc
  clear hc
  have CMP : Hid (Cr.cmp k k' n n' m m' l l' ns ns' ks ks' qs qs' = (all2 Cr.same ks ks' && all2 Ca.same qs qs')) := by
    show _ = _
    have h1 := Cbig.out
    rw [Bool.and_eq_true] at h1
    rw [Cr.cmp, Ckind.out, Cname.out, h1.1, h1.2, Cnames.out]; simp only [Bool.true_and]
  go_enter Try.func25, Try.ntmps25
  go_wp2_with fail
  generalize hW : ((w.alloc (.cells #[.int .i64 k, .string n, .bool m, .slice AL l.length cL, .slice AN ns.length cN, .slice AK ks.length cK, .slice AA qs.length cA] 36)).alloc (.cells #[.int .i64 k', .string n', .bool m', .slice AL' l'.length cL', .slice AN' ns'.length cN', .slice AK' ks'.length cK', .slice AA' qs'.length cA'] 36)) = W at *
  clear hW
  refine (bigI m m' l l' hln W _ _ (DL.out.below (Below.refl W.heap.size W)) (DL'.out.below (Below.refl W.heap.size W))).mono ?_
  rintro e w1 ⟨rfl, hb⟩
  rw [Cbig.out]
  have HB1 := Lib.hid hb
  clear hb
  have z0 : World.cell? w1 ⟨w.heap.size, 0, none⟩ = some (.int .i64 k) := (blk_cell (blk_below hbo.out HB1.out) 0).trans rfl
  have y0 : World.cell? w1 ⟨w.heap.size + 1, 0, none⟩ = some (.int .i64 k') := by have q := blk_cell (blk_below hbr.out HB1.out) 0; simpa using q
  have z1 : World.cell? w1 ⟨w.heap.size, 1, none⟩ = some (.string n) := (blk_cell (blk_below hbo.out HB1.out) 1).trans rfl
  have y1 : World.cell? w1 ⟨w.heap.size + 1, 1, none⟩ = some (.string n') := by have q := blk_cell (blk_below hbr.out HB1.out) 1; simpa using q
  have z2 : World.cell? w1 ⟨w.heap.size, 2, none⟩ = some (.bool m) := (blk_cell (blk_below hbo.out HB1.out) 2).trans rfl
  have y2 : World.cell? w1 ⟨w.heap.size + 1, 2, none⟩ = some (.bool m') := by have q := blk_cell (blk_below hbr.out HB1.out) 2; simpa using q
  have z3 : World.cell? w1 ⟨w.heap.size, 3, none⟩ = some (.slice AL l.length cL) := (blk_cell (blk_below hbo.out HB1.out) 3).trans rfl
  have y3 : World.cell? w1 ⟨w.heap.size + 1, 3, none⟩ = some (.slice AL' l'.length cL') := by have q := blk_cell (blk_below hbr.out HB1.out) 3; simpa using q
  have z4 : World.cell? w1 ⟨w.heap.size, 4, none⟩ = some (.slice AN ns.length cN) := (blk_cell (blk_below hbo.out HB1.out) 4).trans rfl
  have y4 : World.cell? w1 ⟨w.heap.size + 1, 4, none⟩ = some (.slice AN' ns'.length cN') := by have q := blk_cell (blk_below hbr.out HB1.out) 4; simpa using q
  have z5 : World.cell? w1 ⟨w.heap.size, 5, none⟩ = some (.slice AK ks.length cK) := (blk_cell (blk_below hbo.out HB1.out) 5).trans rfl
  have y5 : World.cell? w1 ⟨w.heap.size + 1, 5, none⟩ = some (.slice AK' ks'.length cK') := by have q := blk_cell (blk_below hbr.out HB1.out) 5; simpa using q
  have z6 : World.cell? w1 ⟨w.heap.size, 6, none⟩ = some (.slice AA qs.length cA) := (blk_cell (blk_below hbo.out HB1.out) 6).trans rfl
  have y6 : World.cell? w1 ⟨w.heap.size + 1, 6, none⟩ = some (.slice AA' qs'.length cA') := by have q := blk_cell (blk_below hbr.out HB1.out) 6; simpa using q
  go_wp2_with fail
  refine (namesI ns ns' hnn w1 _ _ (DN.out.below HB1.out) (DN'.out.below HB1.out)).mono ?_
  rintro e w2 ⟨rfl, hb⟩
  rw [Cnames.out]
  have HB2 := Lib.hid (HB1.out.trans (hb.mono HB1.out.size))
  clear hb
  have z0 : World.cell? w2 ⟨w.heap.size, 0, none⟩ = some (.int .i64 k) := (blk_cell (blk_below hbo.out HB2.out) 0).trans rfl
  have y0 : World.cell? w2 ⟨w.heap.size + 1, 0, none⟩ = some (.int .i64 k') := by have q := blk_cell (blk_below hbr.out HB2.out) 0; simpa using q
  have z1 : World.cell? w2 ⟨w.heap.size, 1, none⟩ = some (.string n) := (blk_cell (blk_below hbo.out HB2.out) 1).trans rfl
  have y1 : World.cell? w2 ⟨w.heap.size + 1, 1, none⟩ = some (.string n') := by have q := blk_cell (blk_below hbr.out HB2.out) 1; simpa using q
  have z2 : World.cell? w2 ⟨w.heap.size, 2, none⟩ = some (.bool m) := (blk_cell (blk_below hbo.out HB2.out) 2).trans rfl
  have y2 : World.cell? w2 ⟨w.heap.size + 1, 2, none⟩ = some (.bool m') := by have q := blk_cell (blk_below hbr.out HB2.out) 2; simpa using q
  have z3 : World.cell? w2 ⟨w.heap.size, 3, none⟩ = some (.slice AL l.length cL) := (blk_cell (blk_below hbo.out HB2.out) 3).trans rfl
  have y3 : World.cell? w2 ⟨w.heap.size + 1, 3, none⟩ = some (.slice AL' l'.length cL') := by have q := blk_cell (blk_below hbr.out HB2.out) 3; simpa using q
  have z4 : World.cell? w2 ⟨w.heap.size, 4, none⟩ = some (.slice AN ns.length cN) := (blk_cell (blk_below hbo.out HB2.out) 4).trans rfl
  have y4 : World.cell? w2 ⟨w.heap.size + 1, 4, none⟩ = some (.slice AN' ns'.length cN') := by have q := blk_cell (blk_below hbr.out HB2.out) 4; simpa using q
  have z5 : World.cell? w2 ⟨w.heap.size, 5, none⟩ = some (.slice AK ks.length cK) := (blk_cell (blk_below hbo.out HB2.out) 5).trans rfl
  have y5 : World.cell? w2 ⟨w.heap.size + 1, 5, none⟩ = some (.slice AK' ks'.length cK') := by have q := blk_cell (blk_below hbr.out HB2.out) 5; simpa using q
  have z6 : World.cell? w2 ⟨w.heap.size, 6, none⟩ = some (.slice AA qs.length cA) := (blk_cell (blk_below hbo.out HB2.out) 6).trans rfl
  have y6 : World.cell? w2 ⟨w.heap.size + 1, 6, none⟩ = some (.slice AA' qs'.length cA') := by have q := blk_cell (blk_below hbr.out HB2.out) 6; simpa using q
  go_wp2_with fail
  have HX := Lib.hid HB2.out
  have HXB := Lib.hid (B2.out.trans (HX.out.mono (by rw [HSW.out]; omega)))
  clear z0 y0 z1 y1 z2 y2 z3 y3 z4 y4 z5 y5 z6 y6
  go_loopw [56] (fun i wr => ∃ j : Nat, j ≤ ks.length ∧ i = .int .i64 j ∧ Below W.heap.size W wr ∧ Hid (all2 Cr.same ks ks' = all2 Cr.same (ks.drop j) (ks'.drop j))) (fun i _ => ks.length - (intOf i).toNat)
  case atStart => exact ⟨0, Nat.zero_le _, rfl, HX.out, rfl⟩
  case round =>
    obtain ⟨j, hj, rfl, hb, hsm⟩ := hrel
    clear HX HXB
    have z0 : World.cell? wr ⟨w.heap.size, 0, none⟩ = some (.int .i64 k) := (blk_cell (blk_below hbo.out hb) 0).trans rfl
    have y0 : World.cell? wr ⟨w.heap.size + 1, 0, none⟩ = some (.int .i64 k') := by have q := blk_cell (blk_below hbr.out hb) 0; simpa using q
    have z1 : World.cell? wr ⟨w.heap.size, 1, none⟩ = some (.string n) := (blk_cell (blk_below hbo.out hb) 1).trans rfl
    have y1 : World.cell? wr ⟨w.heap.size + 1, 1, none⟩ = some (.string n') := by have q := blk_cell (blk_below hbr.out hb) 1; simpa using q
    have z2 : World.cell? wr ⟨w.heap.size, 2, none⟩ = some (.bool m) := (blk_cell (blk_below hbo.out hb) 2).trans rfl
    have y2 : World.cell? wr ⟨w.heap.size + 1, 2, none⟩ = some (.bool m') := by have q := blk_cell (blk_below hbr.out hb) 2; simpa using q
    have z3 : World.cell? wr ⟨w.heap.size, 3, none⟩ = some (.slice AL l.length cL) := (blk_cell (blk_below hbo.out hb) 3).trans rfl
    have y3 : World.cell? wr ⟨w.heap.size + 1, 3, none⟩ = some (.slice AL' l'.length cL') := by have q := blk_cell (blk_below hbr.out hb) 3; simpa using q
    have z4 : World.cell? wr ⟨w.heap.size, 4, none⟩ = some (.slice AN ns.length cN) := (blk_cell (blk_below hbo.out hb) 4).trans rfl
    have y4 : World.cell? wr ⟨w.heap.size + 1, 4, none⟩ = some (.slice AN' ns'.length cN') := by have q := blk_cell (blk_below hbr.out hb) 4; simpa using q
    have z5 : World.cell? wr ⟨w.heap.size, 5, none⟩ = some (.slice AK ks.length cK) := (blk_cell (blk_below hbo.out hb) 5).trans rfl
    have y5 : World.cell? wr ⟨w.heap.size + 1, 5, none⟩ = some (.slice AK' ks'.length cK') := by have q := blk_cell (blk_below hbr.out hb) 5; simpa using q
    have z6 : World.cell? wr ⟨w.heap.size, 6, none⟩ = some (.slice AA qs.length cA) := (blk_cell (blk_below hbo.out hb) 6).trans rfl
    have y6 : World.cell? wr ⟨w.heap.size + 1, 6, none⟩ = some (.slice AA' qs'.length cA') := by have q := blk_cell (blk_below hbr.out hb) 6; simpa using q
    by_cases hlt : j < ks.length
    · skip
      have hlt' : j < ks'.length := by have := Lklen.out; omega
      have i0 : (0 : Int) ≤ (j : Int) := Int.natCast_nonneg _
      have i1 : (j : Int) < (ks.length : Int) := by omega
      have i2 : (j : Int) < (ks'.length : Int) := by omega
      obtain ⟨b, off, es, rfl, hcl, hrd, hc⟩ := (RdRow.below RK.out (by omega) hb).get (i := j) (x := ks[j].enc) (by simp [Cr.encs_map, List.getElem?_eq_getElem hlt])
      obtain ⟨u0, u1, u2, u3, u4, u5, u6, rfl⟩ := cells7 hcl
      have e0 : wr.cell? ⟨b, off + j * 7, none⟩ = some u0 := hc 0 _ rfl
      have e1 : wr.cell? ⟨b, off + j * 7 + 1, none⟩ = some u1 := hc 1 _ rfl
      have e2 : wr.cell? ⟨b, off + j * 7 + 2, none⟩ = some u2 := hc 2 _ rfl
      have e3 : wr.cell? ⟨b, off + j * 7 + 3, none⟩ = some u3 := hc 3 _ rfl
      have e4 : wr.cell? ⟨b, off + j * 7 + 4, none⟩ = some u4 := hc 4 _ rfl
      have e5 : wr.cell? ⟨b, off + j * 7 + 5, none⟩ = some u5 := hc 5 _ rfl
      have e6 : wr.cell? ⟨b, off + j * 7 + 6, none⟩ = some u6 := hc 6 _ rfl
      obtain ⟨b', off', es', rfl, hcl', hrd', hc'⟩ := (RdRow.below RK'.out (by omega) hb).get (i := j) (x := ks'[j].enc) (by simp [Cr.encs_map, List.getElem?_eq_getElem hlt'])
      obtain ⟨v0, v1, v2, v3, v4, v5, v6, rfl⟩ := cells7 hcl'
      have f0 : wr.cell? ⟨b', off' + j * 7, none⟩ = some v0 := hc' 0 _ rfl
      have f1 : wr.cell? ⟨b', off' + j * 7 + 1, none⟩ = some v1 := hc' 1 _ rfl
      have f2 : wr.cell? ⟨b', off' + j * 7 + 2, none⟩ = some v2 := hc' 2 _ rfl
      have f3 : wr.cell? ⟨b', off' + j * 7 + 3, none⟩ = some v3 := hc' 3 _ rfl
      have f4 : wr.cell? ⟨b', off' + j * 7 + 4, none⟩ = some v4 := hc' 4 _ rfl
      have f5 : wr.cell? ⟨b', off' + j * 7 + 5, none⟩ = some v5 := hc' 5 _ rfl
      have f6 : wr.cell? ⟨b', off' + j * 7 + 6, none⟩ = some v6 := hc' 6 _ rfl
      have CAL := Lib.hid (IH.out _ (List.getElem_mem hlt) ks'[j] wr.drew _ _ (OKS.out _ (List.getElem_mem hlt')) (hrd.below (Below.refl _ _).drew) (hrd'.below (Below.refl _ _).drew))
      have HB := Lib.hid hb
      have SM := Lib.hid (hsm.out.trans (all2_drop hlt hlt'))
      clear hrd hcl hc hb hrd' hcl' hc' hsm
      cases hq : ks[j].same ks'[j] with
      | true =>
        have SQ := Lib.hid hq
        rw [hq] at CAL
        clear hq
        go_wp2_with fail
        go_still_tail 10, (by kernel_rfl)
        go_wp2_with fail
        refine CAL.out.mono ?_
        rintro e wc ⟨rfl, hb1⟩
        have HB1 := Lib.hid (HB.out.drew.trans (hb1.mono HB.out.size))
        clear hb1 CAL
        go_wp2
        go_roundw
        case rel => exact ⟨j + 1, by omega, by go_num, HB1.out, Lib.hid (by rw [SM.out, SQ.out, Bool.true_and])⟩
        case measure => simp [intOf]; omega
      | false =>
        have SQ := Lib.hid hq
        rw [hq] at CAL
        clear hq
        go_wp2_with fail
        go_still_tail 10, (by kernel_rfl)
        go_wp2_with fail
        refine CAL.out.mono ?_
        rintro e wc ⟨rfl, hb1⟩
        have HB1 := Lib.hid (HB.out.drew.trans (hb1.mono HB.out.size))
        clear hb1 CAL
        go_wp2
        go_ret
        exact ⟨by rw [CMP.out, SM.out, SQ.out]; simp only [Bool.false_and, Bool.and_false]; rfl, B2.out.trans (HB1.out.mono (by rw [HSW.out]; omega))⟩
    obtain rfl : j = ks.length := by omega
    have HX := Lib.hid hb
    have HXB := Lib.hid (B2.out.trans (HX.out.mono (by rw [HSW.out]; omega)))
    have KQ := hsm.out
    rw [List.drop_length, Lklen.out, List.drop_length] at KQ
    have Kk : Hid (all2 Cr.same ks ks' = true) := KQ
    clear hb hsm KQ hlt hj
    have hnn0 := hnn
    go_wp2_with fail
    clear z0 y0 z1 y1 z2 y2 z3 y3 z4 y4 z5 y5 z6 y6
    go_loopw [75] (fun i wr => ∃ j : Nat, j ≤ qs.length ∧ i = .int .i64 j ∧ Below W.heap.size W wr ∧ Hid (all2 Ca.same qs qs' = all2 Ca.same (qs.drop j) (qs'.drop j))) (fun i _ => qs.length - (intOf i).toNat)
    case atStart => exact ⟨0, Nat.zero_le _, rfl, HX.out, rfl⟩
    case round =>
      obtain ⟨j, hj, rfl, hb, hsm⟩ := hrel
      clear HX HXB
      have z0 : World.cell? wr ⟨w.heap.size, 0, none⟩ = some (.int .i64 k) := (blk_cell (blk_below hbo.out hb) 0).trans rfl
      have y0 : World.cell? wr ⟨w.heap.size + 1, 0, none⟩ = some (.int .i64 k') := by have q := blk_cell (blk_below hbr.out hb) 0; simpa using q
      have z1 : World.cell? wr ⟨w.heap.size, 1, none⟩ = some (.string n) := (blk_cell (blk_below hbo.out hb) 1).trans rfl
      have y1 : World.cell? wr ⟨w.heap.size + 1, 1, none⟩ = some (.string n') := by have q := blk_cell (blk_below hbr.out hb) 1; simpa using q
      have z2 : World.cell? wr ⟨w.heap.size, 2, none⟩ = some (.bool m) := (blk_cell (blk_below hbo.out hb) 2).trans rfl
      have y2 : World.cell? wr ⟨w.heap.size + 1, 2, none⟩ = some (.bool m') := by have q := blk_cell (blk_below hbr.out hb) 2; simpa using q
      have z3 : World.cell? wr ⟨w.heap.size, 3, none⟩ = some (.slice AL l.length cL) := (blk_cell (blk_below hbo.out hb) 3).trans rfl
      have y3 : World.cell? wr ⟨w.heap.size + 1, 3, none⟩ = some (.slice AL' l'.length cL') := by have q := blk_cell (blk_below hbr.out hb) 3; simpa using q
      have z4 : World.cell? wr ⟨w.heap.size, 4, none⟩ = some (.slice AN ns.length cN) := (blk_cell (blk_below hbo.out hb) 4).trans rfl
      have y4 : World.cell? wr ⟨w.heap.size + 1, 4, none⟩ = some (.slice AN' ns'.length cN') := by have q := blk_cell (blk_below hbr.out hb) 4; simpa using q
      have z5 : World.cell? wr ⟨w.heap.size, 5, none⟩ = some (.slice AK ks.length cK) := (blk_cell (blk_below hbo.out hb) 5).trans rfl
      have y5 : World.cell? wr ⟨w.heap.size + 1, 5, none⟩ = some (.slice AK' ks'.length cK') := by have q := blk_cell (blk_below hbr.out hb) 5; simpa using q
      have z6 : World.cell? wr ⟨w.heap.size, 6, none⟩ = some (.slice AA qs.length cA) := (blk_cell (blk_below hbo.out hb) 6).trans rfl
      have y6 : World.cell? wr ⟨w.heap.size + 1, 6, none⟩ = some (.slice AA' qs'.length cA') := by have q := blk_cell (blk_below hbr.out hb) 6; simpa using q
      by_cases hlt : j < qs.length
      · skip
        have hlt' : j < qs'.length := by have := Lalen.out; omega
        have i0 : (0 : Int) ≤ (j : Int) := Int.natCast_nonneg _
        have i1 : (j : Int) < (qs.length : Int) := by omega
        have i2 : (j : Int) < (qs'.length : Int) := by omega
        obtain ⟨b, off, es, rfl, hcl, hrd, hc⟩ := (RdRow.below RA.out (by omega) hb).get (i := j) (x := qs[j].enc) (by simp [Ca.encs_map, List.getElem?_eq_getElem hlt])
        obtain ⟨nv, bs, rfl, hbl, hnv, hbd⟩ := Ca.open_ hrd
        obtain ⟨u2, u3, u4, u5, u6, u7, u8, rfl⟩ := cells7 hbl
        have e0 := fun d os => cell_regrown (show wr.cell? ⟨b, off + j * 9, none⟩ = some (.string qs[j].con) from hc 0 _ rfl) d os
        have e1 := fun d os => cell_regrown (show wr.cell? ⟨b, off + j * 9 + 1, none⟩ = some nv from hc 1 _ rfl) d os
        have e2 := fun d os => cell_regrown (show wr.cell? ⟨b, off + j * 9 + 2, none⟩ = some u2 from hc 2 _ rfl) d os
        have e3 := fun d os => cell_regrown (show wr.cell? ⟨b, off + j * 9 + 3, none⟩ = some u3 from hc 3 _ rfl) d os
        have e4 := fun d os => cell_regrown (show wr.cell? ⟨b, off + j * 9 + 4, none⟩ = some u4 from hc 4 _ rfl) d os
        have e5 := fun d os => cell_regrown (show wr.cell? ⟨b, off + j * 9 + 5, none⟩ = some u5 from hc 5 _ rfl) d os
        have e6 := fun d os => cell_regrown (show wr.cell? ⟨b, off + j * 9 + 6, none⟩ = some u6 from hc 6 _ rfl) d os
        have e7 := fun d os => cell_regrown (show wr.cell? ⟨b, off + j * 9 + 7, none⟩ = some u7 from hc 7 _ rfl) d os
        have e8 := fun d os => cell_regrown (show wr.cell? ⟨b, off + j * 9 + 8, none⟩ = some u8 from hc 8 _ rfl) d os
        obtain ⟨b', off', es', rfl, hcl', hrd', hc'⟩ := (RdRow.below RA'.out (by omega) hb).get (i := j) (x := qs'[j].enc) (by simp [Ca.encs_map, List.getElem?_eq_getElem hlt'])
        obtain ⟨nv', bs', rfl, hbl', hnv', hbd'⟩ := Ca.open_ hrd'
        obtain ⟨v2, v3, v4, v5, v6, v7, v8, rfl⟩ := cells7 hbl'
        have f0 := fun d os => cell_regrown (show wr.cell? ⟨b', off' + j * 9, none⟩ = some (.string qs'[j].con) from hc' 0 _ rfl) d os
        have f1 := fun d os => cell_regrown (show wr.cell? ⟨b', off' + j * 9 + 1, none⟩ = some nv' from hc' 1 _ rfl) d os
        have f2 := fun d os => cell_regrown (show wr.cell? ⟨b', off' + j * 9 + 2, none⟩ = some v2 from hc' 2 _ rfl) d os
        have f3 := fun d os => cell_regrown (show wr.cell? ⟨b', off' + j * 9 + 3, none⟩ = some v3 from hc' 3 _ rfl) d os
        have f4 := fun d os => cell_regrown (show wr.cell? ⟨b', off' + j * 9 + 4, none⟩ = some v4 from hc' 4 _ rfl) d os
        have f5 := fun d os => cell_regrown (show wr.cell? ⟨b', off' + j * 9 + 5, none⟩ = some v5 from hc' 5 _ rfl) d os
        have f6 := fun d os => cell_regrown (show wr.cell? ⟨b', off' + j * 9 + 6, none⟩ = some v6 from hc' 6 _ rfl) d os
        have f7 := fun d os => cell_regrown (show wr.cell? ⟨b', off' + j * 9 + 7, none⟩ = some v7 from hc' 7 _ rfl) d os
        have f8 := fun d os => cell_regrown (show wr.cell? ⟨b', off' + j * 9 + 8, none⟩ = some v8 from hc' 8 _ rfl) d os
        have ze := fun d os => cell_regrown z6 d os
        have ye := fun d os => cell_regrown y6 d os
        have QN : Hid (∀ r, sameStrs qs[j].names qs'[j].names = r → ∀ d os, Calls Try.prog 61 #[nv, nv'] (Go.Sort.grow (redrawn wr d) os) fun e w' => e = .returned (.bool r) ∧ Below (Go.Sort.grow (redrawn wr d) os).heap.size (Go.Sort.grow (redrawn wr d) os) w') := fun r hr d os => hr ▸ namesI _ _ (HAB.out _ (List.getElem_mem hlt)) _ _ _ (hnv.below (below_regrown wr d os)) (hnv'.below (below_regrown wr d os))
        have QB : Hid (∀ r, qs[j].body.same qs'[j].body = r → ∀ d os, Calls Try.prog 25 #[.agg #[u2, u3, u4, u5, u6, u7, u8], .agg #[v2, v3, v4, v5, v6, v7, v8]] (Go.Sort.grow (redrawn wr d) os) fun e w' => e = .returned (.bool r) ∧ Below (Go.Sort.grow (redrawn wr d) os).heap.size (Go.Sort.grow (redrawn wr d) os) w') := fun r hr d os => hr ▸ IA.out _ (List.getElem_mem hlt) _ _ _ _ (Ca.body_ok (OKA.out _ (List.getElem_mem hlt'))) (hbd.below (below_regrown wr d os)) (hbd'.below (below_regrown wr d os))
        have HB := Lib.hid hb
        have SM := Lib.hid (hsm.out.trans (all2_drop hlt hlt'))
        have SP := Lib.hid (Ca.same_parts qs[j] qs'[j])
        clear hrd hcl hc hb hrd' hcl' hc' hsm hnv hnv' hbd hbd' hbl hbl'
        by_cases hq : qs[j].con.toList = qs'[j].con.toList
        rotate_left
        · skip
          have u9 : (qs[j].con.toList != qs'[j].con.toList) = true := bne_iff_ne.2 hq
          have u9' : (qs[j].con.toList == qs'[j].con.toList) = false := beq_eq_false_iff_ne.2 hq
          have SQ := Lib.hid (show qs[j].same qs'[j] = false by rw [SP.out, show sameTx qs[j].con qs'[j].con = false by simp [sameTx, hq], Bool.false_and])
          clear hq
          have HQN := Lib.hid (rfl : sameStrs qs[j].names qs'[j].names = _)
          have HQB := Lib.hid (rfl : qs[j].body.same qs'[j].body = _)
          go_wp2_with fail
          refine wp_region_quiet_below (by kernel_rfl) (by kernel_rfl) ?_
          repeat (first | go_big_quiet_skip | quiet_step (first | (go_at_call 61; exact Calls.regrown_of (QN.out _ HQN.out _ _)) | (go_at_call 25; exact Calls.regrown_of (QB.out _ HQB.out _ _))))
          refine wpQuiet_nil ?_
          intro _ hw'
          obtain ⟨⟨dq, osq⟩, hw''⟩ := hw'
          subst hw''
          have hbq := below_regrown wr dq osq
          generalize Go.Sort.grow (redrawn wr dq) osq = wq at *
          have HB1 := Lib.hid (HB.out.trans (hbq.mono HB.out.size))
          clear hbq
          go_wp2
          go_ret
          exact ⟨by rw [CMP.out, Kk.out, SM.out, SQ.out]; simp only [Bool.false_and, Bool.and_false]; rfl, B2.out.trans (HB1.out.mono (by rw [HSW.out]; omega))⟩
        have u9 : (qs[j].con.toList != qs'[j].con.toList) = false := bne_eq_false_iff_eq.2 hq
        have u9' : (qs[j].con.toList == qs'[j].con.toList) = true := beq_iff_eq.2 hq
        have SC := Lib.hid (show sameTx qs[j].con qs'[j].con = true by simp [sameTx, hq])
        clear hq
        cases hqn : sameStrs qs[j].names qs'[j].names with
        | false =>
          have HQN := Lib.hid hqn
          have HQB := Lib.hid (rfl : qs[j].body.same qs'[j].body = _)
          have SQ := Lib.hid (show qs[j].same qs'[j] = false by rw [SP.out, hqn, Bool.false_and, Bool.and_false])
          clear hqn
          go_wp2_with fail
          refine wp_region_quiet_below (by kernel_rfl) (by kernel_rfl) ?_
          repeat (first | go_big_quiet_skip | quiet_step (first | (go_at_call 61; exact Calls.regrown_of (QN.out _ HQN.out _ _)) | (go_at_call 25; exact Calls.regrown_of (QB.out _ HQB.out _ _))))
          refine wpQuiet_nil ?_
          intro _ hw'
          obtain ⟨⟨dq, osq⟩, hw''⟩ := hw'
          subst hw''
          have hbq := below_regrown wr dq osq
          generalize Go.Sort.grow (redrawn wr dq) osq = wq at *
          have HB1 := Lib.hid (HB.out.trans (hbq.mono HB.out.size))
          clear hbq
          go_wp2
          go_ret
          exact ⟨by rw [CMP.out, Kk.out, SM.out, SQ.out]; simp only [Bool.false_and, Bool.and_false]; rfl, B2.out.trans (HB1.out.mono (by rw [HSW.out]; omega))⟩
        | true =>
          have HQN := Lib.hid hqn
          cases hqb : qs[j].body.same qs'[j].body with
          | true =>
            have HQB := Lib.hid hqb
            have SQ := Lib.hid (show qs[j].same qs'[j] = true by rw [SP.out, hqn, hqb, SC.out]; rfl)
            clear hqn hqb
            go_wp2_with fail
            refine wp_region_quiet_below (by kernel_rfl) (by kernel_rfl) ?_
            repeat (first | go_big_quiet_skip | quiet_step (first | (go_at_call 61; exact Calls.regrown_of (QN.out _ HQN.out _ _)) | (go_at_call 25; exact Calls.regrown_of (QB.out _ HQB.out _ _))))
            refine wpQuiet_nil ?_
            intro _ hw'
            obtain ⟨⟨dq, osq⟩, hw''⟩ := hw'
            subst hw''
            have hbq := below_regrown wr dq osq
            generalize Go.Sort.grow (redrawn wr dq) osq = wq at *
            have HB1 := Lib.hid (HB.out.trans (hbq.mono HB.out.size))
            clear hbq
            go_wp2
            go_roundw
            case rel => exact ⟨j + 1, by omega, by go_num, HB1.out, Lib.hid (by rw [SM.out, SQ.out, Bool.true_and])⟩
            case measure => simp [intOf]; omega
          | false =>
            have HQB := Lib.hid hqb
            have SQ := Lib.hid (show qs[j].same qs'[j] = false by rw [SP.out, hqn, hqb, SC.out]; rfl)
            clear hqn hqb
            go_wp2_with fail
            refine wp_region_quiet_below (by kernel_rfl) (by kernel_rfl) ?_
            repeat (first | go_big_quiet_skip | quiet_step (first | (go_at_call 61; exact Calls.regrown_of (QN.out _ HQN.out _ _)) | (go_at_call 25; exact Calls.regrown_of (QB.out _ HQB.out _ _))))
            refine wpQuiet_nil ?_
            intro _ hw'
            obtain ⟨⟨dq, osq⟩, hw''⟩ := hw'
            subst hw''
            have hbq := below_regrown wr dq osq
            generalize Go.Sort.grow (redrawn wr dq) osq = wq at *
            have HB1 := Lib.hid (HB.out.trans (hbq.mono HB.out.size))
            clear hbq
            go_wp2
            go_ret
            exact ⟨by rw [CMP.out, Kk.out, SM.out, SQ.out]; simp only [Bool.false_and, Bool.and_false]; rfl, B2.out.trans (HB1.out.mono (by rw [HSW.out]; omega))⟩
      obtain rfl : j = qs.length := by omega
      have HX := Lib.hid hb
      have HXB := Lib.hid (B2.out.trans (HX.out.mono (by rw [HSW.out]; omega)))
      have KQ := hsm.out
      rw [List.drop_length, Lalen.out, List.drop_length] at KQ
      have Ka : Hid (all2 Ca.same qs qs' = true) := KQ
      clear hb hsm KQ hlt hj
      have hnn0 := hnn
      go_wp2
      go_ret
      exact ⟨by rw [CMP.out, Kk.out, Ka.out]; rfl, HXB.out⟩
theorem SameI_all : ∀ (x : Cr), x.ok → SameI x :=
  Cr.induct fun k n m l ns ks qs ih ia h => by
    simp only [Cr.ok] at h
    obtain ⟨_, _, hl, hns, hk, ha, hks, has⟩ := h
    exact SameI_of k n m l ns ks qs hl.1 hns.1 hk ha (fun a hm => by have := Ca.oks_mem has a hm; cases a; simp only [Ca.ok] at this; exact this.2.1.1) (fun x hx => ih x hx (Cr.oks_mem hks x hx)) (fun a hm => ia a hm (Ca.body_ok (Ca.oks_mem has a hm)))

end Go.Proofs.Ytjemcaokiifomaa
