/- The reference's 'TypeFault' on types as data; no condition. -/
import Derived.Test.YtbbpkjcmbakfeaaTy
import Derived.StillTailTactics
namespace Go.Proofs.Ytbbpkjcmbakfeaa
open Go.RowKit
set_option linter.unusedVariables false
set_option linter.unusedSimpArgs false

mutual
def Ty.fault : Ty → Int → Int → Bool × Int
  | .mk k d n ks, deep, left =>
    if left - 1 < 0 ∨ 200 < deep then (true, left - 1)
    else if k = 1 ∨ k = 2 then ((decide (d < 0) || (n.toList != [] || decide (0 < (ks.length : Int)))), left - 1)
    else if k = 3 then (if d ≠ 0 ∨ n.toList = [] then (true, left - 1) else Ty.faults ks (deep + 1) (left - 1))
    else (true, left - 1)
def Ty.faults : List Ty → Int → Int → Bool × Int
  | [], _, left => (false, left)
  | x :: xs, deep, left => if (x.fault deep left).1 = true then (true, (x.fault deep left).2) else Ty.faults xs deep (x.fault deep left).2
end
theorem Ty.faults_left : ∀ (xs : List Ty), (∀ x ∈ xs, ∀ deep left, (x.fault deep left).1 = false → 0 ≤ (x.fault deep left).2 ∧ (x.fault deep left).2 ≤ left) →
    ∀ deep left, 0 ≤ left → (Ty.faults xs deep left).1 = false → 0 ≤ (Ty.faults xs deep left).2 ∧ (Ty.faults xs deep left).2 ≤ left
  | [], _, deep, left, h0, _ => by simp [Ty.faults, h0]
  | x :: xs, ih, deep, left, h0, h => by
    simp only [Ty.faults] at h ⊢
    by_cases hf : (x.fault deep left).1 = true
    · rw [if_pos hf] at h; simp at h
    · have hf' : (x.fault deep left).1 = false := by simpa using hf
      rw [if_neg hf] at h
      rw [if_neg hf]
      have h1 := ih x (by simp) deep left hf'
      have h2 := Ty.faults_left xs (fun y hy => ih y (by simp [hy])) deep _ h1.1 h
      omega
theorem Ty.fault_left : ∀ (x : Ty) (deep left : Int), (x.fault deep left).1 = false → 0 ≤ (x.fault deep left).2 ∧ (x.fault deep left).2 ≤ left :=
  Ty.induct fun k d n ks ih deep left h => by
    simp only [Ty.fault] at h ⊢
    split at h
    · simp at h
    · rename_i h1
      rw [if_neg h1]
      split at h
      · rename_i h2
        rw [if_pos h2]
        simp only
        omega
      · rename_i h2
        rw [if_neg h2]
        split at h
        · rename_i h3
          rw [if_pos h3]
          split at h
          · simp at h
          · rename_i h4
            rw [if_neg h4]
            have := Ty.faults_left ks ih (deep + 1) (left - 1) (by omega) h
            omega
        · simp at h

section
variable {k d : Int} {n : ByteArray} {ks : List Ty} {deep left : Int}
theorem Ty.fault_bad (h : left - 1 < 0 ∨ 200 < deep) : (Ty.mk k d n ks).fault deep left = (true, left - 1) := by rw [Ty.fault, if_pos h]
theorem Ty.fault_var (h : 0 ≤ left - 1 ∧ deep ≤ 200) (hk : (k == 1) = true ∨ (k == 2) = true) : (Ty.mk k d n ks).fault deep left = ((decide (d < 0) || (n.toList != [] || decide (0 < (ks.length : Int)))), left - 1) := by
  rw [Ty.fault, if_neg (by omega), if_pos (by simpa using hk)]
theorem Ty.fault_con_bad (h : 0 ≤ left - 1 ∧ deep ≤ 200) (h1 : (k == 1) = false) (h2 : (k == 2) = false) (h3 : (k == 3) = true) (hb : d ≠ 0 ∨ n.toList = []) : (Ty.mk k d n ks).fault deep left = (true, left - 1) := by
  rw [Ty.fault, if_neg (by omega), if_neg (by simp at h1 h2; omega), if_pos (by simpa using h3), if_pos hb]
theorem Ty.fault_con (h : 0 ≤ left - 1 ∧ deep ≤ 200) (h1 : (k == 1) = false) (h2 : (k == 2) = false) (h3 : (k == 3) = true) (hd : d = 0) (hb : n.toList.isEmpty = false) : (Ty.mk k d n ks).fault deep left = Ty.faults ks (deep + 1) (left - 1) := by
  rw [Ty.fault, if_neg (by omega), if_neg (by simp at h1 h2; omega), if_pos (by simpa using h3), if_neg (by simp at hb; simp [hd, hb])]
theorem Ty.fault_else (h : 0 ≤ left - 1 ∧ deep ≤ 200) (h1 : (k == 1) = false) (h2 : (k == 2) = false) (h3 : (k == 3) = false) : (Ty.mk k d n ks).fault deep left = (true, left - 1) := by
  rw [Ty.fault, if_neg (by omega), if_neg (by simp at h1 h2; omega), if_neg (by simpa using h3)]
end
theorem Ty.faults_next {ks : List Ty} {j : Nat} {deep left : Int} (hj : j < ks.length) : Ty.faults (ks.drop j) deep left = if (ks[j].fault deep left).1 = true then (true, (ks[j].fault deep left).2) else Ty.faults (ks.drop (j + 1)) deep (ks[j].fault deep left).2 := by
  rw [List.drop_eq_getElem_cons hj, Ty.faults]

/-- What the world holds while the reference counts down in block C. -/
structure Tl (W0 : World) (left : Int) (w : World) : Prop where
  below : Below W0.heap.size W0 w
  blk : w.heap[W0.heap.size]? = some (.cells #[.int .i64 left] 2 (0, 0))
def Beyond (C : Nat) (w w' : World) : Prop := w.heap.size ≤ w'.heap.size ∧ ∀ k, C < k → k < w.heap.size → w'.heap[k]? = w.heap[k]?
theorem Beyond.refl (C : Nat) (w : World) : Beyond C w w := ⟨Nat.le_refl _, fun _ _ _ => rfl⟩
theorem Beyond.trans {C : Nat} {a b c : World} (h : Beyond C a b) (k : Beyond C b c) : Beyond C a c :=
  ⟨Nat.le_trans h.1 k.1, fun i h1 h2 => (k.2 i h1 (Nat.lt_of_lt_of_le h2 h.1)).trans (h.2 i h1 h2)⟩
theorem cell_lt {w : World} {p : Addr} {v : Value} (h : w.cell? p = some v) : p.block < w.heap.size := by
  apply Classical.byContradiction
  intro hn
  have : w.heap[p.block]? = none := Array.getElem?_eq_none (by omega)
  simp [World.cell?, this] at h
theorem cell_below {w w1 : World} {p : Addr} {v : Value} (hb : Below w.heap.size w w1) (h : w.cell? p = some v) : w1.cell? p = some v := (hb.cell (cell_lt h)).trans h
def SpecTF (x : Ty) : Prop := ∀ (W0 w : World) (cs : List Value) (deep left : Int), Rd W0 x.enc cs → Tl W0 left w → 0 ≤ left → left ≤ 20000 → 0 ≤ deep → deep ≤ 201 →
  Calls Try.prog 104 #[.agg cs.toArray, .int .i64 deep, .pointer (some ⟨W0.heap.size, 0, none⟩)] w fun e w' =>
    e = .returned (.bool (x.fault deep left).1) ∧ Tl W0 (x.fault deep left).2 w' ∧ Beyond W0.heap.size w w'

set_option maxRecDepth 100000 in
theorem SpecTF_of (k d : Int) (n : ByteArray) (ks : List Ty) (hn : ks.length ≤ 140737488351232) (ih : ∀ x ∈ ks, SpecTF x) : SpecTF (.mk k d n ks) := by
  intro W0 w cs deep left h tl h0 h1 h2 h3
  obtain ⟨A, c, rfl, _, _, h4⟩ := Ty.open_ h
  have IH := Lib.hid ih
  have hlt := blk_lt tl.blk
  have hw1 : Below w.heap.size w (w.alloc (.cells #[.int .i64 k, .int .i64 d, .string n, .slice A ks.length c] 30)) := (Below.refl _ _).alloc (Nat.le_refl _) _
  have c0 := blk_cell (blk_below tl.blk hw1) 0
  have y0 := blk_frozen (blk_below tl.blk hw1) 0
  have hw2 : Below W0.heap.size w (w.setCell ⟨W0.heap.size, 0, none⟩ (.int .i64 (left - 1))) := Below.setCell (Below.refl _ _) (p := ⟨W0.heap.size, 0, none⟩) (Nat.le_refl _) _
  have S1 := Lib.hid (blk_old (blk_set tl.blk 0 (.int .i64 (left - 1))) (.cells #[.int .i64 k, .int .i64 d, .string n, .slice A ks.length c] 30))
  have S2 := Lib.hid (blk_new (w.setCell ⟨W0.heap.size, 0, none⟩ (.int .i64 (left - 1))) (.cells #[.int .i64 k, .int .i64 d, .string n, .slice A ks.length c] 30))
  have c1 := blk_cell S1.out 0
  have z0 := blk_cell S2.out 0
  have z1 := blk_cell S2.out 1
  have z2 := blk_cell S2.out 2
  have z3 := blk_cell S2.out 3
  simp at c0 y0 c1
  simp only [sz_setCell] at z0 z1 z2 z3
  simp only [List.getElem?_toArray, List.getElem?_cons_zero, List.getElem?_cons_succ] at z0 z1 z2 z3
  have TL1 : Hid (Tl W0 (left - 1) ((w.setCell ⟨W0.heap.size, 0, none⟩ (.int .i64 (left - 1))).alloc (.cells #[.int .i64 k, .int .i64 d, .string n, .slice A ks.length c] 30))) := ⟨(tl.below.trans hw2).alloc (by rw [sz_setCell]; omega) _, S1.out⟩
  have BY1 : Hid (Beyond W0.heap.size w ((w.setCell ⟨W0.heap.size, 0, none⟩ (.int .i64 (left - 1))).alloc (.cells #[.int .i64 k, .int .i64 d, .string n, .slice A ks.length c] 30))) := ⟨by simp [sz_setCell], fun k h1 h2 => (Below.heap_alloc _ _ k (by rw [sz_setCell]; exact h2)).trans (Below.heap_setCell _ _ _ k (by simp; omega))⟩
  clear ih h hw1 hw2
  go_enter Try.func104, Try.ntmps104
  go_wp2_with fail
  all_goals try (have hd : d = 0 := by assumption)
  all_goals try subst hd
  all_goals try (
    go_ret
    first
    | (rw [Ty.fault_bad (.inl (by omega))]; exact ⟨rfl, TL1.out, BY1.out⟩)
    | (rw [Ty.fault_bad (by assumption)]; exact ⟨rfl, TL1.out, BY1.out⟩)
    | (rw [Ty.fault_var (by assumption) (.inl (by assumption))]; refine ⟨ret_bool ?_, TL1.out, BY1.out⟩; simp [*]; done)
    | (rw [Ty.fault_var (by assumption) (.inr (by assumption))]; refine ⟨ret_bool ?_, TL1.out, BY1.out⟩; simp [*]; done)
    | (rw [Ty.fault_else (by assumption) (by assumption) (by assumption) (by assumption)]; exact ⟨rfl, TL1.out, BY1.out⟩)
    | (rw [Ty.fault_con_bad (by assumption) (by assumption) (by assumption) (by assumption) (.inl (by assumption))]; exact ⟨rfl, TL1.out, BY1.out⟩)
    | (rw [Ty.fault_con_bad (by assumption) (by assumption) (by assumption) (by assumption) (.inr (by have hz : n.toList.isEmpty = true := (by assumption); simpa using hz))]; exact ⟨rfl, TL1.out, BY1.out⟩))
  have F := Lib.hid (Ty.fault_con (ks := ks) (deep := deep) (left := left) (d := 0) (n := n) (by assumption) (by assumption) (by assumption) (by assumption) rfl (by assumption))
  have hdeep : deep ≤ 200 := by omega
  have hleft : 1 ≤ left := by assumption
  generalize hW : (w.setCell ⟨W0.heap.size, 0, none⟩ (.int .i64 (left - 1))).alloc (.cells #[.int .i64 k, .int .i64 0, .string n, .slice A ks.length c] 30) = W at *
  have hWs : w.heap.size < W.heap.size := by rw [← hW]; simp [sz_setCell]
  have hbx : W.heap[w.heap.size]? = some (.cells #[.int .i64 k, .int .i64 0, .string n, .slice A ks.length c] 30) := by rw [← hW]; exact (by simpa [sz_setCell] using blk_new (w.setCell ⟨W0.heap.size, 0, none⟩ (.int .i64 (left - 1))) (.cells #[.int .i64 k, .int .i64 0, .string n, .slice A ks.length c] 30))
  have HBX := Lib.hid hbx
  have H4 := Lib.hid h4
  clear hW S1 S2 c0 c1 y0 z0 z1 z2 z3 hbx h4
  have hz : n.toList.isEmpty = false := (by assumption)
  rw [hz]
  go_loopw [7] (fun i wr => ∃ j : Nat, j ≤ ks.length ∧ i = .int .i64 j ∧ Hid (∃ l : Int, Tl W0 l wr ∧ Beyond W0.heap.size W wr ∧ 0 ≤ l ∧ l ≤ 20000 ∧ Hid (Ty.faults ks (deep + 1) (left - 1) = Ty.faults (ks.drop j) (deep + 1) l))) (fun i _ => ks.length - (intOf i).toNat)
  case atStart => exact ⟨0, Nat.zero_le _, rfl, Lib.hid ⟨left - 1, TL1.out, Beyond.refl _ _, by omega, by omega, rfl⟩⟩
  case round =>
    obtain ⟨j, hj, rfl, hrel⟩ := hrel
    obtain ⟨l, tlr, byr, hl0, hl1, hf⟩ := hrel.out
    have hbr : wr.heap[w.heap.size]? = some (.cells #[.int .i64 k, .int .i64 0, .string n, .slice A ks.length c] 30) := (byr.2 _ hlt hWs).trans HBX.out
    have z3 := blk_cell hbr 3
    simp at z3
    by_cases hlt' : j < ks.length
    · obtain ⟨b, off, es, rfl, hcl, hrd, hc⟩ := H4.out.get (i := j) (x := ks[j].enc) (by simp [Ty.encs_map, List.getElem?_eq_getElem hlt'])
      obtain ⟨u0, u1, u2, u3, rfl⟩ := cells4 (hcl.trans rfl)
      have e0 : wr.cell? ⟨b, off + j * 4, none⟩ = some u0 := cell_below tlr.below (hc 0 _ rfl)
      have e1 : wr.cell? ⟨b, off + j * 4 + 1, none⟩ = some u1 := cell_below tlr.below (hc 1 _ rfl)
      have e2 : wr.cell? ⟨b, off + j * 4 + 2, none⟩ = some u2 := cell_below tlr.below (hc 2 _ rfl)
      have e3 : wr.cell? ⟨b, off + j * 4 + 3, none⟩ = some u3 := cell_below tlr.below (hc 3 _ rfl)
      have CAL := Lib.hid (IH.out _ (List.getElem_mem hlt') W0 wr _ (deep + 1) l hrd tlr hl0 hl1 (by omega) (by omega))
      have SM := Lib.hid (hf.out.trans (Ty.faults_next hlt'))
      have LF := Lib.hid (Ty.fault_left ks[j] (deep + 1) l)
      have BYR := Lib.hid byr
      clear hrd hcl hc hf byr tlr hbr hrel
      generalize ks[j].fault (deep + 1) l = q at *
      obtain ⟨q, l'⟩ := q
      cases q with
      | false =>
        go_wp2_with fail
        refine CAL.out.mono ?_
        rintro e w1 ⟨rfl, tl1, by1⟩
        have TL2 := Lib.hid tl1
        have BY2 := Lib.hid (BYR.out.trans by1)
        clear tl1 by1 CAL
        go_wp2
        go_roundw
        case rel => exact ⟨j + 1, by omega, by go_num, Lib.hid ⟨l', TL2.out, BY2.out, (LF.out trivial).1, Int.le_trans (LF.out trivial).2 hl1, SM.out⟩⟩
        case measure => simp [intOf]; omega
      | true =>
        go_wp2_with fail
        refine CAL.out.mono ?_
        rintro e w1 ⟨rfl, tl1, by1⟩
        have TL2 := Lib.hid tl1
        have BY2 := Lib.hid (BYR.out.trans by1)
        clear tl1 by1 CAL
        go_wp2
        go_ret
        rw [F.out, SM.out]
        exact ⟨rfl, TL2.out, BY1.out.trans BY2.out⟩
    · obtain rfl : j = ks.length := by omega
      have TL2 := Lib.hid tlr
      have BY2 := Lib.hid byr
      have SM := Lib.hid hf
      clear tlr byr hf hrel
      go_wp2
      go_ret
      have h1 := SM.out.out
      rw [List.drop_length, Ty.faults] at h1
      rw [F.out, h1]
      exact ⟨rfl, TL2.out, BY1.out.trans BY2.out⟩

theorem SpecTF_all : ∀ (x : Ty), x.ok → SpecTF x :=
  Ty.induct fun k d n ks ih h => by
    simp only [Ty.ok] at h
    exact SpecTF_of k d n ks h.2.2.2.1 fun x hx => ih x hx (Ty.oks_mem h.2.2.2.2 x hx)

end Go.Proofs.Ytbbpkjcmbakfeaa
