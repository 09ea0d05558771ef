/- The reference's shape of a core term: cases; the shape of every kind; no condition. -/
import Derived.Test.YthidbmjdphfddaaCfS3
namespace Go.Proofs.Ythidbmjdphfddaa
open Go.RowKit
set_option linter.unusedVariables false
set_option linter.unusedSimpArgs false

theorem grow_made {B : Nat} (w : World) (e sz : Nat) (hB : B ≤ w.heap.size) : Grow B (w.alloc (.cells #[] e)) (.slice (some ⟨w.heap.size, 0, none⟩) 0 0) e sz [] := by
  refine ⟨[], [], World.ownsRow_made w #[] 0 hB (Nat.zero_le _) (by simp), by simp [D.Fields], by simp, by simp [Value.ownBlock], fun k hk => ?_⟩
  obtain rfl : k = w.heap.size := by simpa [Value.ownBlock] using hk
  exact ⟨hB, #[], e, heap_alloc_new w _⟩
theorem infoStr : (Try.prog.info? 9).map (fun i => (i.zero, i.size, i.bytes)) = some (some (.string ⟨#[]⟩), 1, 16) := by kernel_rfl
theorem below_alloc1 (w : World) (o : Obj) : Below w.heap.size w (w.alloc o) := (Below.refl _ _).alloc (Nat.le_refl _) _
theorem strs_snoc (l : List ByteArray) (x : ByteArray) : strs (l ++ [x]) = strs l ++ [.str x] := by simp [strs]
def altF (qs : List Ca) : Bool := qs.all fun a => !a.con.toList.isEmpty && okNames a.names
theorem altF_step {qs : List Ca} {j : Nat} (hj : j < qs.length) : altF (qs.drop j) = ((!qs[j].con.toList.isEmpty && okNames qs[j].names) && altF (qs.drop (j + 1))) := by
  rw [List.drop_eq_getElem_cons hj, altF, List.all_cons]; rfl
theorem altsOk_eq (qs : List Ca) : altsOk qs = (altF qs && !dupF [] (qs.map Ca.con)) := by
  have : altF qs = ((qs.all fun a => okNames a.names) && fullN (qs.map Ca.con)) := by
    induction qs with
    | nil => rfl
    | cons a qs ih =>
      have h1 : altF (a :: qs) = ((!a.con.toList.isEmpty && okNames a.names) && altF qs) := rfl
      rw [h1, ih]
      simp only [List.all_cons, List.map_cons, fullN]
      cases a.con.toList.isEmpty <;> cases okNames a.names <;> simp
  rw [altsOk, okNames, this, Bool.and_assoc]
theorem con_take {qs : List Ca} {j : Nat} (hj : j < qs.length) : (qs.take (j + 1)).map Ca.con = (qs.take j).map Ca.con ++ [qs[j].con] := by
  rw [List.take_succ_eq_append_getElem hj, List.map_append, List.map_cons, List.map_nil]

/-- What the world holds while the alternatives' constructors are gathered. -/
structure Gath (w : World) (qs : List Ca) (j : Nat) (g : Nat) (o : Obj) (v : Value) (wr : World) : Prop where
  all : altF qs = altF (qs.drop j)
  row : Grow (w.heap.size + 1) wr v 9 1 (strs ((qs.take j).map Ca.con))
  below : Below w.heap.size w wr
  blk : wr.heap[w.heap.size]? = some o

set_option maxRecDepth 100000 in
set_option maxHeartbeats 1000000 in
theorem shapeK8a (n : ByteArray) (m : Bool) (l : List Int) (ns : List ByteArray) (qs : List Ca) (w : World) (AL AN AK AA : Option Addr) (cL cN cK cA : Nat) (c : Nat) (hl : l.length = 0) (hb : ns.length = 0) (hq : qs.length ≤ 1048576) (ha : ∀ a ∈ qs, a.names.length ≤ 140737488351232) (h : Rd w (.slice 9 (Ca.encs qs)) [.slice AA qs.length cA])
    (hc : c = 2 ∨ (c = 1 ∧ 0 < qs.length)) :
    Calls Try.prog 153 #[.agg #[.int .i64 8, .string n, .bool false, .slice AL 0 cL, .slice AN 0 cN, .slice AK c cK, .slice AA qs.length cA]] w (Says (fitP 8 n false l ns c qs) w) := by
  have FIT : Hid (fitP 8 n false l ns c qs ↔ altsOk qs = true) := by
    show _ ↔ _
    constructor
    · rintro ⟨_, _, _, h⟩
      rcases h with h | h | h | h | h | h | h | ⟨_, _, _, _, h⟩ | h | h
      all_goals first | exact h | exact absurd h.1 (by decide)
    · intro h
      exact ⟨fun _ => ⟨rfl, hl⟩, fun h => absurd rfl h, fun _ _ => hb, .inr (.inr (.inr (.inr (.inr (.inr (.inr (.inl ⟨rfl, by omega, by omega, by omega, h⟩)))))))⟩
  obtain ⟨A', c', e, _, _, hr⟩ := rd_slice h
  rw [Ca.encs_length] at e
  simp only [List.cons.injEq, Value.slice.injEq, and_true, true_and] at e
  obtain ⟨rfl, rfl⟩ := e
  have RA := Lib.hid hr
  have B1 := Lib.hid (below_alloc1 w (.cells #[.int .i64 8, .string n, .bool false, .slice AL 0 cL, .slice AN 0 cN, .slice AK c cK, .slice AA qs.length cA] 36))
  have BK := Lib.hid (blk_new w (.cells #[.int .i64 8, .string n, .bool false, .slice AL 0 cL, .slice AN 0 cN, .slice AK c cK, .slice AA qs.length cA] 36))
  have SZ : Hid ((w.alloc (.cells #[.int .i64 8, .string n, .bool false, .slice AL 0 cL, .slice AN 0 cN, .slice AK c cK, .slice AA qs.length cA] 36)).heap.size = w.heap.size + 1) := by simp [Hid]
  have HA := Lib.hid ha
  have HC := Lib.hid hc
  have START : Hid (∀ W, W = w.alloc (.cells #[.int .i64 8, .string n, .bool false, .slice AL 0 cL, .slice AN 0 cN, .slice AK c cK, .slice AA qs.length cA] 36) → Gath w qs 0 w.heap.size (.cells #[.int .i64 8, .string n, .bool false, .slice AL 0 cL, .slice AN 0 cN, .slice AK c cK, .slice AA qs.length cA] 36) (.slice (some ⟨w.heap.size + 1, 0, none⟩) 0 0) (W.alloc (.cells #[] 9))) := by
    rintro _ rfl
    have hg := grow_made (B := w.heap.size + 1) _ 9 1 (Nat.le_of_eq SZ.out.symm)
    rw [SZ.out] at hg
    exact ⟨by simp, by simpa [strs] using hg, B1.out.alloc (by rw [SZ.out]; omega) _, blk_old BK.out _⟩
  clear h hl hb ha hr hc
  have c1 : ¬ (c : Int) < 1 := by have := HC.out; omega
  have c2 : ¬ (2 : Int) < (c : Int) := by have := HC.out; omega
  cases h2 : ((c : Int) == 1)
  all_goals try (have hq0 : ((qs.length : Int) == 0) = false := (by rw [beq_iff_eq] at h2; rw [beq_eq_false_iff_ne]; have := HC.out; omega))
  all_goals clear HC
  all_goals (
    go_enter Try.func153, Try.ntmps153
    go_wp2_with fail
    have ST := Lib.hid (START.out _ rfl)
    generalize hW : w.alloc (.cells #[.int .i64 8, .string n, .bool false, .slice AL 0 cL, .slice AN 0 cN, .slice AK c cK, .slice AA qs.length cA] 36) = W at *
    have SZ2 := Lib.hid SZ.out
    clear hW START BK B1 SZ)
  all_goals (
    go_loopw [6, 7] (fun v i wr => ∃ j : Nat, j ≤ qs.length ∧ i = .int .i64 j ∧ Hid (Gath w qs j w.heap.size (.cells #[.int .i64 8, .string n, .bool false, .slice AL 0 cL, .slice AN 0 cN, .slice AK c cK, .slice AA qs.length cA] 36) v wr)) (fun _ i _ => qs.length - (intOf i).toNat)
    case atStart => exact ⟨0, Nat.zero_le _, rfl, ST⟩
    case round =>
      obtain ⟨j, hj, rfl, hrel⟩ := hrel
      have G := Lib.hid hrel.out
      have z5 : World.cell? wr ⟨w.heap.size, 6, none⟩ = some (.slice AA qs.length cA) := (blk_cell G.out.blk 6).trans rfl
      clear hrel ST
      by_cases hlt : j < qs.length
      · obtain ⟨b, off, es, rfl, hcl, hrd, hc⟩ := (RdRow.below RA.out (by omega) G.out.below).get (i := j) (x := qs[j].enc) (by simp [Ca.encs_map, List.getElem?_eq_getElem hlt])
        obtain ⟨nv, bs, rfl, hbl, hnv, _⟩ := Ca.openB hrd
        have e0 : wr.cell? ⟨b, off + j * 9, none⟩ = some (.string qs[j].con) := by simpa using hc 0 _ rfl
        have e1 : wr.cell? ⟨b, off + j * 9 + 1, none⟩ = some nv := hc 1 _ rfl
        obtain ⟨An, cn, rfl, _, _, _⟩ := open_strs hnv
        have CT := Lib.hid (specNamesOk qs[j].names (HA.out _ (List.getElem_mem hlt)) wr _ hnv)
        have AS := Lib.hid (altF_step hlt)
        have TK := Lib.hid (con_take hlt)
        have E0 := Lib.hid e0
        clear hrd hc hcl hbl hnv
        generalize qs[j].con = x at *
        generalize okNames qs[j].names = g at *
        generalize qs[j].names = nms at *
        have i0 : (0 : Int) ≤ (j : Int) := Int.natCast_nonneg _
        have i1 : (j : Int) < (qs.length : Int) := by omega
        cases hx : x.toList.isEmpty
        · have HX := Lib.hid hx
          go_wp2_with fail
          refine CT.out.mono ?_
          rintro e w1 ⟨rfl, hb⟩
          have HB := Lib.hid hb
          have B2 := Lib.hid (G.out.below.trans (hb.mono G.out.below.size))
          clear hb CT
          cases g
          · go_wp2_with fail
            go_ret
            refine says_of ?_ B2.out
            rw [FIT.out, altsOk_eq, G.out.all, AS.out]
            simp
          · have z6 : World.cell? w1 ⟨w.heap.size, 6, none⟩ = some (.slice (some ⟨b, off, none⟩) qs.length cA) := (blk_cell (blk_below G.out.blk HB.out) 6).trans rfl
            have f0 : w1.cell? ⟨b, off + j * 9, none⟩ = some (.string x) := cell_below HB.out E0.out
            obtain ⟨i0', hi, hz0, hz1, hz2⟩ := info_parts infoStr
            have ALB := Lib.hid (below_alloc1 w1 (.cells #[.string x] 9))
            have CA : Hid (CellsAt (w1.alloc (.cells #[.string x] 9)) w1.heap.size 0 [.string x]) := cellsAt_new w1 [.string x] 9
            have GR := Lib.hid (G.out.row.below HB.out)
            have LE : Hid ((strs ((qs.take j).map Ca.con)).length ≤ 1048576) := by show _ ≤ _; rw [strs_length, List.length_map]; exact Nat.le_trans (List.length_take_le _ _) (by omega)
            have BW : Hid (w.heap.size + 1 ≤ w1.heap.size) := Nat.lt_of_lt_of_le (blk_lt G.out.blk) HB.out.size
            go_wp2_with (at_builtin; refine wpl_push rfl _ _ 25 rfl (w.heap.size + 1) 9 i0' (.string ⟨#[]⟩) 1 16 Try.underlying25 hi hz0 hz1 hz2 rfl (by decide) _ _ rfl GR.out ALB.out (.str x) [.string x] (fr_str _ _ _) rfl w1.heap.size 1 rfl CA.out (by have := LE.out; omega) (by have := LE.out; omega) BW.out ?_; intro v' w2 hg' hgr' _)
            have HG2 := Lib.hid hg'
            have GR2 := Lib.hid hgr'
            clear hg' hgr'
            go_wp2
            go_roundw
            case rel =>
              refine ⟨j + 1, by omega, by go_num, Lib.hid ⟨?_, ?_, ?_, ?_⟩⟩
              · rw [G.out.all, AS.out]; have := HX.out; rw [this]; rfl
              · rw [TK.out, strs_snoc]; exact HG2.out
              · exact GR2.out.below (B2.out.trans (ALB.out.mono B2.out.size)) (Nat.le_trans B2.out.size ALB.out.size) (fun q hq => by have := (GR.out.bound q hq).1; omega)
              · refine GR2.out.blk (blk_old (blk_below G.out.blk HB.out) _) fun hk => ?_
                have := (GR.out.bound _ hk.symm).1
                omega
            case measure => simp [intOf]; omega
        · have HX := Lib.hid hx
          go_wp2_with fail
          go_ret
          refine says_of ?_ G.out.below
          rw [FIT.out, altsOk_eq, G.out.all, AS.out]
          have := HX.out
          rw [this]
          simp
      · obtain rfl : j = qs.length := by omega
        have hfr := G.out.row.fr.rd
        have ha := G.out.all
        rw [List.drop_length] at ha
        rw [List.take_length] at hfr
        have AL1 := Lib.hid ha
        obtain ⟨A2, c2, rfl, _, _, _⟩ := open_strs hfr
        rw [List.length_map] at hfr
        have CT := Lib.hid (specTwice (qs.map Ca.con) (by rw [List.length_map]; omega) wr _ hfr)
        clear ha hfr
        go_wp2_with fail
        refine CT.out.mono ?_
        rintro e w1 ⟨rfl, hb⟩
        have B2 := Lib.hid (G.out.below.trans (hb.mono G.out.below.size))
        clear hb CT
        go_wp2
        go_ret
        refine says_of ?_ B2.out
        rw [FIT.out, altsOk_eq, AL1.out]
        simp [altF])
end Go.Proofs.Ythidbmjdphfddaa
