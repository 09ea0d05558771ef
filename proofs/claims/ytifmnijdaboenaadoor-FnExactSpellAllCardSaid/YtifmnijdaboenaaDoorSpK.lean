/- The program's 'SpellAll' walked; one condition: the library's table of blanks holds what its text lays. -/
import Derived.Test.YtifmnijdaboenaaDoorSpJ
import Derived.Test.YtifmnijdaboenaaDoorSpD
import Derived.Shelf.Strings.OnBuilder
namespace Go.Proofs.YtifmnijdaboenaaDoor
open Go Go.RowKit
set_option linter.unusedVariables false
set_option linter.unusedSimpArgs false
set_option linter.unnecessarySimpa false

theorem spAll_len : ∀ (l : List (Int × ByteArray)) (out : List UInt8), (spAll out l).length ≤ out.length + l.length * 120004
  | [], out => by rw [spAll]; exact Nat.le_add_right _ _
  | p :: ps, out => by
    cases h : tfR p.1 p.2
    · have h2 := spR_len h
      by_cases h0 : out.length = 0
      · rw [spAll_first h h0]
        refine Nat.le_trans (spAll_len ps _) ?_
        rw [List.length_append, List.length_cons, Nat.add_mul]
        omega
      · rw [spAll_more h (by omega)]
        refine Nat.le_trans (spAll_len ps _) ?_
        show _ ≤ out.length + (ps.length + 1) * 120004
        rw [List.length_append, List.length_append, Nat.add_mul]
        simp only [List.length_cons, List.length_nil]
        omega
    · rw [spAll_bad h]
      refine Nat.le_trans (spAll_len ps _) ?_
      rw [List.length_cons, Nat.add_mul]
      omega
def sCells (l : List ByteArray) : List Value := l.map Value.string
theorem sCells_len (l : List ByteArray) : (sCells l).length = l.length := by simp [sCells]
/-- Texts in an own row. -/
structure Tx (w0 w : World) (v : Value) (l : List ByteArray) : Prop where
  below : Below w0.heap.size w0 w
  row : w.ownsRow w0.heap.size 9 1 v l.length (sCells l)
theorem Tx.mv {w0 w w1 : World} {v : Value} {l : List ByteArray} (h : Tx w0 w v l) (hb : Below w.heap.size w w1) : Tx w0 w1 v l :=
  ⟨h.below.trans (hb.mono h.below.size), h.row.kept (grownBy_below hb none) (by cases v.ownBlock <;> simp)⟩
theorem Tx.form {w0 w : World} {v : Value} {l : List ByteArray} (h : Tx w0 w v l) : ∃ A c, v = .slice A l.length c := by
  rcases h.row.2 with ⟨rfl, h2⟩ | ⟨g, cap, cur, rfl, _⟩
  · exact ⟨none, 0, by rw [h2]⟩
  · exact ⟨_, _, rfl⟩
theorem infoStr1 : (Tryd.prog.info? 9).map (fun i => (i.zero, i.size, i.bytes)) = some (some (.string ⟨#[]⟩), 1, 16) := by kernel_rfl
theorem wpl_tx {ops : Array Oper} {rest : List Oper} {o : Oper} {a : Act} {w0 w : World} {Q : Exit → Act → World → Prop} (hgd : o.guard = none) (s x : Operand)
    (ho : o.op = .call { callee := .builtin .append, args := #[s, x], argTypes := #[55, 55] })
    (v : Value) (l : List ByteArray) (hs : a.eval s = v) (hv : Tx w0 w v l) (y : ByteArray) (c : Nat)
    (hx : a.eval x = .slice (some ⟨w.heap.size, 0, none⟩) 1 c) (hlen : l.length ≤ 1048576)
    (h : ∀ v' w', Tx w0 w' v' (l ++ [y]) → wpList Tryd.prog ops Q rest (a.put o.dst v') w') :
    wpList Tryd.prog ops Q (o :: rest) a (w.alloc (.cells #[.string y] 9)) := by
  have hBw : w0.heap.size ≤ w.heap.size := hv.below.size
  have hb : Below w.heap.size w (w.alloc (.cells #[.string y] 9)) := below_alloc1 _ _
  have hrow := hv.row.kept (grownBy_below hb none) (by cases v.ownBlock <;> simp)
  obtain ⟨i0, hi, hz0, hz1, hz2⟩ := info_parts infoStr1
  have hnews : ∀ j u, ([.string y] : List Value)[j]? = some u → (w.alloc (.cells #[.string y] 9)).cell? ((⟨w.heap.size, 0, none⟩ : Addr).add j) = some u := fun j u hu => by
    have := cellsAt_new w [.string y] 9 j u hu
    unfold Addr.add
    by_cases hj : j = 0
    · subst hj; simpa using this
    · simpa [hj] using this
  obtain ⟨v', w', hr, q1, q2, q3⟩ := run_append_own (P := Tryd.prog) (w.alloc (.cells #[.string y] 9)) w0.heap.size 55 o.type 9 i0 (.string ⟨#[]⟩) 1 16 Tryd.underlying55 hi hz0 hz1 hz2 rfl (by decide) v l.length (sCells l) hrow ⟨w.heap.size, 0, none⟩ 1 c [.string y] rfl hnews (fun u hu => by
    obtain rfl : u = .string y := by simpa using hu
    rfl) (by simp only [maxLen]; omega) (by omega) (by simp; omega)
  refine wpList_plain hgd fun K hK => ?_
  unfold Oper.wp execOp
  simp only [ho, resolve, invoke, builtin, Sem.run_bind, Sem.run_pure, Result.andThen_ok, List.map_toArray, List.map_cons, List.map_nil, hs, hx, hr]
  refine hK _ _ (h v' w' ⟨?_, ?_⟩)
  · exact (hv.below.alloc hBw _).grown q2 (by simp; omega) fun q hq => (ownsRow_block hv.row hq).1
  · rw [List.length_append]
    have e : sCells (l ++ [y]) = sCells l ++ [.string y] := by simp [sCells]
    rw [e]
    exact q1
/-- Joined with blanks between. -/
theorem tx_join {w0 w : World} {v : Value} {l : List ByteArray} (h : Tx w0 w v l) (hn : l.length ≤ 1048576) (hlen : ([(32 : UInt8)].intercalate (l.map fun x => x.data.toList)).length ≤ 140737488355328) :
    Calls Tryd.prog 32 #[v, .string ⟨#[32]⟩] w fun e w' => e = .returned (.string ⟨([(32 : UInt8)].intercalate (l.map fun x => x.data.toList)).toArray⟩) ∧ Below w.heap.size w w' := by
  rcases h.row.2 with ⟨rfl, h2⟩ | ⟨g, cap, cur, rfl, hB, hg, hnc, hcm, hcs, htake⟩
  · obtain rfl : l = [] := List.eq_nil_of_length_eq_zero h2
    exact (Any.strings_Join_none shlLays_n156 shlExtra none 0 ⟨#[32]⟩ w).mono fun e w' hh => ⟨hh.1, hh.2 ▸ Below.refl _ _⟩
  · exact Any.strings_Join shlLays_n156 shlExtra g 0 cap l ⟨#[32]⟩ w (fun j x hx => by
      have := h.row.cells (g := g) rfl j (.string x) (by simp [sCells, hx])
      rw [Addr.add_mid] at this
      exact this) (blk_lt hg) (by omega) hnc hlen
theorem goodT_take {l : List (Int × ByteArray)} {j : Nat} {p : Int × ByteArray} (h : l[j]? = some p) : goodT (l.take (j + 1)) = goodT (l.take j) ++ (if tfR p.1 p.2 = true then [] else [spR p.1 p.2]) := by
  rw [List.take_add_one, h]
  unfold goodT
  rw [List.filter_append, List.map_append]
  congr 1
  cases ht : tfR p.1 p.2 <;> simp [ht]
theorem goodT_len (l : List (Int × ByteArray)) : (goodT l).length ≤ l.length := by
  unfold goodT
  rw [List.length_map]
  exact List.length_filter_le _ _

set_option maxRecDepth 100000 in
set_option maxHeartbeats 4000000 in
theorem implSpellAll (ts : List Tk) (A : Option Addr) (cap : Nat) (hn : ts.length ≤ 1048576) (hx : ∀ y ∈ ts, y.x.size ≤ 1048576) (w : World) (hT : Tab w) (hr : RdRow w 4 A (ts.map Tk.d)) :
    Calls Tryd.prog 21 #[.slice A ts.length cap] w fun e w' => e = .returned (.string ⟨(spAll [] (ts.map tkP)).toArray⟩) ∧ Below w.heap.size w w' := by
  have T0 : Hid (Tx w (w.alloc (.cells #[] 9)) (.slice (some ⟨w.heap.size, 0, none⟩) 0 0) []) := ⟨below_alloc1 _ _, World.ownsRow_made w #[] 0 (Nat.le_refl _) (Nat.zero_le _) (by simp)⟩
  have HR := Lib.hid hr
  have HX := Lib.hid hx
  have HT := Lib.hid hT
  obtain ⟨R, hR⟩ : ∃ R, R = spAll [] (ts.map tkP) := ⟨_, rfl⟩
  rw [← hR]
  have HLL := Lib.hid (show R.length ≤ 140737488355328 by
    rw [hR]
    refine Nat.le_trans (spAll_len _ _) ?_
    rw [List.length_map]
    show 0 + _ ≤ _
    rw [Nat.zero_add]
    exact Nat.le_trans (Nat.mul_le_mul_right _ hn) (by decide))
  have HRR := Lib.hid (hR.trans (spAll_join _))
  clear hr hx hR hT
  go_enter Tryd.func21, Tryd.ntmps21
  go_wp2_with fail
  go_loopw [3, 9] (fun o i wr => ∃ j : Nat, i = .int .i64 j ∧ j ≤ ts.length ∧ Hid (Tx w wr o (goodT ((ts.map tkP).take j)))) (fun _ i _ => ts.length - (intOf i).toNat)
  case atStart => exact ⟨0, rfl, Nat.zero_le _, T0⟩
  case round =>
    obtain ⟨j, rfl, hj, htx⟩ := hrel
    clear T0
    have HGL := Lib.hid (Nat.le_trans (goodT_len ((ts.map tkP).take j)) (by rw [List.length_take, List.length_map]; exact Nat.le_trans (Nat.min_le_right _ _) hn))
    by_cases hlt : j < ts.length
    · have hwj : IntKind.i64.wrap ((j : Int) + 1) = (j : Int) + 1 := i64_in (by omega) (by omega)
      have HG := Lib.hid (List.getElem?_eq_getElem hlt)
      have HM := Lib.hid (HX.out _ (List.getElem_mem hlt))
      generalize ts[j] = y at *
      have HST := Lib.hid (goodT_take (l := ts.map tkP) (j := j) (p := tkP y) (by rw [List.getElem?_map, HG.out]; rfl))
      generalize goodT ((ts.map tkP).take j) = L at *
      obtain ⟨Ao, co, rfl⟩ := htx.out.form
      obtain ⟨b, off, rfl, q0, q1, q2, q3⟩ := tkrow_parts (HR.out.below (by decide) htx.out.below) HG.out
      have HTW := Lib.hid (HT.out.below htx.out.below)
      have CT := Lib.hid (fun (w1 : World) (hb : Below wr.heap.size wr w1) => implTokenFault y.k y.x y.l y.c HM.out w1 (HTW.out.below hb))
      have CS := Lib.hid (fun (w1 : World) (hb : Below wr.heap.size wr w1) => implSpell y.k y.x y.l y.c HM.out w1 (HTW.out.below hb))
      have BT := Lib.hid (tk_new wr y.k y.x y.l y.c)
      have HB := Lib.hid (below_alloc1 wr (.cells #[.int .i64 y.k, .string y.x, .int .i64 y.l, .int .i64 y.c] 33))
      have z0 := (blk_cell BT.out 0).trans rfl
      have z1 := (blk_cell BT.out 1).trans rfl
      have z2 := (blk_cell BT.out 2).trans rfl
      have z3 := (blk_cell BT.out 3).trans rfl
      cases ht : tfR y.k y.x
      · have HS := Lib.hid (sp_false ht)
        have HQ : Hid (goodT ((ts.map tkP).take (j + 1)) = L ++ [spR y.k y.x]) := by show _ = _; rw [HST.out]; show L ++ (if tfR y.k y.x = true then _ else _) = _; rw [ht]; rfl
        generalize spR y.k y.x = z at *
        go_wp2_with (first | (go_at_call 15; refine (CT.out _ HB.out).mono ?_; rintro e w1 ⟨rfl, hb⟩; have HB := Lib.hid (HB.out.trans (hb.mono HB.out.size)); have BT := Lib.hid (blk_below BT.out hb); clear hb z0 z1 z2 z3 q0 q1 q2 q3; have z0 := (blk_cell BT.out 0).trans rfl; have z1 := (blk_cell BT.out 1).trans rfl; have z2 := (blk_cell BT.out 2).trans rfl; have z3 := (blk_cell BT.out 3).trans rfl; rw [ht]) | (go_at_call 17; refine (CS.out _ HB.out).mono ?_; rintro e w2 ⟨rfl, hb⟩; have HTX := Lib.hid (htx.out.mv (HB.out.trans (hb.mono HB.out.size))); clear hb z0 z1 z2 z3; rw [HS.out]) | (at_builtin; refine wpl_tx rfl _ _ rfl _ L rfl HTX.out z _ rfl HGL.out ?_; intro v' w3 h3; have H3 := Lib.hid h3; clear h3))
        go_roundw
        case rel => exact ⟨j + 1, by go_num, by omega, by rw [HQ.out]; exact H3⟩
        case measure => simp [intOf]; omega
      · have HQ : Hid (goodT ((ts.map tkP).take (j + 1)) = L) := by show _ = _; rw [HST.out]; show L ++ (if tfR y.k y.x = true then _ else _) = _; rw [ht]; simp
        go_wp2_with (go_at_call 15; refine (CT.out _ HB.out).mono ?_; rintro e w1 ⟨rfl, hb⟩; have HTX := Lib.hid (htx.out.mv (HB.out.trans (hb.mono HB.out.size))); clear hb z0 z1 z2 z3 q0 q1 q2 q3; rw [ht])
        go_roundw
        case rel => exact ⟨j + 1, by go_num, by omega, by rw [HQ.out]; exact HTX⟩
        case measure => simp [intOf]; omega
    · have HE : Hid (goodT ((ts.map tkP).take j) = goodT (ts.map tkP)) := by
        show _ = _
        rw [List.take_of_length_le (by rw [List.length_map]; omega)]
      rw [HE.out] at htx HGL
      generalize goodT (ts.map tkP) = L at *
      obtain ⟨Ao, co, rfl⟩ := htx.out.form
      have CJ := Lib.hid (tx_join htx.out HGL.out (by rw [← HRR.out]; exact HLL.out))
      rw [← HRR.out] at CJ
      clear HE
      go_wp2_with (go_at_call 32; refine CJ.out.mono ?_; rintro e w1 ⟨rfl, hb⟩; have HB1 := Lib.hid (htx.out.below.trans (hb.mono htx.out.below.size)); clear hb)
      go_ret
      exact ⟨rfl, HB1.out⟩

end Go.Proofs.YtifmnijdaboenaaDoor
