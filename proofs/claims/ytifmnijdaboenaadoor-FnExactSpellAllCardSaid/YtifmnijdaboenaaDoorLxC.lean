/- The reference's lexer: comments; tokens put; no condition. -/
import Derived.Test.YtifmnijdaboenaaDoorLxB
import Derived.Deep.RegionLaw
namespace Go.Proofs.YtifmnijdaboenaaDoor
open Go.RowKit
set_option linter.unusedVariables false
set_option linter.unusedSimpArgs false

def nestI (t : ByteArray) (a : Nat) : Int := match nestL t a 0 with | none => -1 | some e => (e : Int) - a
theorem two_le {t : ByteArray} {j : Nat} {x y : Int} (h : two t j x y = true) : j + 2 ≤ t.size := by simp [two] at h; omega
set_option maxRecDepth 100000 in
set_option maxHeartbeats 2000000 in
theorem specNested (t : ByteArray) (ht : t.size ≤ 1048576) (B a : Nat) (ha : a ≤ t.size) (w : World) (h0 : w.cell? ⟨B, 0, none⟩ = some (.string t)) (h1 : w.cell? ⟨B, 1, none⟩ = some (.int .i64 a)) :
    Calls Tryd.prog 36 #[.pointer (some ⟨B, 0, none⟩)] w fun e w' => e = .returned (.int .i64 (nestI t a)) ∧ w' = w := by
  go_enter Tryd.func36, Tryd.ntmps36
  go_wp2
  go_loop [3, 4] (fun d i => ∃ (j : Nat) (k : Int), d = .int .i64 k ∧ i = .int .i64 j ∧ j ≤ t.size ∧ a ≤ j ∧ -(j : Int) ≤ k ∧ k ≤ j ∧ Hid (nestL t j k = nestL t a 0)) (fun _ i => t.size - (intOf i).toNat)
  case atStart => exact ⟨a, 0, rfl, rfl, ha, Nat.le_refl _, by omega, by omega, Lib.hid rfl⟩
  case round =>
    obtain ⟨j, k, rfl, rfl, hj, haj, k0, k1, hn⟩ := hrel
    by_cases hlt : j < t.size
    · have CT := fun (x y : UInt8) => Lib.hid (specTwo t ht B j (by omega) x y w h0)
      have w1 : IntKind.i64.wrap (k + 1) = k + 1 := i64_in (by omega) (by omega)
      have w2 : IntKind.i64.wrap (k - 1) = k - 1 := i64_in (by omega) (by omega)
      have w3 : IntKind.i64.wrap ((j : Int) + 2) = (j : Int) + 2 := i64_in (by omega) (by omega)
      have w4 : IntKind.i64.wrap ((j : Int) + 1) = (j : Int) + 1 := i64_in (by omega) (by omega)
      have w5 : IntKind.i64.wrap ((j : Int) + 2 - a) = (j : Int) + 2 - a := i64_in (by omega) (by omega)
      have hu := hn.out
      rw [nestL, dif_pos hlt] at hu
      have HU := Lib.hid hu
      clear hu
      go_wp2_with fail
      refine (CT 123 45).out.mono ?_
      rintro e w' ⟨rfl, rfl⟩
      cases e1 : two t j 123 45
      · have e1' : two t j ((123 : UInt8).toNat : Int) ((45 : UInt8).toNat : Int) = false := e1
        rw [e1']
        go_wp2_with fail
        refine (CT 45 125).out.mono ?_
        rintro e w' ⟨rfl, rfl⟩
        cases e2 : two t j 45 125
        · have e2' : two t j ((45 : UInt8).toNat : Int) ((125 : UInt8).toNat : Int) = false := e2
          rw [e2']
          go_wp2_with fail
          go_roundw
          case rel => exact ⟨j + 1, k, rfl, by go_num, by omega, by omega, by omega, by omega, Lib.hid (by have := HU.out; rw [e1, e2] at this; simpa using this)⟩
          case measure => simp [intOf]; omega
        · have e2' : two t j ((45 : UInt8).toNat : Int) ((125 : UInt8).toNat : Int) = true := e2
          have l2 := two_le e2
          rw [e2']
          by_cases hk : k - 1 = 0
          · go_wp2_with fail
            go_ret
            exact ⟨ret_int (by have := HU.out; rw [e1, e2] at this; simp [hk] at this; simp [nestI, ← this]), rfl⟩
          · go_wp2_with fail
            go_roundw
            case rel => exact ⟨j + 2, k - 1, rfl, by go_num, by omega, by omega, by omega, by omega, Lib.hid (by have := HU.out; rw [e1, e2] at this; simpa [hk] using this)⟩
            case measure => simp [intOf]; omega
      · have e1' : two t j ((123 : UInt8).toNat : Int) ((45 : UInt8).toNat : Int) = true := e1
        have l1 := two_le e1
        rw [e1']
        go_wp2_with fail
        go_roundw
        case rel => exact ⟨j + 2, k + 1, rfl, by go_num, by omega, by omega, by omega, by omega, Lib.hid (by have := HU.out; rw [e1] at this; simpa using this)⟩
        case measure => simp [intOf]; omega
    · have hu := hn.out
      rw [nestL, dif_neg hlt] at hu
      have HU := Lib.hid hu
      clear hu hn
      go_wp2
      go_ret
      exact ⟨ret_int (by simp [nestI, ← HU.out]), rfl⟩

theorem infoTok : (Tryd.prog.info? 33).map (fun i => (i.zero, i.size, i.bytes)) = some (some (.agg #[.int .i64 0, .string ⟨#[]⟩, .int .i64 0, .int .i64 0]), 4, 40) := by kernel_rfl
theorem fr_tk (B : Nat) (w : World) (x : Tk) : Fr B w x.d [.int .i64 x.k, .string x.x, .int .i64 x.l, .int .i64 x.c] := by
  unfold Tk.d
  rw [fr_struct]
  exact frF_int (frF_str (frF_int (frF_int (frF_nil _ _))))
theorem lx_push {W0 w w1 : World} {t : ByteArray} {a : Nat} {p : Int × Int} {e : Int × Int × Int} {v v' : Value} {ts ts' : List Tk} (h : Lx W0 t a p e v ts w) (hg : Grow (W0.heap.size + 1) w1 v' 33 4 (ts'.map Tk.d)) (hw : Grew w w1 v v') :
    w1.heap[W0.heap.size]? = some (.cells #[.string t, .int .i64 a, .int .i64 p.1, .int .i64 p.2, .int .i64 e.1, .int .i64 e.2.1, .int .i64 e.2.2, v] 45 (0, 0)) ∧ Lx W0 t a p e v' ts' (w1.setCell ⟨W0.heap.size, 7, none⟩ v') := by
  have hne : some W0.heap.size ≠ v.ownBlock := fun e => by
    have := (h.grow.bound _ e.symm).1
    omega
  have h1 := hw.blk h.blk hne
  refine ⟨h1, (hw.below h.below (by have := h.size; omega) (fun q hq => by have := (h.grow.bound q hq).1; omega)).setCell (Nat.le_refl _) _, (blk_set h1 7 v').trans rfl, hg.grown grownBy_set (fun q hq => by injection hq with hq; subst hq; show W0.heap.size < W0.heap.size + 1; omega)⟩

set_option maxRecDepth 100000 in
set_option maxHeartbeats 4000000 in
theorem specPut (W0 : World) (t : ByteArray) (ht : t.size ≤ 1048576) (a n : Nat) (p : Int × Int) (e : Int × Int × Int) (v : Value) (ts : List Tk) (k : Int) (x : ByteArray) (w : World) (h : Lx W0 t a p e v ts w) (hn : a + n ≤ t.size) (hts : ts.length ≤ a) (p0 : 0 ≤ p.1) (p1 : p.1 ≤ 4000000) (p2 : 0 ≤ p.2) (p3 : p.2 ≤ 4000000) :
    Calls Tryd.prog 42 #[.pointer (some ⟨W0.heap.size, 0, none⟩), .int .i64 k, .string x, .int .i64 n] w fun z w' => z = .returned (.tuple #[]) ∧ ∃ v', Lx W0 t (a + n) (advL t a n p) e v' (ts ++ [⟨k, x, p.1, p.2⟩]) w' := by
  have HD := Lib.hid (h.mv (Below.refl _ _).drew)
  have HB := Lib.hid ((Below.refl w.heap.size w).drew.alloc (Nat.le_refl _) (.cells #[.int .i64 k, .string x, .int .i64 p.1, .int .i64 p.2] 33))
  have HA := Lib.hid (h.mv HB.out)
  have H := Lib.hid h
  have z2 := HD.out.c2
  have z3 := HD.out.c3
  have z7 := HD.out.c7
  have y2 := HA.out.c2
  have y3 := HA.out.c3
  have y7 : ((w.alloc (.cells #[.int .i64 k, .string x, .int .i64 p.1, .int .i64 p.2] 33)).drew).cell? ⟨W0.heap.size, 7, none⟩ = some v := HA.out.c7
  have y7' : (w.alloc (.cells #[.int .i64 k, .string x, .int .i64 p.1, .int .i64 p.2] 33)).cell? ⟨W0.heap.size, 7, none⟩ = some v := HA.out.c7
  have LN := Lib.hid (show (ts.map Tk.d).length = ts.length by simp)
  have CA := Lib.hid (cellsAt_new w.drew [.int .i64 k, .string x, .int .i64 p.1, .int .i64 p.2] 33)
  have hsz : (w.drew).heap.size = w.heap.size := rfl
  obtain ⟨i0, hi, hz0, hz1, hz2⟩ := info_parts infoTok
  clear h
  go_enter Tryd.func42, Tryd.ntmps42
  go_wp2_with fail
  (go_region_law (refine step_push rfl _ _ 22 rfl (W0.heap.size + 1) 33 i0 (.agg #[.int .i64 0, .string ⟨#[]⟩, .int .i64 0, .int .i64 0]) 4 40 Tryd.underlying22 hi hz0 hz1 hz2 rfl (by decide) v (ts.map Tk.d) rfl H.out.grow HB.out (Tk.d ⟨k, x, p.1, p.2⟩) [.int .i64 k, .string x, .int .i64 p.1, .int .i64 p.2] (fr_tk _ _ ⟨k, x, p.1, p.2⟩) rfl w.heap.size 1 rfl CA.out (by rw [LN.out]; omega) (by rw [LN.out]; omega) H.out.size ?_; intro v' w2 hg' hgr' _; obtain ⟨A', c', hv', _, _, _⟩ := hg'.form; generalize (List.map Tk.d ts ++ [Tk.d ⟨k, x, p.1, p.2⟩]).length = L' at hv'; have B1 := Lib.hid (lx_push (ts' := ts ++ [⟨k, x, p.1, p.2⟩]) HA.out (by simpa using hg') hgr'); have x7 : World.cell? _ ⟨W0.heap.size, 7, none⟩ = some v := (blk_cell B1.out.1 7).trans rfl; have xf : World.frozen? _ ⟨W0.heap.size, 7, none⟩ = false := blk_frozen B1.out.1 7; clear hg' hgr'; subst hv'))
  all_goals
    go_wp2_with fail
    refine (specSkip W0 t ht a n p e _ _ _ B1.out.2 hn p0 p1 p2 p3).mono ?_
    rintro z w3 ⟨rfl, h3⟩
    go_wp2
    go_end0
    exact ⟨rfl, _, h3⟩

end Go.Proofs.YtifmnijdaboenaaDoor
