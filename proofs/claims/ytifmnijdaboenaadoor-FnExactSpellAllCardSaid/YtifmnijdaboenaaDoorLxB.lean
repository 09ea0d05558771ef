/- The reference's lexer in memory: where it stands, what it has put; going over bytes; no condition. -/
import Derived.Test.YtifmnijdaboenaaDoorLxA
import Derived.Test.YtifmnijdaboenaaDoorMp
import Derived.BigRegion
import Derived.BigQuiet
import Derived.Deep.QuietTactic
namespace Go.Proofs.YtifmnijdaboenaaDoor
open Go.RowKit
set_option linter.unusedVariables false
set_option linter.unusedSimpArgs false

theorem ext_two (t : ByteArray) (i : Nat) (h : i + 2 ≤ t.size) : t.extract i (i + 2) = ⟨#[t[i]'(by omega), t[i+1]'(by omega)]⟩ := by
  have hd : t.data.size = t.size := rfl
  apply ByteArray.ext
  rw [ByteArray.data_extract]
  apply Array.ext
  · simp; omega
  · intro k h1 h2
    simp at h2
    rw [Array.getElem_extract]
    match k, h2 with
    | 0, _ => rfl
    | 1, _ => rfl
theorem ext_one (t : ByteArray) (i : Nat) (h : i < t.size) : t.extract i (i + 1) = ⟨#[t[i]'h]⟩ := by
  have hd : t.data.size = t.size := rfl
  apply ByteArray.ext
  rw [ByteArray.data_extract]
  apply Array.ext
  · simp; omega
  · intro k h1 h2
    simp at h2
    rw [Array.getElem_extract]
    match k, h2 with
    | 0, _ => rfl
theorem ext_eq2 (t : ByteArray) (i : Nat) (h : i + 2 ≤ t.size) (x y : UInt8) : ((t.extract i (i + 2)).toList == (⟨#[x, y]⟩ : ByteArray).toList) = ((((t[i]'(by omega)).toNat : Int) == (x.toNat : Int)) && (((t[i+1]'(by omega)).toNat : Int) == (y.toNat : Int))) := by
  rw [ext_two t i h, ByteArray.toList_eq, ByteArray.toList_eq]
  have e : ∀ a b : UInt8, (((a.toNat : Int) == (b.toNat : Int)) = (a == b)) := fun a b => by
    rw [Bool.eq_iff_iff]
    simp [← UInt8.toNat_inj]
    omega
  rw [e, e]
  simp
theorem two_eq (t : ByteArray) (i : Nat) (h : i + 2 ≤ t.size) (x y : UInt8) : ((t.extract i (i + 2)).toList == (⟨#[x, y]⟩ : ByteArray).toList) = two t i x.toNat y.toNat := by
  rw [ext_eq2 t i h, cb_at, cb_at]
  simp [two, h]
theorem grownBy_set {w : World} {p : Addr} {u : Value} : w.grownBy (w.setCell p u) (some p.block) := ⟨rfl, rfl, rfl, by simp [World.setCell], fun k _ hne => Below.heap_setCell w p u k (fun e => hne (by rw [e]))⟩
def Tk.d (x : Tk) : D := .struct [.int .i64 x.k, .str x.x, .int .i64 x.l, .int .i64 x.c]
/-- The reference's lexer, in the block behind world W0. -/
structure Lx (W0 : World) (t : ByteArray) (a : Nat) (p : Int × Int) (e : Int × Int × Int) (v : Value) (ts : List Tk) (w : World) : Prop where
  below : Below W0.heap.size W0 w
  blk : w.heap[W0.heap.size]? = some (.cells #[.string t, .int .i64 a, .int .i64 p.1, .int .i64 p.2, .int .i64 e.1, .int .i64 e.2.1, .int .i64 e.2.2, v] 45 (0, 0))
  grow : Grow (W0.heap.size + 1) w v 33 4 (ts.map Tk.d)
section
variable {W0 w w1 : World} {t : ByteArray} {a : Nat} {p : Int × Int} {e : Int × Int × Int} {v v' : Value} {ts : List Tk}
theorem Lx.size (h : Lx W0 t a p e v ts w) : W0.heap.size + 1 ≤ w.heap.size := blk_lt h.blk
theorem Lx.mv (h : Lx W0 t a p e v ts w) (hb : Below w.heap.size w w1) : Lx W0 t a p e v ts w1 :=
  ⟨h.below.trans (hb.mono (by have := h.size; omega)), blk_below h.blk hb, h.grow.below hb⟩
theorem Lx.c (h : Lx W0 t a p e v ts w) (j : Nat) : w.cell? ⟨W0.heap.size, j, none⟩ = (#[.string t, .int .i64 a, .int .i64 p.1, .int .i64 p.2, .int .i64 e.1, .int .i64 e.2.1, .int .i64 e.2.2, v] : Array Value)[j]? := blk_cell h.blk j
theorem Lx.f (h : Lx W0 t a p e v ts w) (j : Nat) : w.frozen? ⟨W0.heap.size, j, none⟩ = false := blk_frozen h.blk j
theorem Lx.c0 (h : Lx W0 t a p e v ts w) : w.cell? ⟨W0.heap.size, 0, none⟩ = some (.string t) := (h.c 0).trans rfl
theorem Lx.c1 (h : Lx W0 t a p e v ts w) : w.cell? ⟨W0.heap.size, 1, none⟩ = some (.int .i64 a) := (h.c 1).trans rfl
theorem Lx.c2 (h : Lx W0 t a p e v ts w) : w.cell? ⟨W0.heap.size, 2, none⟩ = some (.int .i64 p.1) := (h.c 2).trans rfl
theorem Lx.c3 (h : Lx W0 t a p e v ts w) : w.cell? ⟨W0.heap.size, 3, none⟩ = some (.int .i64 p.2) := (h.c 3).trans rfl
theorem Lx.c4 (h : Lx W0 t a p e v ts w) : w.cell? ⟨W0.heap.size, 4, none⟩ = some (.int .i64 e.1) := (h.c 4).trans rfl
theorem Lx.c5 (h : Lx W0 t a p e v ts w) : w.cell? ⟨W0.heap.size, 5, none⟩ = some (.int .i64 e.2.1) := (h.c 5).trans rfl
theorem Lx.c6 (h : Lx W0 t a p e v ts w) : w.cell? ⟨W0.heap.size, 6, none⟩ = some (.int .i64 e.2.2) := (h.c 6).trans rfl
theorem Lx.c7 (h : Lx W0 t a p e v ts w) : w.cell? ⟨W0.heap.size, 7, none⟩ = some v := (h.c 7).trans rfl
/-- A cell of the lexer is stored. -/
theorem lx_set (h : Lx W0 t a p e v ts w) {a' : Nat} {p' : Int × Int} {e' : Int × Int × Int} (j : Nat) (u : Value)
    (hj : (#[.string t, .int .i64 a, .int .i64 p.1, .int .i64 p.2, .int .i64 e.1, .int .i64 e.2.1, .int .i64 e.2.2, v] : Array Value).setIfInBounds j u = #[.string t, .int .i64 a', .int .i64 p'.1, .int .i64 p'.2, .int .i64 e'.1, .int .i64 e'.2.1, .int .i64 e'.2.2, v]) :
    Lx W0 t a' p' e' v ts (w.setCell ⟨W0.heap.size, j, none⟩ u) :=
  ⟨h.below.setCell (Nat.le_refl _) _, (blk_set h.blk j u).trans (by rw [hj]), h.grow.grown grownBy_set (fun g hg => by injection hg with hg; subst hg; show W0.heap.size < W0.heap.size + 1; omega)⟩
end

set_option maxRecDepth 100000 in
theorem specTwo (t : ByteArray) (ht : t.size ≤ 1048576) (B i : Nat) (hi : i ≤ 1048576) (x y : UInt8) (w : World) (h : w.cell? ⟨B, 0, none⟩ = some (.string t)) :
    Calls Tryd.prog 35 #[.pointer (some ⟨B, 0, none⟩), .int .i64 i, .string ⟨#[x, y]⟩] w fun e w' => e = .returned (.bool (two t i x.toNat y.toNat)) ∧ w' = w := by
  have hw : IntKind.i64.wrap ((i : Int) + 2) = ((i + 2 : Nat) : Int) := (i64_in (by omega) (by omega)).trans (by omega)
  go_enter Tryd.func35, Tryd.ntmps35
  by_cases hlt : i + 2 ≤ t.size
  · have hs : (Instr.slice 9 (.string t) (some (.int .i64 i)) (some (.int .i64 ((i : Int) + 2))) none).run Tryd.prog w = .ok (.string (t.extract i (i + 2))) w := by
      have := run_slice_string (P := Tryd.prog) w 9 t .i64 .i64 i ((i : Int) + 2) Tryd.underlying9 (by omega) (by omega) (by omega)
      simpa [show ((i : Int) + 2).toNat = i + 2 by omega] using this
    have he := two_eq t i hlt x y
    go_wp2
    go_ret
    exact ⟨ret_bool (by simpa using he), rfl⟩
  · go_wp2
    go_ret
    exact ⟨ret_bool (by simp [two, hlt]), rfl⟩

set_option maxHeartbeats 2000000 in
theorem specSkip (W0 : World) (t : ByteArray) (ht : t.size ≤ 1048576) (a n : Nat) (p : Int × Int) (e : Int × Int × Int) (v : Value) (ts : List Tk) (w : World) (h : Lx W0 t a p e v ts w) (hn : a + n ≤ t.size) (p0 : 0 ≤ p.1) (p1 : p.1 ≤ 4000000) (p2 : 0 ≤ p.2) (p3 : p.2 ≤ 4000000) :
    Calls Tryd.prog 34 #[.pointer (some ⟨W0.heap.size, 0, none⟩), .int .i64 n] w fun x w' => x = .returned (.tuple #[]) ∧ Lx W0 t (a + n) (advL t a n p) e v ts w' := by
  have H := Lib.hid h
  clear h
  go_enter Tryd.func34, Tryd.ntmps34
  go_wp2
  go_loopw [4] (fun i wr => ∃ j : Nat, i = .int .i64 j ∧ j ≤ n ∧ Lx W0 t (a + j) (advL t a j p) e v ts wr) (fun i _ => n - (intOf i).toNat)
  case atStart => exact ⟨0, rfl, Nat.zero_le _, H.out⟩
  case round =>
    obtain ⟨j, rfl, hj, hL⟩ := hrel
    clear H
    by_cases hlt : j < n
    · obtain ⟨q, hq⟩ : ∃ q, q = a + j := ⟨_, rfl⟩
      rw [← hq] at hL
      have hin : q < t.size := by omega
      have hc := cb_at hin
      have i0 : (0 : Int) ≤ (q : Int) := by omega
      have i1 : (q : Int) < (t.size : Int) := by omega
      have z0 := hL.c0
      have z1 := hL.c1
      have bd := advL_bound t j a p 4000000 p0 p1 p2 p3 (by omega)
      have HL := Lib.hid hL
      have HQ := Lib.hid hq
      clear hL hq
      go_wp2
      go_quiet (fail)
      have H1 := Lib.hid (HL.out.mv (drewN_below (Below.refl _ _) nq))
      generalize wr.drewN nq = w1 at *
      clear z0 z1 HL
      have z1 := H1.out.c1
      have z2 := H1.out.c2
      have z3 := H1.out.c3
      have f1 := H1.out.f 1
      have f2 := H1.out.f 2
      have f3 := H1.out.f 3
      by_cases he : cb t q = 10
      · go_wp2
        refine ⟨⟨j + 1, by go_num, hlt, ?_⟩, by simp [intOf]; omega⟩
        have e1 : advL t a (j + 1) p = ((advL t a j p).1 + 1, 1) := by rw [advL_snoc, ← HQ.out]; simp [he]
        rw [e1, show a + (j + 1) = q + 1 by rw [HQ.out]; omega]
        exact lx_set (a' := q + 1) (p' := ((advL t a j p).1 + 1, 1)) (lx_set (a' := q + 1) (p' := ((advL t a j p).1 + 1, 0)) (lx_set (a' := q) (p' := ((advL t a j p).1 + 1, 0)) (lx_set (a' := q) (p' := ((advL t a j p).1 + 1, (advL t a j p).2)) H1.out 2 _ rfl) 3 _ rfl) 1 _ rfl) 3 _ rfl
      · go_wp2
        refine ⟨⟨j + 1, by go_num, hlt, ?_⟩, by simp [intOf]; omega⟩
        have e1 : advL t a (j + 1) p = ((advL t a j p).1, (advL t a j p).2 + 1) := by rw [advL_snoc, ← HQ.out]; simp [he]
        rw [e1, show a + (j + 1) = q + 1 by rw [HQ.out]; omega]
        exact lx_set (a' := q + 1) (p' := ((advL t a j p).1, (advL t a j p).2 + 1)) (lx_set (a' := q + 1) (p' := advL t a j p) H1.out 1 _ rfl) 3 _ rfl
    · obtain rfl : j = n := by omega
      go_wp2
      go_end0
      exact ⟨rfl, hL⟩

set_option maxRecDepth 100000 in
set_option maxHeartbeats 2000000 in
theorem specFail (W0 : World) (t : ByteArray) (a : Nat) (p : Int × Int) (e : Int × Int × Int) (v : Value) (ts : List Tk) (c : Int) (w : World) (h : Lx W0 t a p e v ts w) :
    Calls Tryd.prog 37 #[.pointer (some ⟨W0.heap.size, 0, none⟩), .int .i64 c] w fun x w' => x = .returned (.tuple #[]) ∧ Lx W0 t a p (c, p.1, p.2) (.slice none 0 0) [] w' := by
  have H := Lib.hid (h.mv (Below.refl _ _).drew)
  have z2 := h.c2
  have z3 := h.c3
  have y2 := H.out.c2
  have y3 := H.out.c3
  have y4 := H.out.c4
  have y5 := H.out.c5
  have y6 := H.out.c6
  have y7 := H.out.c7
  have f4 := H.out.f 4
  have f5 := H.out.f 5
  have f6 := H.out.f 6
  have f7 := H.out.f 7
  clear h
  go_enter Tryd.func37, Tryd.ntmps37
  go_wp2
  go_still_tail 13, (by kernel_rfl)
  refine wpList_store_mid rfl 24 (.tmp 16) (.tmp 14) rfl W0.heap.size 4 #[.int .i64 c, .int .i64 p.1, .int .i64 p.2, .slice none 0 0] rfl rfl (there_live H.out.blk (Nat.le_refl 8)) (by kernel_rfl) (by simp [Value.oneCell']) ?_
  go_wp2
  go_end0
  refine ⟨rfl, ?_⟩
  have h3 := lx_set (e' := (c, p.1, p.2)) (lx_set (e' := (c, p.1, e.2.2)) (lx_set (e' := (c, e.2.1, e.2.2)) H.out 4 _ rfl) 5 _ rfl) 6 _ rfl
  exact ⟨h3.below.setCell (Nat.le_refl _) _, (blk_set h3.blk 7 _).trans rfl, Grow.nil _ _ _ _⟩

end Go.Proofs.YtifmnijdaboenaaDoor
