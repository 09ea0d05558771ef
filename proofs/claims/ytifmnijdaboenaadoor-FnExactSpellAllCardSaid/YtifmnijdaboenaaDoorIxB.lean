/- The program's lexer in memory: where it stands; runs of bytes by a function value; going on; no condition. -/
import Derived.Test.YtifmnijdaboenaaDoorIxA
import Derived.Test.YtifmnijdaboenaaDoorLexU
import Derived.Lib.OthersKept
namespace Go.Proofs.YtifmnijdaboenaaDoor
open Go Go.RowKit
set_option linter.unusedVariables false
set_option linter.unusedSimpArgs false

/-- The program's lexer, in the block behind world W0. -/
structure Ix (W0 : World) (t : ByteArray) (a : Nat) (p : Int × Int) (m v : Value) (ts : List Tk) (w : World) : Prop where
  below : Below W0.heap.size W0 w
  blk : w.heap[W0.heap.size]? = some (.cells #[.string t, .int .i64 a, .int .i64 p.1, .int .i64 p.2, m, v] 51 (0, 0))
  grow : Grow (W0.heap.size + 1) w v 33 4 (ts.map Tk.d)
section
variable {W0 w w1 : World} {t : ByteArray} {a : Nat} {p : Int × Int} {m v v' : Value} {ts : List Tk}
theorem Ix.size (h : Ix W0 t a p m v ts w) : W0.heap.size + 1 ≤ w.heap.size := blk_lt h.blk
theorem Ix.mv (h : Ix W0 t a p m v ts w) (hb : Below w.heap.size w w1) : Ix W0 t a p m v ts w1 :=
  ⟨h.below.trans (hb.mono (by have := h.size; omega)), blk_below h.blk hb, h.grow.below hb⟩
theorem Ix.c (h : Ix W0 t a p m v ts w) (j : Nat) : w.cell? ⟨W0.heap.size, j, none⟩ = (#[.string t, .int .i64 a, .int .i64 p.1, .int .i64 p.2, m, v] : Array Value)[j]? := blk_cell h.blk j
theorem Ix.f (h : Ix W0 t a p m v ts w) (j : Nat) : w.frozen? ⟨W0.heap.size, j, none⟩ = false := blk_frozen h.blk j
theorem Ix.c0 (h : Ix W0 t a p m v ts w) : w.cell? ⟨W0.heap.size, 0, none⟩ = some (.string t) := (h.c 0).trans rfl
theorem Ix.c1 (h : Ix W0 t a p m v ts w) : w.cell? ⟨W0.heap.size, 1, none⟩ = some (.int .i64 a) := (h.c 1).trans rfl
theorem Ix.c2 (h : Ix W0 t a p m v ts w) : w.cell? ⟨W0.heap.size, 2, none⟩ = some (.int .i64 p.1) := (h.c 2).trans rfl
theorem Ix.c3 (h : Ix W0 t a p m v ts w) : w.cell? ⟨W0.heap.size, 3, none⟩ = some (.int .i64 p.2) := (h.c 3).trans rfl
theorem Ix.c4 (h : Ix W0 t a p m v ts w) : w.cell? ⟨W0.heap.size, 4, none⟩ = some m := (h.c 4).trans rfl
theorem Ix.c5 (h : Ix W0 t a p m v ts w) : w.cell? ⟨W0.heap.size, 5, none⟩ = some v := (h.c 5).trans rfl
theorem ix_set (h : Ix W0 t a p m v ts w) {a' : Nat} {p' : Int × Int} (j : Nat) (u : Value)
    (hj : (#[.string t, .int .i64 a, .int .i64 p.1, .int .i64 p.2, m, v] : Array Value).setIfInBounds j u = #[.string t, .int .i64 a', .int .i64 p'.1, .int .i64 p'.2, m, v]) :
    Ix W0 t a' p' m v ts (w.setCell ⟨W0.heap.size, j, none⟩ u) :=
  ⟨h.below.setCell (Nat.le_refl _) _, (blk_set h.blk j u).trans (by rw [hj]), h.grow.grown grownBy_set (fun g hg => by injection hg with hg; subst hg; show W0.heap.size < W0.heap.size + 1; omega)⟩
/-- An iterator's block is moved on: a row of data stands. -/
theorem Grow.iterAt {B : Nat} {w : World} {v : Value} {e sz : Nat} {ys : List D} (h : Grow B w v e sz ys) {K : Nat} {s : ByteArray} {pos : Nat} (hk : w.heap[K]? = some (.stringIter s pos)) (pos' : Nat) : Grow B (w.iterAt K s pos') v e sz ys := by
  obtain ⟨cells, f, h1, h2, h3, h4⟩ := h
  have hne : ∀ k ∈ v.ownBlock.toList ++ f, k ≠ K := fun k hk' e => by
    obtain ⟨cur, e', hc⟩ := (h4.2 k hk').2
    rw [e, hk] at hc
    cases hc
  have hg : w.grownBy (w.iterAt K s pos') (some K) := ⟨rfl, rfl, rfl, by rw [Lib.iterAt_size]; exact Nat.le_refl _, fun k _ hne => Lib.iterAt_other w K k s pos' (fun e => hne (by rw [e]))⟩
  have hm : ∀ k ∈ v.ownBlock.toList ++ f, (w.iterAt K s pos').heap[k]? = w.heap[k]? := fun k hk' => Lib.iterAt_other w K k s pos' (hne k hk')
  refine ⟨cells, f, h1.kept hg ?_, D.Fields_move ys (fun k hk' => hm k (by simp [hk'])) (by rw [Lib.iterAt_size]; exact Nat.le_refl _) h2, h3, h4.1, fun k hk' => ⟨(h4.2 k hk').1, (h4.2 k hk').2.move (hm k hk')⟩⟩
  cases hv : v.ownBlock with
  | none => exact .inl rfl
  | some g => exact .inr (fun e => hne g (by simp [hv]) (by injection e))
theorem Ix.iterAt (h : Ix W0 t a p m v ts w) {K : Nat} {s : ByteArray} {pos : Nat} (hk : w.heap[K]? = some (.stringIter s pos)) (hK : W0.heap.size + 1 ≤ K) (pos' : Nat) : Ix W0 t a p m v ts (w.iterAt K s pos') :=
  ⟨Lib.below_iterAt h.below (by omega) s pos', (Lib.iterAt_other w K _ s pos' (by omega)).trans h.blk, h.grow.iterAt hk pos'⟩
end

theorem drewN2 (w : World) (a b : Nat) : (w.drewN a).drewN b = w.drewN (a + b) := by
  unfold World.drewN
  simp [Nat.add_assoc]
set_option maxRecDepth 100000 in
set_option maxHeartbeats 4000000 in
theorem implRunName (t : ByteArray) (ht : t.size ≤ 1048576) (B a : Nat) (ha : a ≤ t.size) (w : World) (h0 : w.cell? ⟨B, 0, none⟩ = some (.string t)) (h1 : w.cell? ⟨B, 1, none⟩ = some (.int .i64 a)) :
    Calls Tryd.prog 53 #[.pointer (some ⟨B, 0, none⟩), .func (.func 54) #[] #[]] w fun e w' => e = .returned (.int .i64 (runL isIn t a)) ∧ ∃ n, w' = w.drewN n := by
  have H : Hid (∀ k, (w.drewN k).cell? ⟨B, 0, none⟩ = some (.string t) ∧ (w.drewN k).cell? ⟨B, 1, none⟩ = some (.int .i64 a)) := fun k => ⟨h0, h1⟩
  clear h0 h1
  go_enter Tryd.func53, Tryd.ntmps53
  go_wp2
  go_loopw [5] (fun i wr => ∃ j : Nat, i = .int .i64 j ∧ a + j ≤ t.size ∧ (∀ k, k < j → isIn (cb t (a + k)) = true) ∧ Hid (∃ k, wr = w.drewN k)) (fun i _ => t.size - (intOf i).toNat)
  case atStart => exact ⟨0, rfl, by omega, fun k hk => by omega, Lib.hid ⟨0, rfl⟩⟩
  case round =>
    obtain ⟨j, rfl, hj, hn, H1⟩ := hrel
    obtain ⟨kk, hkk⟩ := H1.out
    have z0 := (H.out kk).1
    have z1 := (H.out kk).2
    rw [← hkk] at z0 z1
    have HK := Lib.hid hkk
    clear H1 hkk
    obtain ⟨s, hs⟩ : ∃ s, s = a + j := ⟨_, rfl⟩
    have hws : IntKind.i64.wrap ((a : Int) + (j : Int)) = (s : Int) := (i64_in (by omega) (by omega)).trans (by omega)
    have HS := Lib.hid hs
    by_cases hlt : s < t.size
    · have i2 : (0 : Int) ≤ (s : Int) := by omega
      have i3 : (s : Int) < (t.size : Int) := by omega
      have hcs := cb_at hlt
      have hd : decide ((s : Int) < (t.size : Int)) = true := by simp; omega
      have CP := fun W => Lib.hid (implName _ W : Calls Tryd.prog 54 #[.int .u8 (cb t s)] W fun e w' => e = .returned (.bool (isIn (cb t s))) ∧ w' = W)
      clear hs
      cases hv : isIn (cb t s)
      · have hr := runL_is isIn t j a hn hj (fun _ => by rw [← HS.out]; exact hv)
        have HR := Lib.hid hr
        clear hr
        go_wp2
        go_quiet (first | (go_at_call 54; refine Calls.quiet_of_same (CP _).out))
        clear z0 z1 CP
        rw [hv]
        go_wp2
        go_ret
        exact ⟨ret_int (by rw [HR.out]), _, by rw [HK.out, drewN2]⟩
      · go_wp2
        go_quiet (first | (go_at_call 54; refine Calls.quiet_of_same (CP _).out))
        clear z0 z1 CP
        rw [hv]
        go_wp2
        go_roundw
        case rel => exact ⟨j + 1, by go_num, by have := HS.out; omega, fun k hk => by
          rcases Nat.lt_succ_iff_lt_or_eq.1 hk with hk | rfl
          · exact hn k hk
          · rw [← HS.out]; exact hv, Lib.hid ⟨kk + nq, by rw [HK.out, drewN2]⟩⟩
        case measure => have := HS.out; simp [intOf]; omega
    · have hd : decide ((s : Int) < (t.size : Int)) = false := by simp; omega
      have hr := runL_is isIn t j a hn hj (fun h => absurd h (by omega))
      have HR := Lib.hid hr
      clear hr hs
      go_wp2
      go_quiet (fail)
      go_wp2
      go_ret
      exact ⟨ret_int (by rw [HR.out]), _, by rw [HK.out, drewN2]⟩
set_option maxRecDepth 100000 in
set_option maxHeartbeats 4000000 in
theorem implRunDigit (t : ByteArray) (ht : t.size ≤ 1048576) (B a : Nat) (ha : a ≤ t.size) (w : World) (h0 : w.cell? ⟨B, 0, none⟩ = some (.string t)) (h1 : w.cell? ⟨B, 1, none⟩ = some (.int .i64 a)) :
    Calls Tryd.prog 53 #[.pointer (some ⟨B, 0, none⟩), .func (.func 57) #[] #[]] w fun e w' => e = .returned (.int .i64 (runL isDig t a)) ∧ ∃ n, w' = w.drewN n := by
  have H : Hid (∀ k, (w.drewN k).cell? ⟨B, 0, none⟩ = some (.string t) ∧ (w.drewN k).cell? ⟨B, 1, none⟩ = some (.int .i64 a)) := fun k => ⟨h0, h1⟩
  clear h0 h1
  go_enter Tryd.func53, Tryd.ntmps53
  go_wp2
  go_loopw [5] (fun i wr => ∃ j : Nat, i = .int .i64 j ∧ a + j ≤ t.size ∧ (∀ k, k < j → isDig (cb t (a + k)) = true) ∧ Hid (∃ k, wr = w.drewN k)) (fun i _ => t.size - (intOf i).toNat)
  case atStart => exact ⟨0, rfl, by omega, fun k hk => by omega, Lib.hid ⟨0, rfl⟩⟩
  case round =>
    obtain ⟨j, rfl, hj, hn, H1⟩ := hrel
    obtain ⟨kk, hkk⟩ := H1.out
    have z0 := (H.out kk).1
    have z1 := (H.out kk).2
    rw [← hkk] at z0 z1
    have HK := Lib.hid hkk
    clear H1 hkk
    obtain ⟨s, hs⟩ : ∃ s, s = a + j := ⟨_, rfl⟩
    have hws : IntKind.i64.wrap ((a : Int) + (j : Int)) = (s : Int) := (i64_in (by omega) (by omega)).trans (by omega)
    have HS := Lib.hid hs
    by_cases hlt : s < t.size
    · have i2 : (0 : Int) ≤ (s : Int) := by omega
      have i3 : (s : Int) < (t.size : Int) := by omega
      have hcs := cb_at hlt
      have hd : decide ((s : Int) < (t.size : Int)) = true := by simp; omega
      have CP := fun W => Lib.hid (implDigit _ W : Calls Tryd.prog 57 #[.int .u8 (cb t s)] W fun e w' => e = .returned (.bool (isDig (cb t s))) ∧ w' = W)
      clear hs
      cases hv : isDig (cb t s)
      · have hr := runL_is isDig t j a hn hj (fun _ => by rw [← HS.out]; exact hv)
        have HR := Lib.hid hr
        clear hr
        go_wp2
        go_quiet (first | (go_at_call 57; refine Calls.quiet_of_same (CP _).out))
        clear z0 z1 CP
        rw [hv]
        go_wp2
        go_ret
        exact ⟨ret_int (by rw [HR.out]), _, by rw [HK.out, drewN2]⟩
      · go_wp2
        go_quiet (first | (go_at_call 57; refine Calls.quiet_of_same (CP _).out))
        clear z0 z1 CP
        rw [hv]
        go_wp2
        go_roundw
        case rel => exact ⟨j + 1, by go_num, by have := HS.out; omega, fun k hk => by
          rcases Nat.lt_succ_iff_lt_or_eq.1 hk with hk | rfl
          · exact hn k hk
          · rw [← HS.out]; exact hv, Lib.hid ⟨kk + nq, by rw [HK.out, drewN2]⟩⟩
        case measure => have := HS.out; simp [intOf]; omega
    · have hd : decide ((s : Int) < (t.size : Int)) = false := by simp; omega
      have hr := runL_is isDig t j a hn hj (fun h => absurd h (by omega))
      have HR := Lib.hid hr
      clear hr hs
      go_wp2
      go_quiet (fail)
      go_wp2
      go_ret
      exact ⟨ret_int (by rw [HR.out]), _, by rw [HK.out, drewN2]⟩
set_option maxRecDepth 100000 in
set_option maxHeartbeats 4000000 in
theorem implRunSym (t : ByteArray) (ht : t.size ≤ 1048576) (B a : Nat) (ha : a ≤ t.size) (w : World) (h0 : w.cell? ⟨B, 0, none⟩ = some (.string t)) (h1 : w.cell? ⟨B, 1, none⟩ = some (.int .i64 a)) :
    Calls Tryd.prog 53 #[.pointer (some ⟨B, 0, none⟩), .func (.func 60) #[] #[]] w fun e w' => e = .returned (.int .i64 (runL isSym t a)) ∧ ∃ n, w' = w.drewN n := by
  have H : Hid (∀ k, (w.drewN k).cell? ⟨B, 0, none⟩ = some (.string t) ∧ (w.drewN k).cell? ⟨B, 1, none⟩ = some (.int .i64 a)) := fun k => ⟨h0, h1⟩
  clear h0 h1
  go_enter Tryd.func53, Tryd.ntmps53
  go_wp2
  go_loopw [5] (fun i wr => ∃ j : Nat, i = .int .i64 j ∧ a + j ≤ t.size ∧ (∀ k, k < j → isSym (cb t (a + k)) = true) ∧ Hid (∃ k, wr = w.drewN k)) (fun i _ => t.size - (intOf i).toNat)
  case atStart => exact ⟨0, rfl, by omega, fun k hk => by omega, Lib.hid ⟨0, rfl⟩⟩
  case round =>
    obtain ⟨j, rfl, hj, hn, H1⟩ := hrel
    obtain ⟨kk, hkk⟩ := H1.out
    have z0 := (H.out kk).1
    have z1 := (H.out kk).2
    rw [← hkk] at z0 z1
    have HK := Lib.hid hkk
    clear H1 hkk
    obtain ⟨s, hs⟩ : ∃ s, s = a + j := ⟨_, rfl⟩
    have hws : IntKind.i64.wrap ((a : Int) + (j : Int)) = (s : Int) := (i64_in (by omega) (by omega)).trans (by omega)
    have HS := Lib.hid hs
    by_cases hlt : s < t.size
    · have i2 : (0 : Int) ≤ (s : Int) := by omega
      have i3 : (s : Int) < (t.size : Int) := by omega
      have hcs := cb_at hlt
      have hd : decide ((s : Int) < (t.size : Int)) = true := by simp; omega
      have CP := fun W => Lib.hid (implSymbol _ (cb_lo t s) (cb_hi t s) W : Calls Tryd.prog 60 #[.int .u8 (cb t s)] W fun e w' => e = .returned (.bool (isSym (cb t s))) ∧ w' = W)
      clear hs
      cases hv : isSym (cb t s)
      · have hr := runL_is isSym t j a hn hj (fun _ => by rw [← HS.out]; exact hv)
        have HR := Lib.hid hr
        clear hr
        go_wp2
        go_quiet (first | (go_at_call 60; refine Calls.quiet_of_same (CP _).out))
        clear z0 z1 CP
        rw [hv]
        go_wp2
        go_ret
        exact ⟨ret_int (by rw [HR.out]), _, by rw [HK.out, drewN2]⟩
      · go_wp2
        go_quiet (first | (go_at_call 60; refine Calls.quiet_of_same (CP _).out))
        clear z0 z1 CP
        rw [hv]
        go_wp2
        go_roundw
        case rel => exact ⟨j + 1, by go_num, by have := HS.out; omega, fun k hk => by
          rcases Nat.lt_succ_iff_lt_or_eq.1 hk with hk | rfl
          · exact hn k hk
          · rw [← HS.out]; exact hv, Lib.hid ⟨kk + nq, by rw [HK.out, drewN2]⟩⟩
        case measure => have := HS.out; simp [intOf]; omega
    · have hd : decide ((s : Int) < (t.size : Int)) = false := by simp; omega
      have hr := runL_is isSym t j a hn hj (fun h => absurd h (by omega))
      have HR := Lib.hid hr
      clear hr hs
      go_wp2
      go_quiet (fail)
      go_wp2
      go_ret
      exact ⟨ret_int (by rw [HR.out]), _, by rw [HK.out, drewN2]⟩
set_option maxRecDepth 100000 in
set_option maxHeartbeats 4000000 in
theorem implRunNoNl (t : ByteArray) (ht : t.size ≤ 1048576) (B a : Nat) (ha : a ≤ t.size) (w : World) (h0 : w.cell? ⟨B, 0, none⟩ = some (.string t)) (h1 : w.cell? ⟨B, 1, none⟩ = some (.int .i64 a)) :
    Calls Tryd.prog 53 #[.pointer (some ⟨B, 0, none⟩), .func (.func 62) #[] #[]] w fun e w' => e = .returned (.int .i64 (runL (fun c => !(c == 10)) t a)) ∧ ∃ n, w' = w.drewN n := by
  have H : Hid (∀ k, (w.drewN k).cell? ⟨B, 0, none⟩ = some (.string t) ∧ (w.drewN k).cell? ⟨B, 1, none⟩ = some (.int .i64 a)) := fun k => ⟨h0, h1⟩
  clear h0 h1
  go_enter Tryd.func53, Tryd.ntmps53
  go_wp2
  go_loopw [5] (fun i wr => ∃ j : Nat, i = .int .i64 j ∧ a + j ≤ t.size ∧ (∀ k, k < j → (fun c => !(c == 10)) (cb t (a + k)) = true) ∧ Hid (∃ k, wr = w.drewN k)) (fun i _ => t.size - (intOf i).toNat)
  case atStart => exact ⟨0, rfl, by omega, fun k hk => by omega, Lib.hid ⟨0, rfl⟩⟩
  case round =>
    obtain ⟨j, rfl, hj, hn, H1⟩ := hrel
    obtain ⟨kk, hkk⟩ := H1.out
    have z0 := (H.out kk).1
    have z1 := (H.out kk).2
    rw [← hkk] at z0 z1
    have HK := Lib.hid hkk
    clear H1 hkk
    obtain ⟨s, hs⟩ : ∃ s, s = a + j := ⟨_, rfl⟩
    have hws : IntKind.i64.wrap ((a : Int) + (j : Int)) = (s : Int) := (i64_in (by omega) (by omega)).trans (by omega)
    have HS := Lib.hid hs
    by_cases hlt : s < t.size
    · have i2 : (0 : Int) ≤ (s : Int) := by omega
      have i3 : (s : Int) < (t.size : Int) := by omega
      have hcs := cb_at hlt
      have hd : decide ((s : Int) < (t.size : Int)) = true := by simp; omega
      have CP := fun W => Lib.hid (implNoNl _ W : Calls Tryd.prog 62 #[.int .u8 (cb t s)] W fun e w' => e = .returned (.bool ((fun c => !(c == 10)) (cb t s))) ∧ w' = W)
      clear hs
      cases hv : (fun c => !(c == 10)) (cb t s)
      · have hr := runL_is (fun c => !(c == 10)) t j a hn hj (fun _ => by rw [← HS.out]; exact hv)
        have HR := Lib.hid hr
        clear hr
        go_wp2
        go_quiet (first | (go_at_call 62; refine Calls.quiet_of_same (CP _).out))
        clear z0 z1 CP
        rw [hv]
        go_wp2
        go_ret
        exact ⟨ret_int (by rw [HR.out]), _, by rw [HK.out, drewN2]⟩
      · go_wp2
        go_quiet (first | (go_at_call 62; refine Calls.quiet_of_same (CP _).out))
        clear z0 z1 CP
        rw [hv]
        go_wp2
        go_roundw
        case rel => exact ⟨j + 1, by go_num, by have := HS.out; omega, fun k hk => by
          rcases Nat.lt_succ_iff_lt_or_eq.1 hk with hk | rfl
          · exact hn k hk
          · rw [← HS.out]; exact hv, Lib.hid ⟨kk + nq, by rw [HK.out, drewN2]⟩⟩
        case measure => have := HS.out; simp [intOf]; omega
    · have hd : decide ((s : Int) < (t.size : Int)) = false := by simp; omega
      have hr := runL_is (fun c => !(c == 10)) t j a hn hj (fun h => absurd h (by omega))
      have HR := Lib.hid hr
      clear hr hs
      go_wp2
      go_quiet (fail)
      go_wp2
      go_ret
      exact ⟨ret_int (by rw [HR.out]), _, by rw [HK.out, drewN2]⟩

end Go.Proofs.YtifmnijdaboenaaDoor
