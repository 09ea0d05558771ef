/- The program's lexer: tokens put, comments, what stands between marks, numbers; no condition. -/
import Derived.Test.YtifmnijdaboenaaDoorIxC
namespace Go.Proofs.YtifmnijdaboenaaDoor
open Go Go.RowKit
set_option linter.unusedVariables false
set_option linter.unusedSimpArgs false

theorem ix_push {W0 w w1 : World} {t : ByteArray} {a : Nat} {p : Int × Int} {m v v' : Value} {ts ts' : List Tk} (h : Ix W0 t a p m v ts w) (hg : Grow (W0.heap.size + 1) w1 v' 33 4 (ts'.map Tk.d)) (hw : Grew w w1 v v') :
    w1.heap[W0.heap.size]? = some (.cells #[.string t, .int .i64 a, .int .i64 p.1, .int .i64 p.2, m, v] 51 (0, 0)) ∧ Ix W0 t a p m v' ts' (w1.setCell ⟨W0.heap.size, 5, none⟩ v') := by
  have hne : some W0.heap.size ≠ v.ownBlock := fun e => by
    have := (h.grow.bound _ e.symm).1
    omega
  have h1 := hw.blk h.blk hne
  refine ⟨h1, (hw.below h.below (by have := h.size; omega) (fun q hq => by have := (h.grow.bound q hq).1; omega)).setCell (Nat.le_refl _) _, (blk_set h1 5 v').trans rfl, hg.grown grownBy_set (fun q hq => by injection hq with hq; subst hq; show W0.heap.size < W0.heap.size + 1; omega)⟩

set_option maxRecDepth 100000 in
set_option maxHeartbeats 4000000 in
theorem implPut (W0 : World) (t : ByteArray) (ht : t.size ≤ 1048576) (a n : Nat) (p : Int × Int) (m v : Value) (ts : List Tk) (k : Int) (x : ByteArray) (w : World) (h : Ix W0 t a p m v ts w) (hn : a + n ≤ t.size) (hts : ts.length ≤ a) (p0 : 0 ≤ p.1) (p1 : p.1 ≤ 4000000) (p2 : 0 ≤ p.2) (p3 : p.2 ≤ 4000000) :
    Calls Tryd.prog 56 #[.pointer (some ⟨W0.heap.size, 0, none⟩), .int .i64 k, .string x, .int .i64 n] w fun z w' => z = .returned (.int .i64 0) ∧ ∃ v', Ix W0 t (a + n) (advL t a n p) m v' (ts ++ [⟨k, x, p.1, p.2⟩]) w' := by
  have HD := Lib.hid (h.mv (Below.refl _ _).drew)
  have HB := Lib.hid ((Below.refl w.heap.size w).drew.alloc (Nat.le_refl _) (.cells #[.int .i64 k, .string x, .int .i64 p.1, .int .i64 p.2] 33))
  have HA := Lib.hid (h.mv HB.out)
  have H := Lib.hid h
  have z2 := HD.out.c2
  have z3 := HD.out.c3
  have z5 := HD.out.c5
  have y2 := HA.out.c2
  have y3 := HA.out.c3
  have y5 : ((w.alloc (.cells #[.int .i64 k, .string x, .int .i64 p.1, .int .i64 p.2] 33)).drew).cell? ⟨W0.heap.size, 5, none⟩ = some v := HA.out.c5
  have y5' : (w.alloc (.cells #[.int .i64 k, .string x, .int .i64 p.1, .int .i64 p.2] 33)).cell? ⟨W0.heap.size, 5, none⟩ = some v := HA.out.c5
  have LN := Lib.hid (show (ts.map Tk.d).length = ts.length by simp)
  have CA := Lib.hid (cellsAt_new w.drew [.int .i64 k, .string x, .int .i64 p.1, .int .i64 p.2] 33)
  have hsz : (w.drew).heap.size = w.heap.size := rfl
  obtain ⟨i0, hi, hz0, hz1, hz2⟩ := info_parts infoTok
  clear h
  go_enter Tryd.func56, Tryd.ntmps56
  go_wp2_with fail
  (go_region_law (refine step_push rfl _ _ 22 rfl (W0.heap.size + 1) 33 i0 (.agg #[.int .i64 0, .string ⟨#[]⟩, .int .i64 0, .int .i64 0]) 4 40 Tryd.underlying22 hi hz0 hz1 hz2 rfl (by decide) v (ts.map Tk.d) rfl H.out.grow HB.out (Tk.d ⟨k, x, p.1, p.2⟩) [.int .i64 k, .string x, .int .i64 p.1, .int .i64 p.2] (fr_tk _ _ ⟨k, x, p.1, p.2⟩) rfl w.heap.size 1 rfl CA.out (by rw [LN.out]; omega) (by rw [LN.out]; omega) H.out.size ?_; intro v' w2 hg' hgr' _; obtain ⟨A', c', hv', _, _, _⟩ := hg'.form; generalize (List.map Tk.d ts ++ [Tk.d ⟨k, x, p.1, p.2⟩]).length = L' at hv'; have B1 := Lib.hid (ix_push (ts' := ts ++ [⟨k, x, p.1, p.2⟩]) HA.out (by simpa using hg') hgr'); have x5 : World.cell? _ ⟨W0.heap.size, 5, none⟩ = some v := (blk_cell B1.out.1 5).trans rfl; have xf : World.frozen? _ ⟨W0.heap.size, 5, none⟩ = false := blk_frozen B1.out.1 5; clear hg' hgr'; subst hv'))
  all_goals
    go_wp2_with fail
    refine (implStep W0 t ht a n p m _ _ _ B1.out.2 hn p0 p1 p2 p3).mono ?_
    rintro z w3 ⟨rfl, h3⟩
    go_wp2
    go_ret
    exact ⟨rfl, _, h3⟩

def nestC (t : ByteArray) (a : Nat) : Int := match nestL t a 0 with | none => 0 | some e => (e : Int) - a
set_option maxRecDepth 100000 in
set_option maxHeartbeats 4000000 in
theorem implComment (t : ByteArray) (ht : t.size ≤ 1048576) (B a : Nat) (ha : a ≤ t.size) (w : World) (h0 : w.cell? ⟨B, 0, none⟩ = some (.string t)) (h1 : w.cell? ⟨B, 1, none⟩ = some (.int .i64 a)) :
    Calls Tryd.prog 51 #[.pointer (some ⟨B, 0, none⟩)] w fun e w' => e = .returned (.int .i64 (nestC t a)) ∧ w' = w := by
  go_enter Tryd.func51, Tryd.ntmps51
  go_wp2
  go_loop [3, 4] (fun d i => ∃ (j : Nat) (k : Int), d = .int .i64 k ∧ i = .int .i64 j ∧ j ≤ t.size ∧ a ≤ j ∧ -(j : Int) ≤ k ∧ k ≤ j ∧ Hid (nestL t j k = nestL t a 0)) (fun _ i => t.size - (intOf i).toNat)
  case atStart => exact ⟨a, 0, rfl, rfl, ha, Nat.le_refl _, by omega, by omega, Lib.hid rfl⟩
  case round =>
    obtain ⟨j, k, rfl, rfl, hj, haj, k0, k1, hn⟩ := hrel
    have w4 : IntKind.i64.wrap ((j : Int) + 1) = (j : Int) + 1 := i64_in (by omega) (by omega)
    by_cases hlt : j + 1 < t.size
    · have hlt1 : j < t.size := by omega
      have hd : decide ((j : Int) + 1 < (t.size : Int)) = true := by simp; omega
      have w1 : IntKind.i64.wrap (k + 1) = k + 1 := i64_in (by omega) (by omega)
      have w2 : IntKind.i64.wrap (k - 1) = k - 1 := i64_in (by omega) (by omega)
      have w3 : IntKind.i64.wrap ((j : Int) + 2) = (j : Int) + 2 := i64_in (by omega) (by omega)
      have w5 : IntKind.i64.wrap ((j : Int) + 2 - a) = (j : Int) + 2 - a := i64_in (by omega) (by omega)
      have hs : (Instr.slice 9 (.string t) (some (.int .i64 j)) (some (.int .i64 ((j : Int) + 2))) none).run Tryd.prog w = .ok (.string (t.extract j (j + 2))) w := by
        have := run_sl t j 2 (by omega) w
        simpa using this
      have hu := hn.out
      rw [nestL, dif_pos hlt1] at hu
      have HU := Lib.hid hu
      have q1 := two_eq t j (by omega) 123 45
      have q2 := two_eq t j (by omega) 45 125
      obtain ⟨x, hx⟩ : ∃ x, t.extract j (j + 2) = x := ⟨_, rfl⟩
      rw [hx] at hs q1 q2
      clear hu hx
      cases e1 : two t j 123 45
      · have q1 : (x.toList == [123, 45]) = false := by rw [← mk_toList [123, 45]]; exact q1.trans e1
        cases e2 : two t j 45 125
        · have q2 : (x.toList == [45, 125]) = false := by rw [← mk_toList [45, 125]]; exact q2.trans e2
          go_wp2
          go_roundw
          case rel => exact ⟨j + 1, k, rfl, by go_num, by omega, by omega, by omega, by omega, Lib.hid (by have := HU.out; rw [e1, e2] at this; simpa using this)⟩
          case measure => simp [intOf]; omega
        · have q2 : (x.toList == [45, 125]) = true := by rw [← mk_toList [45, 125]]; exact q2.trans e2
          have l2 := two_le e2
          by_cases hk : k - 1 = 0
          · go_wp2
            go_ret
            exact ⟨ret_int (by have := HU.out; rw [e1, e2] at this; simp [hk] at this; simp [nestC, ← this]), rfl⟩
          · go_wp2
            go_roundw
            case rel => exact ⟨j + 2, k - 1, rfl, by go_num, by omega, by omega, by omega, by omega, Lib.hid (by have := HU.out; rw [e1, e2] at this; simpa [hk] using this)⟩
            case measure => simp [intOf]; omega
      · have q1 : (x.toList == [123, 45]) = true := by rw [← mk_toList [123, 45]]; exact q1.trans e1
        have l1 := two_le e1
        go_wp2
        go_roundw
        case rel => exact ⟨j + 2, k + 1, rfl, by go_num, by omega, by omega, by omega, by omega, Lib.hid (by have := HU.out; rw [e1] at this; simpa using this)⟩
        case measure => simp [intOf]; omega
    · have hd : decide ((j : Int) + 1 < (t.size : Int)) = false := by simp; omega
      have hu : nestL t a 0 = none := by
        rw [← hn.out, nestL]
        split
        · rw [if_neg (by simp [two]; omega), if_neg (by simp [two]; omega), nestL, dif_neg (by omega)]
        · rfl
      have HU := Lib.hid hu
      clear hu hn
      go_wp2
      go_ret
      exact ⟨ret_int (by simp [nestC, HU.out]), rfl⟩

set_option maxRecDepth 100000 in
set_option maxHeartbeats 4000000 in
theorem implPlain (x : ByteArray) (hx : x.size ≤ 1048576) (hp : 0 < x.size) (hall : ∀ k, k < x.size → isDig (cb x k) = true) (w : World) :
    Calls Tryd.prog 58 #[.string x] w fun e w' => e = .returned (.bool (!(decide (1 < x.size) && (cb x 0 == 48)))) ∧ w' = w := by
  have hne : (x.toList == (⟨#[]⟩ : ByteArray).toList) = false := by
    rw [ByteArray.toList_eq, ByteArray.toList_eq, beq_eq_false_iff_ne]
    intro h
    have h2 : x.size = 0 := congrArg List.length h
    omega
  have hne : (x.toList == []) = false := by rw [← mk_toList []]; exact hne
  obtain ⟨rb, hrb⟩ : ∃ rb, (!(decide (1 < x.size) && (cb x 0 == 48))) = rb := ⟨_, rfl⟩
  rw [hrb]
  have HALL := Lib.hid hall
  have c0 := cb_at hp
  have i0 : (0 : Int) < (x.size : Int) := by omega
  clear hall
  go_enter Tryd.func58, Tryd.ntmps58
  by_cases hb : 1 < x.size ∧ cb x 0 = 48
  · have b1 : (1 : Int) < (x.size : Int) := by omega
    have b2 : (cb x 0 == 48) = true := by simp [hb.2]
    have HR := Lib.hid (show rb = false by rw [← hrb]; simp [hb.1, hb.2])
    clear hrb
    clear hb
    go_wp2
    go_ret
    exact ⟨ret_bool HR.out.symm, rfl⟩
  · have HR := Lib.hid (show rb = true by rw [← hrb]; by_cases h1 : 1 < x.size; (· rw [show (cb x 0 == 48) = false from beq_eq_false_iff_ne.2 (fun h => hb ⟨h1, h⟩)]; simp); simp [h1])
    clear hrb
    rcases (show ¬ cb x 0 = 48 ∨ (cb x 0 = 48 ∧ ¬ 1 < x.size) by by_cases h : cb x 0 = 48; (· exact .inr ⟨h, fun h2 => hb ⟨h2, h⟩⟩); exact .inl h) with b2 | ⟨b2, b1⟩
    · have b3 : (cb x 0 == 48) = false := by simpa using b2
      clear hb b2
      go_wp2
      clear b3
      go_loop [3] (fun i => ∃ j : Nat, i = .int .i64 j ∧ j ≤ x.size) (fun i => x.size - (intOf i).toNat)
      case atStart => exact ⟨0, rfl, Nat.zero_le _⟩
      case round =>
        obtain ⟨j, rfl, hj⟩ := hrel
        by_cases hlt : j < x.size
        · have hc := cb_at hlt
          have hd := HALL.out j hlt
          simp [isDig] at hd
          have d1 : ¬ cb x j < 48 := by omega
          have d2 : ¬ 57 < cb x j := by omega
          go_wp2
          go_roundw
          case rel => exact ⟨j + 1, by go_num, by omega⟩
          case measure => simp [intOf]; omega
        · go_wp2
          go_ret
          exact ⟨ret_bool HR.out.symm, rfl⟩
    · have b3 : (cb x 0 == 48) = true := by simp [b2]
      have b4 : ¬ (1 : Int) < (x.size : Int) := by omega
      clear hb b2
      go_wp2
      clear b3
      go_loop [3] (fun i => ∃ j : Nat, i = .int .i64 j ∧ j ≤ x.size) (fun i => x.size - (intOf i).toNat)
      case atStart => exact ⟨0, rfl, Nat.zero_le _⟩
      case round =>
        obtain ⟨j, rfl, hj⟩ := hrel
        by_cases hlt : j < x.size
        · have hc := cb_at hlt
          have hd := HALL.out j hlt
          simp [isDig] at hd
          have d1 : ¬ cb x j < 48 := by omega
          have d2 : ¬ 57 < cb x j := by omega
          go_wp2
          go_roundw
          case rel => exact ⟨j + 1, by go_num, by omega⟩
          case measure => simp [intOf]; omega
        · go_wp2
          go_ret
          exact ⟨ret_bool HR.out.symm, rfl⟩

end Go.Proofs.YtifmnijdaboenaaDoor
