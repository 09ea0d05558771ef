/- The program's lexer: going over bytes by runes; no condition. -/
import Derived.Test.YtifmnijdaboenaaDoorIxB
namespace Go.Proofs.YtifmnijdaboenaaDoor
open Go Go.RowKit
set_option linter.unusedVariables false
set_option linter.unusedSimpArgs false

set_option maxRecDepth 100000 in
set_option maxHeartbeats 4000000 in
theorem implPeek (W0 : World) (t : ByteArray) (ht : t.size ≤ 1048576) (a : Nat) (ha : a ≤ t.size) (p : Int × Int) (m v : Value) (ts : List Tk) (w : World) (h : Ix W0 t a p m v ts w) :
    Calls Tryd.prog 50 #[.pointer (some ⟨W0.heap.size, 0, none⟩), .int .i64 1] w fun e w' => e = .returned (.int .u8 (cb t (a + 1))) ∧ ∃ n, w' = w.drewN n := by
  have z0 := h.c0
  have z1 := h.c1
  obtain ⟨s, hs⟩ : ∃ s, s = a + 1 := ⟨_, rfl⟩
  have hws : IntKind.i64.wrap ((a : Int) + 1) = (s : Int) := (i64_in (by omega) (by omega)).trans (by omega)
  rw [← hs]
  clear hs h
  go_enter Tryd.func50, Tryd.ntmps50
  by_cases hlt : s < t.size
  · have i2 : (0 : Int) ≤ (s : Int) := by omega
    have i3 : (s : Int) < (t.size : Int) := by omega
    have hcs := cb_at hlt
    have hd : decide ((s : Int) < (t.size : Int)) = true := by simp; omega
    go_wp2
    go_quiet (fail)
    go_wp2
    go_quiet (fail)
    go_wp2
    go_ret
    exact ⟨rfl, _, drewN2 _ _ _⟩
  · have hd : decide ((s : Int) < (t.size : Int)) = false := by simp; omega
    rw [cb_out (by omega)]
    go_wp2
    go_quiet (fail)
    go_wp2
    go_ret
    exact ⟨rfl, _, rfl⟩

/-- What the world holds while a token's runes are gone over. -/
def Rn (W0 : World) (t : ByteArray) (a n : Nat) (p : Int × Int) (m v : Value) (ts : List Tk) (K : Nat) (sub : ByteArray) (f : Nat) (wr : World) : Prop :=
  ∃ (pos : Nat) (l c : Int), wr.heap[K]? = some (.stringIter sub pos) ∧ Ix W0 t a (l, c) m v ts wr ∧ pos ≤ n ∧ f ≤ pos ∧ advL t a pos p = (l, c + ((pos - f : Nat) : Int)) ∧ 0 ≤ l ∧ l ≤ 4000000 + pos ∧ 0 ≤ c ∧ c ≤ 4000000
theorem sub_cb (t : ByteArray) (a s k : Nat) (hs : s ≤ t.size) (hk : a + k < s) : cb (t.extract a s) k = cb t (a + k) := by
  have h1 : k < (t.extract a s).size := by rw [ByteArray.size_extract]; omega
  rw [← cb_at h1, ← cb_at (show a + k < t.size by omega)]
  have : (t.extract a s)[k]'h1 = t[a + k]'(by omega) := by
    show (t.extract a s).data[k]'h1 = t.data[a + k]'(by show a + k < t.size; omega)
    simp only [ByteArray.data_extract]
    rw [Array.getElem_extract]
  rw [this]

set_option maxRecDepth 100000 in
set_option maxHeartbeats 4000000 in
theorem implStep (W0 : World) (t : ByteArray) (ht : t.size ≤ 1048576) (a n : Nat) (p : Int × Int) (m v : Value) (ts : List Tk) (w : World) (h : Ix W0 t a p m v ts w) (hn : a + n ≤ t.size) (p0 : 0 ≤ p.1) (p1 : p.1 ≤ 4000000) (p2 : 0 ≤ p.2) (p3 : p.2 ≤ 4000000) :
    Calls Tryd.prog 49 #[.pointer (some ⟨W0.heap.size, 0, none⟩), .int .i64 n] w fun x w' => x = .returned (.tuple #[]) ∧ Ix W0 t (a + n) (advL t a n p) m v ts w' := by
  have z0 := h.c0
  have z1 := h.c1
  have H := Lib.hid h
  clear h
  obtain ⟨s, hs⟩ : ∃ s, a + n = s := ⟨_, rfl⟩
  have hwn : IntKind.i64.wrap ((a : Int) + (n : Int)) = (s : Int) := (i64_in (by omega) (by omega)).trans (by omega)
  have hsl : ∀ W : World, (Instr.slice 9 (.string t) (some (.int .i64 a)) (some (.int .i64 (s : Int))) none).run Tryd.prog W = .ok (.string (t.extract a s)) W := by
    intro W
    rw [← hs]
    exact run_sl t a n hn W
  have HS := Lib.hid hs
  clear hs
  go_enter Tryd.func49, Tryd.ntmps49
  go_wp2
  have I0 := Lib.hid (World.iter_heap w.drew (t.extract a s) 0)
  have B0 := Lib.hid (H.out.mv (((Below.refl w.heap.size w).drew).alloc (Nat.le_refl _) (.stringIter (t.extract a s) 0)))
  have hsub : (t.extract a s).size = n := by rw [ByteArray.size_extract]; have := HS.out; omega
  have hcb : ∀ k, k < n → cb (t.extract a s) k = cb t (a + k) := fun k hk => sub_cb t a s k (by have := HS.out; omega) (by have := HS.out; omega)
  have HSUB := Lib.hid hsub
  have HCB := Lib.hid hcb
  clear hsub hcb
  go_still_tail 15, (by kernel_rfl)
  go_wp2
  generalize t.extract a s = sub at *
  have K1 := Lib.hid H.out.size
  clear z0 z1 hsl H
  go_loopw [4, 5, 6] (fun fr _ _ wr => ∃ f : Nat, fr = .int .i64 f ∧ Hid (Rn W0 t a n p m v ts w.heap.size sub f wr)) (fun _ _ _ wr => n - wr.iterPos w.heap.size)
  case atStart => exact ⟨0, rfl, Lib.hid ⟨0, p.1, p.2, I0.out, B0.out, Nat.zero_le _, Nat.le_refl _, by simp [advL], p0, p1, p2, p3⟩⟩
  case round =>
    obtain ⟨f, rfl, hr⟩ := hrel
    obtain ⟨pos, l, c, hit, hx, hpn, hfp, hadv, hl0, hl1, hc0, hc1⟩ := hr.out
    clear hr B0 I0
    by_cases hp : pos < sub.size
    · have hpn2 : pos < n := by have := HSUB.out; omega
      have hnx : ∀ ty, (Instr.next (.pointer (some ⟨w.heap.size, 0, none⟩)) true ty).run Tryd.prog wr = _ := fun ty => Lib.run_next_any_at wr w.heap.size sub pos ty hit hp
      obtain ⟨hw1, hw2, hw3, hw4⟩ := rune_nl sub pos hp
      obtain ⟨r, hr⟩ : ∃ r, (Utf8.decode sub pos).1 = r := ⟨_, rfl⟩
      obtain ⟨wd, hwd⟩ : ∃ r, (Utf8.decode sub pos).2 = r := ⟨_, rfl⟩
      rw [hr, hwd] at hnx
      rw [hr, hwd] at hw3 hw4
      rw [hwd] at hw1 hw2
      have IT2 := Lib.hid (Lib.iterAt_heap wr w.heap.size sub pos (pos + wd) hit)
      have HX := Lib.hid (hx.iterAt hit (by have := K1.out; omega) (pos + wd))
      have hpw : pos + wd ≤ n := by have := HSUB.out; omega
      have z2 := HX.out.c2
      have z3 := HX.out.c3
      have f2 := HX.out.f 2
      have f3 := HX.out.f 3
      have hwp : IntKind.i64.wrap ((pos : Int) + 1) = ((pos + 1 : Nat) : Int) := (i64_in (by omega) (by omega)).trans (by omega)
      have IP := Lib.hid (show wr.iterPos w.heap.size = pos by simp only [World.iterPos, hit])
      clear hit hx hr hwd
      by_cases h10 : r = 10
      · obtain ⟨h1, h2⟩ := hw3 h10
        subst h10 h1
        have HC10 := Lib.hid h2
        have HADV := Lib.hid hadv
        clear hadv hw3 hw4 h2
        go_wp2
        have X2 := ix_set (p' := (l + 1, 1)) (ix_set (p' := (l + 1, c)) HX.out 2 (.int .i64 (l + 1)) rfl) 3 (.int .i64 1) rfl
        have I2 := blk_far (p := ⟨W0.heap.size, 3, none⟩) (blk_far (p := ⟨W0.heap.size, 2, none⟩) IT2.out (by have := K1.out; show w.heap.size ≠ W0.heap.size; omega) (.int .i64 (l + 1))) (by have := K1.out; show w.heap.size ≠ W0.heap.size; omega) (.int .i64 1)
        refine ⟨⟨pos + 1, by first | rfl | go_num, Lib.hid ⟨pos + 1, l + 1, 1, I2, X2, hpw, Nat.le_refl _, ?_, by omega, by omega, by omega, by omega⟩⟩, ?_⟩
        · rw [advL_snoc, HADV.out, if_pos (by rw [← HCB.out pos hpn2]; exact HC10.out)]
          simp
        · rw [IP.out]
          simp only [World.iterPos, I2]
          omega
      · have hne : ((r : Int) == 10) = false := by simp; omega
        have HALL := Lib.hid (hw4 h10)
        have HADV := Lib.hid hadv
        clear hadv hw3 hw4
        go_wp2
        go_roundw
        case rel =>
          refine ⟨f, rfl, Lib.hid ⟨pos + wd, l, c, IT2.out, HX.out, hpw, by omega, ?_, hl0, by omega, hc0, hc1⟩⟩
          rw [advL_add, HADV.out, advL_flat _ _ _ _ (fun k hk => by rw [show a + pos + k = a + (pos + k) by omega, ← HCB.out (pos + k) (by omega)]; exact HALL.out k hk)]
          simp only [Prod.mk.injEq, true_and]
          omega
        case measure =>
          rw [IP.out]
          simp only [World.iterPos, IT2.out]
          omega
    · have hnx : ∀ ty, (Instr.next (.pointer (some ⟨w.heap.size, 0, none⟩)) true ty).run Tryd.prog wr = _ := fun ty => Lib.run_next_end_at wr w.heap.size sub pos ty hit hp
      have hpe : pos = n := by have := HSUB.out; omega
      have z1 := hx.c1
      have z3 := hx.c3
      have f1 := hx.f 1
      have f3 := hx.f 3
      have HX := Lib.hid hx
      have w1 : IntKind.i64.wrap ((n : Int) - (f : Int)) = (n : Int) - (f : Int) := i64_in (by omega) (by omega)
      have w2 : IntKind.i64.wrap (c + ((n : Int) - (f : Int))) = c + ((n : Int) - (f : Int)) := i64_in (by omega) (by omega)
      have HF := Lib.hid (show f ≤ n by omega)
      rw [hpe] at hadv
      have HADV := Lib.hid hadv
      clear hadv hx hit hpe
      go_wp2
      go_end0
      refine ⟨rfl, ?_⟩
      have hf := HF.out
      have := ix_set (a' := s) (p' := (l, c + ((n : Int) - (f : Int)))) (ix_set (p' := (l, c + ((n : Int) - (f : Int)))) HX.out 3 (.int .i64 (c + ((n : Int) - (f : Int)))) rfl) 1 (.int .i64 (s : Int)) rfl
      rw [HADV.out, HS.out, show ((n - f : Nat) : Int) = (n : Int) - (f : Int) by omega]
      exact this

end Go.Proofs.YtifmnijdaboenaaDoor
