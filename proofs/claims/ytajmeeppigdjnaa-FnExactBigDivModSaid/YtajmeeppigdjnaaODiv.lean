/- The reference's division bit by bit, walked; no condition. -/
import Derived.Test.YtajmeeppigdjnaaDivN
import Derived.Test.YtajmeeppigdjnaaPuBigAdd
import Derived.Test.YtajmeeppigdjnaaOCmp
import Derived.Test.YtajmeeppigdjnaaOTrim
import Derived.Test.YtajmeeppigdjnaaHm
import Derived.StillTailTactics
import Derived.IntWalk
namespace Go.Proofs.Ytajmeeppigdjnaa
open Go.RowKit Go.Proofs.Ytajmeeppigdjnaa.Own Go.Proofs.YtajmeeppigdjnaaW.PrintWords Go.Proofs.YtajmeeppigdjnaaW.PrintMore Go.Proofs.Ytajmeeppigdjnaa.PFnExactBigAdd
set_option linter.unusedVariables false
set_option linter.unusedSimpArgs false

/-- A made row of limbs. -/
def QRow (w : World) (g : Nat) (o : List Int) : Prop := w.heap[g]? = some (.cells ((o.map (Value.int .u32)).toArray) 62 (0, 0))

theorem made_limbs (n : Nat) : madeCells #[.int .u32 0] n = ((List.replicate n (0 : Int)).map (Value.int .u32)).toArray := by
  apply Array.ext'
  apply List.ext_getElem
  · simp [madeCells]
  · intro i h1 h2
    simp [madeCells, Nat.mod_one]
theorem QRow.set {w : World} {g : Nat} {o : List Int} (h : QRow w g o) (j : Nat) (x : Int) : QRow (w.setCell ⟨g, j, none⟩ (.int .u32 x)) g (o.set j x) := by
  have := blk_set h j (.int .u32 x)
  unfold QRow
  rw [this]
  simp [List.map_set]
theorem QRow.cell {w : World} {g : Nat} {o : List Int} (h : QRow w g o) {j : Nat} (hj : j < o.length) : w.cell? ⟨g, j, none⟩ = some (.int .u32 (lmb o j)) := by
  rw [blk_cell h, lmb_at hj]
  simp [hj]
theorem QRow.frozen {w : World} {g : Nat} {o : List Int} (h : QRow w g o) (j : Nat) : w.frozen? ⟨g, j, none⟩ = false := blk_frozen h j
theorem QRow.R {w : World} {B g : Nat} {o : List Int} (h : QRow w g o) (hB : B ≤ g) (hm : o.length ≤ maxLen) : Kd.R (Kd.int .u32) 62 w B (fun _ => True) (.slice (some ⟨g, 0, none⟩) o.length o.length) o :=
  kdR_of_owns ⟨by simp, .inr ⟨g, o.length, (o.map (Value.int .u32)).toArray, rfl, hB, h, Nat.le_refl _, hm, by simp, by simp [List.take_of_length_le]⟩⟩
theorem QRow.below {w w1 : World} {g : Nat} {o : List Int} (h : QRow w g o) (hb : Below w.heap.size w w1) : QRow w1 g o := blk_below h hb
theorem QRow.other {w : World} {g k i : Nat} {o : List Int} {u : Value} (h : QRow w g o) (hk : g ≠ k) : QRow (w.setCell ⟨k, i, none⟩ u) g o := (Below.heap_setCell w ⟨k, i, none⟩ u g hk).trans h
/-- A row that lies apart from block q. -/
def RemAt (W : World) (B q : Nat) (v : Value) (l : List Int) : Prop := Kd.R (Kd.int .u32) 62 W B (fun k => k ≠ q) v l
theorem RemAt.below {W W' : World} {B q : Nat} {v : Value} {l : List Int} (h : RemAt W B q v l) (hb : Below W.heap.size W W') : RemAt W' B q v l := Kd.R_below h hb
theorem RemAt.of {w W : World} {B q : Nat} {v : Value} {l : List Int} (h : Kd.R (Kd.int .u32) 62 W w.heap.size (fun _ => True) v l) (hB : B ≤ w.heap.size) (hq : q < w.heap.size) : RemAt W B q v l :=
  Kd.R_lower (Kd.R_mono (Kd.R_bound h) (fun k hk => by have := hk.2.1; omega)) hB
theorem RemAt.store {W : World} {B q g i : Nat} {v u : Value} {l : List Int} {cells : Array Value} (h : RemAt W B q v l) (hb : W.heap[g]? = some (.cells cells 84 (0, 0))) : RemAt (W.setCell ⟨g, i, none⟩ u) B q v l :=
  Kd.R_mono (Kd.R_step (Kd.R_types h hb (by decide)) (fun k hk _ => Below.heap_setCell W ⟨g, i, none⟩ u k hk.2)) (fun k hk => hk.1)
theorem RemAt.put {W : World} {B q i : Nat} {v u : Value} {l : List Int} (h : RemAt W B q v l) : RemAt (W.setCell ⟨q, i, none⟩ u) B q v l :=
  Kd.R_step h (fun k hk _ => Below.heap_setCell W ⟨q, i, none⟩ u k hk)
theorem pair_store {W : World} {g : Nat} {x y v : Value} (h : W.heap[g]? = some (.cells #[x, y] 84 (0, 0))) : (W.setCell ⟨g, 1, none⟩ v).heap[g]? = some (.cells #[x, v] 84 (0, 0)) := by
  have := blk_set h 1 v
  simpa using this
theorem pair_store0 {W : World} {g : Nat} {x y v : Value} (h : W.heap[g]? = some (.cells #[x, y] 84 (0, 0))) : (W.setCell ⟨g, 0, none⟩ v).heap[g]? = some (.cells #[v, y] 84 (0, 0)) := by
  have := blk_set h 0 v
  simpa using this
theorem blk_keep {W : World} {g k i : Nat} {o : Obj} {u : Value} (h : W.heap[g]? = some o) (hk : g ≠ k) : (W.setCell ⟨k, i, none⟩ u).heap[g]? = some o := (Below.heap_setCell W ⟨k, i, none⟩ u g hk).trans h
/-- What holds between two steps: the quotient's row, the remainder's row, the variable that bears them. -/
structure DivAt (w wr : World) (Q : Nat) (R : List Int) (L : Nat) (o : List Int) (rv : Value) : Prop where
  row : QRow wr (w.heap.size + 1) o
  len : o.length = L
  us : Us o
  quo : val o = (Q : Int)
  rem : RemAt wr w.heap.size (w.heap.size + 1) rv R
  blk5 : wr.heap[w.heap.size + 1 + 1]? = some (.cells #[.slice (some ⟨w.heap.size + 1, 0, none⟩) L L, rv] 84 (0, 0))
  blk4 : wr.heap[w.heap.size]? = some (.cells #[.slice none 0 0, .slice none 0 0] 84 (0, 0))
  bel : Below w.heap.size w wr
section
variable {w wr wx : World} {Q Q' L : Nat} {R R' o : List Int} {rv v : Value}
theorem DivAt.sz (h : DivAt w wr Q R L o rv) : w.heap.size + 1 + 1 < wr.heap.size := (Array.getElem?_eq_some_iff.1 h.blk5).1
theorem DivAt.below (h : DivAt w wr Q R L o rv) (hb : Below wr.heap.size wr wx) : DivAt w wx Q R L o rv :=
  ⟨h.row.below hb, h.len, h.us, h.quo, h.rem.below hb, blk_below h.blk5 hb, blk_below h.blk4 hb, h.bel.trans (hb.mono h.bel.size)⟩
theorem DivAt.storeRem (h : DivAt w wr Q R L o rv) (h2 : RemAt wr w.heap.size (w.heap.size + 1) v R') : DivAt w (wr.setCell ⟨w.heap.size + 1 + 1, 1, none⟩ v) Q R' L o v :=
  ⟨h.row.other (by omega), h.len, h.us, h.quo, h2.store h.blk5, pair_store h.blk5, blk_keep h.blk4 (by omega), h.bel.setCell (by simp; omega) _⟩
theorem DivAt.setBit (h : DivAt w wr Q R L o rv) {j : Nat} {x : Int} (hx0 : 0 ≤ x) (hx1 : x < 4294967296) (hv : val (o.set j x) = (Q' : Int)) : DivAt w (wr.setCell ⟨w.heap.size + 1, j, none⟩ (.int .u32 x)) Q' R L (o.set j x) rv :=
  ⟨h.row.set j x, by rw [List.length_set]; exact h.len, h.us.set j hx0 hx1, hv, h.rem.put, blk_keep h.blk5 (by omega), blk_keep h.blk4 (by omega), h.bel.setCell (by simp) _⟩
theorem DivAt.newRem (h : DivAt w wr Q R L o rv) {w1 : World} (hb : Below wr.heap.size wr w1) (hr : Kd.R (Kd.int .u32) 62 w1 wr.heap.size (fun _ => True) v R') : RemAt w1 w.heap.size (w.heap.size + 1) v R' :=
  RemAt.of hr h.bel.size (by have := h.sz; omega)
theorem DivAt.z51 (h : DivAt w wr Q R L o rv) : wr.cell? ⟨w.heap.size + 1 + 1, 1, none⟩ = some rv := (blk_cell h.blk5 1).trans rfl
theorem DivAt.z50 (h : DivAt w wr Q R L o rv) : wr.cell? ⟨w.heap.size + 1 + 1, 0, none⟩ = some (.slice (some ⟨w.heap.size + 1, 0, none⟩) L L) := (blk_cell h.blk5 0).trans rfl
theorem DivAt.f51 (h : DivAt w wr Q R L o rv) : wr.frozen? ⟨w.heap.size + 1 + 1, 1, none⟩ = false := blk_frozen h.blk5 1
end
theorem cell_at {w wr : World} {a : Addr} {v : Value} (hb : Below w.heap.size w wr) (h : w.cell? a = some v) : wr.cell? a = some v := (World.cell?_of_block (hb.block _ (World.block_lt_of_cell? w _ h))).trans h
theorem below_old (W : World) (o : Obj) : Below W.heap.size W (W.alloc o) := (Below.refl W.heap.size W).alloc (Nat.le_refl _) o
theorem bit_and {x : Int} (h0 : 0 ≤ x) (h1 : x < 4294967296) (s : Nat) : Go.bits .and .u32 (x / 2 ^ s) 1 = x / ((2 ^ s : Nat) : Int) % 2 := by
  have e : ((2 ^ s : Nat) : Int) = 2 ^ s := by rw [Int.natCast_pow]; rfl
  rw [e]
  have hp : (0 : Int) < 2 ^ s := by rw [← e]; have := Nat.two_pow_pos s; omega
  have h2 : 0 ≤ x / 2 ^ s := Int.ediv_nonneg h0 (by omega)
  have h3 : x / 2 ^ s ≤ x := Int.ediv_le_self _ h0
  exact bits_mask .u32 32 (by decide) wraps_u32 1 (by decide) (x / 2 ^ s) h2 (by omega)
theorem two_mod {s : Nat} (hs : s < 32) : (2 : Int) ^ s % 4294967296 = ((2 ^ s : Nat) : Int) := by
  have e : ((2 ^ s : Nat) : Int) = 2 ^ s := by rw [Int.natCast_pow]; rfl
  have h : 2 ^ s < 2 ^ 32 := Nat.pow_lt_pow_right (by decide) hs
  have h2 : ((2 ^ s : Nat) : Int) < 4294967296 := by
    have := Int.ofNat_lt.2 h
    exact this
  rw [← e]
  exact Int.emod_eq_of_lt (Int.natCast_nonneg _) h2
theorem R_past {W : World} {v u : Value} {l : List Int} {i B g : Nat} {cs : Array Value} {ok : Nat → Prop} (h : Kd.R (Kd.int .u32) 62 W B ok v l) (hbk : W.heap[g]? = some (.cells cs 84 (0, 0))) : Kd.R (Kd.int .u32) 62 (W.setCell ⟨g, i, none⟩ u) B ok v l :=
  Kd.R_mono (Kd.R_step (Kd.R_types h hbk (by decide)) (fun k hk _ => Below.heap_setCell W ⟨g, i, none⟩ u k hk.2)) (fun k hk => hk.1)
theorem one_row {W : World} {g : Nat} (hg : W.heap.size = g) : Kd.C (Kd.int .u32) (W.alloc (.cells #[.int .u32 1] 62)) (some ⟨g, 0, none⟩) ([1] : List Int).length [1] := by
  subst hg
  exact (Kd.R_reads' (QRow.R (B := 0) (o := [1]) (blk_new W (.cells #[.int .u32 1] 62)) (Nat.zero_le _) (by decide))).2.2
theorem lim_small {x d : Nat} {b : List Int} (hb : Us b) (hlb : b.length ≤ 40) (hd : val b = d) (h : x < d) : (lim (x : Int)).length ≤ 40 := by
  have h1 := val_lt hb
  exact Nat.le_trans (lim_len_le (n := b.length) (by omega) (by omega)) hlb
set_option maxRecDepth 100000 in
set_option maxHeartbeats 8000000 in
theorem specDiv (a b : List Int) (ha : Us a) (hb : Us b) (hla : a.length ≤ 40) (hlb : b.length ≤ 40) (hd : 0 < val b) (htb : Top b) (A A' : Option Addr) (c c' : Nat) (hc : a.length ≤ c) (hc' : b.length ≤ c') (w : World) (hr : Kd.C (Kd.int .u32) w A a.length a) (hr' : Kd.C (Kd.int .u32) w A' b.length b) :
    Calls Try.prog 77 #[.slice A a.length c, .slice A' b.length c'] w fun e w' => ∃ vq vr, e = .returned (.agg #[vq, vr]) ∧ Kd.R (Kd.int .u32) 62 w' w.heap.size (fun k => some k ≠ vr.ownBlock) vq (lim (val a / val b)) ∧ Kd.R (Kd.int .u32) 62 w' w.heap.size (fun _ => True) vr (lim (val a % val b)) ∧ Below w.heap.size w w' := by
  have R0 := Lib.hid hr
  have R1 := Lib.hid hr'
  obtain ⟨n, hn⟩ : ∃ n : Nat, val a = n := ⟨(val a).toNat, by have := val_nonneg ha; omega⟩
  obtain ⟨d, hdn⟩ : ∃ d : Nat, val b = d := ⟨(val b).toNat, by omega⟩
  have hd0 : 0 < d := by omega
  have HN := Lib.hid hn
  have HD := Lib.hid hdn
  clear hr hr' hn hdn
  have RM := print_make 22 62 .u32 4 Try.underlying22 infoU32 (by decide) a.length (by omega)
  go_enter Try.func77, Try.ntmps77
  go_wp2_with fail
  generalize hW : (((w.alloc (.cells #[.slice none 0 0, .slice none 0 0] 84)).alloc (.cells (madeCells #[.int .u32 0] a.length) 62)).alloc (.cells #[.slice (some ⟨w.heap.size + 1, 0, none⟩) a.length a.length, .slice none 0 0] 84)) = W0
  have START : Hid (DivAt w W0 (n / 2 ^ (32 * a.length) / d * 2 ^ (32 * a.length)) (lim ((n / 2 ^ (32 * a.length) % d : Nat) : Int)) a.length (List.replicate a.length 0) (.slice none 0 0)) := by
    subst hW
    have h0 := lt_two_pow ha HN.out
    refine ⟨?_, by simp, Us.replicate _, ?_, ?_, ?_, ?_, ?_⟩
    · have h := blk_old (blk_new_at (w := w.alloc (.cells #[.slice none 0 0, .slice none 0 0] 84)) (g := w.heap.size + 1) (o := .cells (madeCells #[.int .u32 0] a.length) 62) (by simp)) (.cells #[.slice (some ⟨w.heap.size + 1, 0, none⟩) a.length a.length, .slice none 0 0] 84)
      exact h.trans (by rw [made_limbs])
    · rw [h0, val_replicate]; simp
    · rw [h0]
      simp only [Nat.zero_mod]
      have : lim ((0 : Nat) : Int) = [] := lim_zero
      rw [this]
      exact Kd.R_nil _ _ _ _ _
    · exact blk_new_at (by simp)
    · exact blk_old (blk_old (blk_new w _) _) _
    · exact (((Below.refl _ _).alloc (Nat.le_refl _) _).alloc (by simp) _).alloc (by simp; omega) _
  clear hW RM
  go_loopw [6] (fun iv wr => ∃ q : Nat, q ≤ 32 * a.length ∧ iv = .int .i64 ((q : Int) - 1) ∧ Hid (∃ o rv, DivAt w wr (n / 2 ^ q / d * 2 ^ q) (lim ((n / 2 ^ q % d : Nat) : Int)) a.length o rv)) (fun iv _ => (intOf iv + 1).toNat)
  case atStart => exact ⟨32 * a.length, Nat.le_refl _, by go_num, Lib.hid ⟨_, _, START.out⟩⟩
  case round =>
    obtain ⟨q, hq, rfl, hrel⟩ := hrel
    obtain ⟨o, rv, hdv⟩ := hrel.out
    clear hrel START
    obtain ⟨AR, cR, rfl⟩ := Kd.R_slice hdv.rem
    have DV := Lib.hid hdv
    clear hdv
    cases q with
    | zero =>
      rw [show (((0 : Nat) : Int) - 1) = -1 by omega]
      have hq0 := DV.out.quo
      have hrem := DV.out.rem
      rw [Nat.pow_zero, Nat.div_one, Nat.mul_one] at hq0
      rw [Nat.pow_zero, Nat.div_one] at hrem
      obtain ⟨Lr, hLr⟩ : ∃ Lr, lim ((n % d : Nat) : Int) = Lr := ⟨_, rfl⟩
      obtain ⟨Lq, hLq⟩ : ∃ Lq, lim (val o) = Lq := ⟨_, rfl⟩
      have hdv := DV.out
      rw [Nat.pow_zero, Nat.div_one, Nat.mul_one, hLr] at hdv
      rw [hLr] at hrem
      have hAR := (Kd.R_reads' hrem).1
      rw [hAR] at hdv
      rw [hAR] at hrem
      replace DV := Lib.hid hdv
      have hQL : lim (val a / val b) = Lq := by rw [HN.out, HD.out, ← hLq, hq0]; rfl
      have hRL : lim (val a % val b) = Lr := by rw [HN.out, HD.out, ← hLr]; rfl
      have HQL := Lib.hid hQL
      have HRL := Lib.hid hRL
      have hoR := DV.out.row.R (B := w.heap.size) (by omega) (by rw [DV.out.len]; unfold maxLen; omega)
      have hoC := (Kd.R_reads' hoR).2.2
      have CT := Lib.hid (show Calls Try.prog 52 #[.slice (some ⟨w.heap.size + 1, 0, none⟩) a.length a.length] wr fun e w' => ∃ v0_ : Value, e = .returned (v0_) ∧ Kd.R (Kd.int .u32) 62 w' wr.heap.size (fun _ => True) v0_ Lq ∧ Below wr.heap.size wr w' from by
        have hk : spec_l1Trim.f 0 o = some (lim (val o)) := by unfold spec_l1Trim.f; exact if_pos ⟨by rw [DV.out.len]; omega, DV.out.us⟩
        rw [hLq] at hk
        have h := spec_l1Trim.calls 0 (some ⟨w.heap.size + 1, 0, none⟩) o.length o Lq wr hoC (Nat.le_refl _) hk
        rwa [DV.out.len] at h)
      have z50 := DV.out.z50
      clear hq0 hrem hdv hoR hoC hQL hRL hLq hLr hAR
      go_wp2_with fail
      refine CT.out.mono ?_
      clear CT z50
      rintro e w4 ⟨v, rfl, hv, hb4⟩
      obtain ⟨A1, c1, rfl⟩ := Kd.R_slice hv
      have hszr := DV.out.sz
      have REM := Lib.hid DV.out.rem
      have hsz := DV.out.sz
      replace DV := Lib.hid (DV.out.below hb4)
      have HVq := Lib.hid hv
      have REM4 := Lib.hid (REM.out.below hb4)
      have z50 := DV.out.z50
      have f50 := blk_frozen DV.out.blk5 0
      have B5 := Lib.hid (pair_store0 (v := .slice A1 Lq.length c1) DV.out.blk5)
      have B4 := Lib.hid (blk_keep (k := w.heap.size + 1 + 1) (i := 0) (u := .slice A1 Lq.length c1) DV.out.blk4 (by omega))
      have y50 := (blk_cell B5.out 0).trans (rfl : (_ : Option Value) = some (.slice A1 Lq.length c1))
      have y51 := (blk_cell B5.out 1).trans (rfl : (_ : Option Value) = some (.slice AR Lr.length cR))
      have y40 := (blk_cell B4.out 0).trans (rfl : (_ : Option Value) = some (.slice none 0 0))
      have y41 := (blk_cell B4.out 1).trans (rfl : (_ : Option Value) = some (.slice none 0 0))
      have g40 := blk_frozen B4.out 0
      have g41 := blk_frozen B4.out 1
      clear hv hb4
      go_wp2_with fail
      have hset := blk_setCells [.slice A1 Lq.length c1, .slice AR Lr.length cR] 0 B4.out (by rfl)
      have q0 := blk_cell hset 0
      have q1 := blk_cell hset 1
      simp [World.setCells] at q0 q1
      have HBe := DV.out.bel
      have hvr : ∀ k, (Value.slice AR Lr.length cR).ownBlock = some k → k < wr.heap.size := fun k hk => by
        obtain ⟨_, _, ho, _⟩ := REM.out
        obtain ⟨_, cur, hc⟩ := ownsRow_block ho hk
        exact (Array.getElem?_eq_some_iff.1 hc).1
      have HV1 : Kd.R (Kd.int .u32) 62 w4 w.heap.size (fun k => some k ≠ (Value.slice AR Lr.length cR).ownBlock) (.slice A1 Lq.length c1) Lq :=
        Kd.R_lower (Kd.R_mono (Kd.R_bound HVq.out) (fun k hk e => by have h1 := hvr k e.symm; have h2 := hk.2.1; omega)) (by omega)
      have HR1 : Kd.R (Kd.int .u32) 62 w4 w.heap.size (fun _ => True) (.slice AR Lr.length cR) Lr := Kd.R_mono REM4.out (fun _ _ => trivial)
      refine bodyPost_ret (v := .agg #[.slice A1 Lq.length c1, .slice AR Lr.length cR]) (by simp [results, Try.results77, go_sem, q0, q1]) rfl ⟨_, _, rfl, ?_, ?_, ?_⟩
      · rw [HQL.out]
        exact R_past (R_past (R_past HV1 DV.out.blk5) B4.out) (pair_store0 B4.out)
      · rw [HRL.out]
        exact R_past (R_past (R_past HR1 DV.out.blk5) B4.out) (pair_store0 B4.out)
      · exact ((HBe.setCell (by simp; omega) _).setCell (by simp) _).setCell (by simp) _
    | succ i =>
      rw [show (((i + 1 : Nat) : Int) - 1) = (i : Int) by omega]
      have hi32 : i / 32 < a.length := by omega
      have hi : i < 32 * 40 := by omega
      obtain ⟨r, hrr⟩ : ∃ r : Nat, r = n / 2 ^ (i + 1) % d := ⟨_, rfl⟩
      have hrd : r < d := by rw [hrr]; exact Nat.mod_lt _ hd0
      have HR := Lib.hid hrr
      have hdv := DV.out
      rw [← hrr] at hdv
      have hRl := lim_small hb hlb HD.out hrd
      obtain ⟨k, hk⟩ := (spec_l1Add_is (us_lim (r : Int)) (us_lim (r : Int)) (by omega) (by omega)).rounds
      rw [val_lim (by omega), show (r : Int) + (r : Int) = ((2 * r : Nat) : Int) by omega] at hk
      obtain ⟨L0, hL0⟩ : ∃ L0, lim (r : Int) = L0 := ⟨_, rfl⟩
      obtain ⟨L1, hL1⟩ : ∃ L1, lim ((2 * r : Nat) : Int) = L1 := ⟨_, rfl⟩
      rw [hL0, hL1] at hk
      rw [hL0] at hdv hRl
      have HL0 := Lib.hid hL0
      have HL1 := Lib.hid hL1
      replace DV := Lib.hid hdv
      clear hdv hL0 hL1
      have hC := Kd.R_reads' DV.out.rem
      have CT := Lib.hid (spec_l1Add.calls k AR cR _ AR cR _ _ wr hC.2.2 (by omega) hC.2.2 (by omega) hk)
      have z51 := DV.out.z51
      rw [hC.1] at z51
      clear hrr hk hC
      go_wp2_with fail
      refine CT.out.mono ?_
      clear CT z51
      rintro e w4 ⟨v, rfl, hv, hb4⟩
      obtain ⟨A1, c1, rfl⟩ := Kd.R_slice hv
      have REM := Lib.hid (DV.out.newRem hb4 hv)
      replace DV := Lib.hid (DV.out.below hb4)
      have z51 := DV.out.z51
      have f51 := DV.out.f51
      replace DV := Lib.hid (DV.out.storeRem REM.out)
      obtain ⟨ba, oa, rfl, _, hca⟩ := kdC_cell R0.out (by omega)
      have za := cell_at DV.out.bel (hca (i / 32) _ (List.getElem?_eq_getElem hi32))
      rw [← lmb_at hi32] at za
      have BIT := Lib.hid (bit_at ha HN.out i)
      have LR := lmb_range ha (i / 32)
      generalize lmb a (i / 32) = x at *
      clear hca hv hb4 REM
      have t1 : Int.tdiv (i : Int) 32 = ((i / 32 : Nat) : Int) := by rw [Int.tdiv_eq_ediv_of_nonneg (by omega)]; rfl
      have t2 : Int.tmod (i : Int) 32 = ((i % 32 : Nat) : Int) := by rw [Int.tmod_eq_emod_of_nonneg (by omega)]; rfl
      obtain ⟨bt, hbt⟩ : ∃ bt : Nat, n / 2 ^ i % 2 = bt := ⟨_, rfl⟩
      have hbt2 : bt < 2 := by rw [← hbt]; exact Nat.mod_lt _ (by decide)
      have hband := (bit_and LR.1 LR.2 (i % 32)).trans BIT.out
      rw [hbt] at hband
      have HBT := Lib.hid hbt
      clear hbt LR BIT
      have SZE := Lib.hid (show (w4.setCell ⟨w.heap.size + 1 + 1, 1, none⟩ (.slice A1 L1.length c1)).heap.size = w4.heap.size by simp)
      go_upto_if 35 with fail
      generalize (w4.setCell ⟨w.heap.size + 1 + 1, 1, none⟩ (.slice A1 L1.length c1)) = W5 at *
      obtain ⟨L2, hL2⟩ : ∃ L2, lim ((2 * r + bt : Nat) : Int) = L2 := ⟨_, rfl⟩
      have HL2 := Lib.hid hL2
      clear hL2
      clear za z51 f51 hband t1 t2
      go_cut [] from 36 to 40 (fun wx => Hid (∃ v, DivAt w wx (n / 2 ^ (i + 1) / d * 2 ^ (i + 1)) L2 a.length o v))
      case first =>
        obtain rfl | rfl : bt = 0 ∨ bt = 1 := by omega
        · obtain rfl : L1 = L2 := by rw [← HL1.out, ← HL2.out, Nat.add_zero]
          go_wp2_with fail
          go_meet
          exact Lib.hid ⟨_, DV.out⟩
        · have h1L : L1.length ≤ 41 := by
            rw [← HL1.out]
            have h1 := val_lt hb
            have h2 := PW_mono hlb
            have e41 : PW 41 = 4294967296 * PW 40 := PW_succ 40
            have := PW_pos 40
            have := HD.out
            exact lim_len_le (n := 41) (by omega) (by omega)
          have hu1 : Us L1 := by rw [← HL1.out]; exact us_lim _
          obtain ⟨k, hk⟩ := (spec_l1Add_is hu1 (Us.cons (x := 1) (by omega) (by omega) Us.nil) (by omega) (by simp)).rounds
          rw [val_one] at hk
          have e2 : lim (val L1 + 1) = L2 := by
            rw [← HL1.out, ← HL2.out, val_lim (by omega), show ((2 * r : Nat) : Int) + 1 = ((2 * r + 1 : Nat) : Int) by omega]
          rw [e2] at hk
          have hC := Kd.R_reads' DV.out.rem
          have CT := Lib.hid (spec_l1Add.calls k A1 c1 _ (some ⟨W5.heap.size, 0, none⟩) 1 [1] _ (W5.alloc (.cells #[.int .u32 1] 62)) (Kd.C_below hC.2.2 (below_old _ _)) (by omega) (one_row rfl) (by simp) hk)
          have z51 := (DV.out.below (below_old _ (.cells #[.int .u32 1] 62))).z51
          have y51 := DV.out.z51
          clear hk hC
          go_wp2_with fail
          refine CT.out.mono ?_
          clear CT z51 y51
          rintro e w6 ⟨v, rfl, hv, hb6⟩
          obtain ⟨A2, c2, rfl⟩ := Kd.R_slice hv
          replace DV := Lib.hid (DV.out.below (below_old _ (.cells #[.int .u32 1] 62)))
          have REM := Lib.hid (DV.out.newRem hb6 hv)
          replace DV := Lib.hid (DV.out.below hb6)
          have z51 := DV.out.z51
          have f51 := DV.out.f51
          replace DV := Lib.hid (DV.out.storeRem REM.out)
          go_wp2_with fail
          go_meet
          exact Lib.hid ⟨_, DV.out⟩
      case rest =>
        obtain ⟨v, hdv⟩ := hcut.out
        clear hcut DV
        obtain ⟨A2, c2, rfl⟩ := Kd.R_slice hdv.rem
        have DV := Lib.hid hdv
        clear hdv
        have hu2 : Us L2 := by rw [← HL2.out]; exact us_lim _
        have ht2 : Top L2 := by rw [← HL2.out]; exact top_lim _
        have hv2 : val L2 = ((2 * r + bt : Nat) : Int) := by rw [← HL2.out, val_lim (by omega)]
        have h2L : L2.length ≤ 41 := by
          rw [← HL2.out]
          have h1 := val_lt hb
          have h2 := PW_mono hlb
          have e41 : PW 41 = 4294967296 * PW 40 := PW_succ 40
          have := PW_pos 40
          have := HD.out
          exact lim_len_le (n := 41) (by omega) (by omega)
        have hC := Kd.R_reads' DV.out.rem
        have hCb := Kd.C_below R1.out DV.out.bel
        have hk : spec_l1Cmp.f 0 L2 b = some (cmpI (val L2) (val b)) := by unfold spec_l1Cmp.f; exact if_pos ⟨by omega, by omega, hu2, hb⟩
        obtain ⟨cc, hcc⟩ : ∃ cc, cmpI (val L2) (val b) = cc := ⟨_, rfl⟩
        rw [hcc] at hk
        have CT := Lib.hid (spec_l1Cmp.calls 0 A2 c2 _ A' c' _ _ _ hC.2.2 (by omega) hCb hc' hk)
        have z51 := DV.out.z51
        have STEP := Lib.hid (div_bit (n := n) (d := d) (i := i) hd0)
        rw [← HR.out, HBT.out] at STEP
        by_cases hge : d ≤ 2 * r + bt
        · have hccb : decide (0 ≤ cc) = true := by
            have hd' := HD.out
            rw [← hcc, hv2]
            unfold cmpI
            rw [if_neg (by omega)]
            split <;> rfl
          have ST := STEP.out.1 hge
          have hbl : b.length ≤ L2.length := len_of_le hu2 hb htb (by rw [hv2, HD.out]; omega)
          obtain ⟨k, hk3⟩ := (spec_l1Sub_is hu2 hb (by omega) hbl (by rw [hv2, HD.out]; omega)).rounds
          rw [hv2, HD.out, show ((2 * r + bt : Nat) : Int) - (d : Int) = ((n / 2 ^ i % d : Nat) : Int) by rw [ST.2]; omega] at hk3
          obtain ⟨L3, hL3⟩ : ∃ L3, lim ((n / 2 ^ i % d : Nat) : Int) = L3 := ⟨_, rfl⟩
          rw [hL3] at hk3
          have HL3 := Lib.hid hL3
          have CT2 := Lib.hid (fun wx (hx : Below wc.heap.size wc wx) => spec_l1Sub.calls k A2 c2 _ A' c' _ _ wx (Kd.C_below hC.2.2 hx) (by omega) (Kd.C_below hCb hx) hc' hk3)
          have HST := Lib.hid ST
          have HCC := Lib.hid hcc
          have HK := Lib.hid hk
          clear ST hk3 hL3 hC hCb hcc hk STEP
          go_wp2_with fail
          refine CT.out.mono ?_
          clear CT z51
          rintro e w7 ⟨rfl, hdr⟩
          have hb7 : Below wc.heap.size wc w7 := by obtain ⟨nd, rfl⟩ := hdr; exact pw_below_drewN (Below.refl _ _) nd
          replace CT2 := Lib.hid (CT2.out _ hb7)
          replace DV := Lib.hid (DV.out.below hb7)
          have z51 := DV.out.z51
          clear hdr hb7
          go_wp2_with fail
          refine CT2.out.mono ?_
          clear CT2 z51
          rintro e w8 ⟨v, rfl, hv, hb8⟩
          obtain ⟨A3, c3, rfl⟩ := Kd.R_slice hv
          have REM := Lib.hid (DV.out.newRem hb8 hv)
          replace DV := Lib.hid (DV.out.below hb8)
          have z51 := DV.out.z51
          have f51 := DV.out.f51
          replace DV := Lib.hid (DV.out.storeRem REM.out)
          have hjo : i / 32 < o.length := by rw [DV.out.len]; exact hi32
          have SB := Lib.hid (set_bit DV.out.us (Q := n / 2 ^ (i + 1) / d) (i := i) DV.out.quo hjo)
          have z50 := DV.out.z50
          have zq := DV.out.row.cell hjo
          have fq := DV.out.row.frozen (i / 32)
          have LY := lmb_range DV.out.us (i / 32)
          go_upto_region 10 with fail
          generalize (w8.setCell ⟨w.heap.size + 1 + 1, 1, none⟩ (.slice A3 L3.length c3)) = W9 at *
          have t3 : (i : Int) / 32 < (a.length : Int) := by omega
          have t4 : 0 ≤ (i : Int) / 32 := by omega
          have t5 : ((i : Int) / 32).toNat = i / 32 := by omega
          have t6 : IntKind.i64.wrap ((i : Int) / 32) = (i : Int) / 32 := IntWalk.i64_in _ (by omega)
          have t7 : IntKind.i64.wrap ((i : Int) % 32) = (i : Int) % 32 := IntWalk.i64_in _ (by omega)
          have t8 : 0 ≤ (i : Int) % 32 := by omega
          have t9 : ((i : Int) % 32).toNat = i % 32 := by omega
          have t10 : IntKind.u64.wrap ((i : Int) % 32) = (i : Int) % 32 := u64_in (by omega) (by omega)
          have t1 : Int.tdiv (i : Int) 32 = (i : Int) / 32 := Int.tdiv_eq_ediv_of_nonneg (by omega)
          have t2 : Int.tmod (i : Int) 32 = (i : Int) % 32 := Int.tmod_eq_emod_of_nonneg (by omega)
          go_still_tail 15, (by kernel_rfl)
          go_wp2_with fail
          clear t1 t2 t3 t4 t5 t6 t7 t8 t9 t10 z50 zq fq z51 f51 hccb
          have hp2 : (2 : Int) ^ (i % 32) % 4294967296 = ((2 ^ (i % 32) : Nat) : Int) := two_mod (Nat.mod_lt i (by decide))
          have FIN := Lib.hid ((DV.out.setBit (j := i / 32) (x := lmb o (i / 32) + ((2 ^ (i % 32) : Nat) : Int)) (Q' := n / 2 ^ i / d * 2 ^ i) (by omega) SB.out.2.1 (by
            rw [SB.out.2.2, HST.out.1, Nat.add_mul, Nat.one_mul, Nat.mul_comm 2, Nat.mul_assoc, Nat.pow_succ, Nat.mul_comm 2 (2 ^ i)])).below (Below.refl _ _).drew)
          rw [← SB.out.1, ← hp2, ← HL3.out] at FIN
          clear hp2 SB LY
          go_roundw
          case rel => exact ⟨i, by omega, by go_num, Lib.hid ⟨_, _, FIN.out⟩⟩
          case measure => simp [intOf]
        · have hccb : decide (0 ≤ cc) = false := by
            have hd' := HD.out
            rw [← hcc, hv2]
            unfold cmpI
            rw [if_pos (by omega)]
            rfl
          have ST := STEP.out.2 (by omega)
          have FL := Lib.hid HL2.out.symm
          clear hcc hk STEP hC hCb
          go_wp2_with fail
          refine CT.out.mono ?_
          clear CT z51
          rintro e w7 ⟨rfl, hdr⟩
          have hb7 : Below wc.heap.size wc w7 := by obtain ⟨nd, rfl⟩ := hdr; exact pw_below_drewN (Below.refl _ _) nd
          replace DV := Lib.hid (DV.out.below hb7)
          clear hdr hb7
          go_wp2_with fail
          have FIN := Lib.hid DV.out
          rw [FL.out, ← ST.2, show n / 2 ^ (i + 1) / d * 2 ^ (i + 1) = n / 2 ^ i / d * 2 ^ i by rw [ST.1, Nat.mul_comm 2, Nat.mul_assoc, Nat.pow_succ, Nat.mul_comm 2 (2 ^ i)]] at FIN
          have hA2 : L2.length = (lim ((n / 2 ^ i % d : Nat) : Int)).length := by rw [FL.out, ← ST.2]
          clear ST hccb
          go_roundw
          case rel => exact ⟨i, by omega, by go_num, Lib.hid ⟨_, _, FIN.out⟩⟩
          case measure => simp [intOf]

end Go.Proofs.Ytajmeeppigdjnaa
