/- Own contracts, in the print's form: limbs added, taken from one another; answers told as numbers' limbs; no condition. -/
import Derived.Test.YtajmeeppigdjnaaOBig
namespace Go.Proofs.Ytajmeeppigdjnaa.Own
open Go.RowKit Go.Proofs.Ytajmeeppigdjnaa Go.Proofs.YtajmeeppigdjnaaW.PrintWords Go.Proofs.YtajmeeppigdjnaaW.PrintMore
set_option linter.unusedVariables false
set_option linter.unusedSimpArgs false

/-- The program's array of limbs, in block g. -/
def Wide (w : World) (g : Nat) (o : List Int) : Prop := w.heap[g]? = some (.cells ((o.map (Value.int .u32)).toArray) 80 (0, 0))
theorem wide_zero : Try.zeroCells80 = ((List.replicate 82 (0 : Int)).map (Value.int .u32)).toArray := by kernel_rfl
theorem Wide.set {w : World} {g : Nat} {o : List Int} (h : Wide w g o) (j : Nat) (x : Int) : Wide (w.setCell ⟨g, j, none⟩ (.int .u32 x)) g (o.set j x) := by
  have := blk_set h j (.int .u32 x)
  unfold Wide
  rw [this]
  simp [List.map_set]
theorem Wide.cell {w : World} {g : Nat} {o : List Int} (h : Wide w g o) {j : Nat} (hj : j < o.length) : w.cell? ⟨g, j, none⟩ = some (.int .u32 (lmb o j)) := by
  rw [blk_cell h, lmb_at hj]
  simp [hj]
theorem Wide.frozen {w : World} {g : Nat} {o : List Int} (h : Wide w g o) (j : Nat) : w.frozen? ⟨g, j, none⟩ = false := blk_frozen h j
theorem Wide.row {w : World} {g : Nat} {o : List Int} (h : Wide w g o) {n : Nat} (hn : n ≤ o.length) (hm : o.length ≤ 82) : Kd.C (Kd.int .u32) w (some ⟨g, 0, none⟩) (o.take n).length (o.take n) := by
  refine ⟨rfl, by rw [List.length_take]; omega, fun _ => ⟨_, rfl, fun j p hj => ⟨[.int .u32 p], rfl, rfl, fun i u hu => ?_⟩⟩⟩
  match i, hu with
  | 0, hu =>
    obtain rfl : Value.int .u32 p = u := by simpa using hu
    rw [List.getElem?_take] at hj
    split at hj
    next hjn =>
      have hlt := (List.getElem?_eq_some_iff.1 hj).1
      have hc := h.cell hlt
      rw [lmb_at hlt, (List.getElem?_eq_some_iff.1 hj).2] at hc
      rw [show (Kd.int .u32).sz = 1 from rfl, Nat.mul_one, Nat.add_zero]
      unfold Addr.add
      by_cases h0 : j = 0
      · subst h0; simpa using hc
      · simpa [h0] using hc
    next => cases hj
theorem lmb_take {l : List Int} {n i : Nat} (h : i < n) : lmb (l.take n) i = lmb l i := by simp [lmb, List.getD_eq_getElem?_getD, List.getElem?_take, h]
theorem val_take (l : List Int) {n : Nat} (h : n ≤ l.length) : val (l.take n) = vt l n := by
  unfold val
  rw [List.length_take, Nat.min_eq_left h]
  exact vt_congr (fun i hi => lmb_take hi)
theorem vt_set_next {o : List Int} {j : Nat} (h : j < o.length) (x : Int) : vt (o.set j x) (j + 1) = vt o j + x * PW j := by
  simp only [vt]
  rw [lmb_set_same h, vt_set h, if_neg (by omega)]

/-- How many elements. -/
def sliceLen : Value → Nat | .slice _ n _ => n | _ => 0
theorem run_take_any (A : Option Addr) (c n m : Nat) (hm : m ≤ n) (hc : n ≤ c) (W : World) :
    (Instr.slice 22 (.slice A n c) none (some (.int .i64 m)) none).run Try.prog W = .ok (.slice A m c) W := by
  have h := run_take_u32 A c (List.replicate n 0) m (by simpa using hm) (by simpa using hc) W
  rw [List.length_replicate, List.length_take, List.length_replicate, Nat.min_eq_left hm] at h
  exact h
theorem run_take_wide (g : Nat) (m : Int) (h0 : 0 ≤ m) (hm : m ≤ 82) (W : World) :
    (Instr.sliceAt 80 (.pointer (some ⟨g, 0, none⟩)) none (some (.int .i64 m)) none).run Try.prog W = .ok (.slice (some ⟨g, 0, none⟩) m.toNat 82) W := by
  have hl : Try.prog.arrayLen 80 = 82 := by kernel_rfl
  have hu : Try.prog.underlying 80 = some (.array (Try.prog.arrayLen 80) (Try.prog.elem 80)) := by kernel_rfl
  have hs : (sizeOf (Try.prog.elem 80)).run Try.prog W = .ok 1 W := by kernel_rfl
  rw [run_sliceAt_array_h W _ ⟨g, 0, none⟩ hu .i64 m h0 (by rw [hl]; exact_mod_cast hm), hs, hl]
  simp [Result.andThen, slicedAt, Addr.add]
/-- An empty row that was just made. -/
theorem kdR_lit0 (W : World) (k : IntKind) (e : TypeId) : Kd.R (Kd.int k) e (W.alloc (.cells #[] e)) W.heap.size (fun _ => True) (.slice (some ⟨W.heap.size, 0, none⟩) 0 0) [] :=
  kdR_of_owns (l := []) ⟨rfl, .inr ⟨W.heap.size, 0, #[], rfl, Nat.le_refl _, heap_alloc_new W _, Nat.le_refl _, by decide, rfl, rfl⟩⟩
theorem lim_take {l : List Int} (hu : Us l) : ∀ {j : Nat}, j ≤ l.length → val l = vt l j → (0 < j → lmb l (j - 1) ≠ 0) → (lim (val l)).length = j := fun hj h ht => by
  rw [← trim_end hu hj h ht, List.length_take]; omega
set_option maxHeartbeats 2000000 in
set_option maxRecDepth 100000 in
theorem trimCall (A : Option Addr) (c : Nat) (l : List Int) (w : World) (hu : Us l) (hr : Kd.C (Kd.int .u32) w A l.length l) (hc : l.length ≤ c) :
    Calls Try.prog 64 #[.slice A l.length c] w fun e w' => e = .returned (.slice A (lim (val l)).length c) ∧ w = w' := by
  have hl : l.length ≤ 9223372036854775807 := hr.2.1
  have HU := Lib.hid hu
  have HR := Lib.hid hr
  have HC := Lib.hid hc
  clear hu hr
  go_enter Try.func64, Try.ntmps64
  go_wp2_with fail
  go_loop [0] (fun v => ∃ j : Nat, j ≤ l.length ∧ v = .slice A j c ∧ Hid (val l = vt l j)) (fun v => sliceLen v)
  case atStart => exact ⟨l.length, Nat.le_refl _, rfl, rfl⟩
  case round =>
    obtain ⟨j, hj, rfl, hv⟩ := hrel
    have HV := Lib.hid hv.out
    clear hv
    by_cases hlast : 0 < j → lmb l (j - 1) ≠ 0
    · have TE := Lib.hid (lim_take HU.out hj HV.out hlast)
      cases j with
      | zero =>
        clear hlast
        go_wp2_with fail
        go_ret
        exact ⟨by rw [TE.out]; rfl, rfl⟩
      | succ j =>
        have hlast := hlast (by omega)
        simp only [Nat.add_sub_cancel] at hlast
        obtain ⟨b, off, rfl, _, hcl⟩ := kdC_cell HR.out (by omega)
        have z0 := hcl j _ (List.getElem?_eq_getElem (show j < l.length by omega))
        rw [← lmb_at (show j < l.length by omega)] at z0
        have hx : (lmb l j == 0) = false := by simpa using hlast
        clear hcl hlast
        generalize lmb l j = x at *
        go_wp2_with fail
        go_ret
        exact ⟨by rw [TE.out]; rfl, rfl⟩
    · obtain ⟨hp, hz⟩ : 0 < j ∧ lmb l (j - 1) = 0 := by
        by_cases hp : 0 < j
        · exact ⟨hp, Classical.byContradiction fun h => hlast fun _ => h⟩
        · exact (hlast fun h => absurd h hp).elim
      obtain ⟨j, rfl⟩ : ∃ i, j = i + 1 := ⟨j - 1, by omega⟩
      simp only [Nat.add_sub_cancel] at hz
      have HN := Lib.hid (trim_step HV.out hz)
      have RT := run_take_any A c (j + 1) j (by omega) (by omega)
      obtain ⟨b, off, rfl, _, hcl⟩ := kdC_cell HR.out (by omega)
      have z0 := hcl j _ (List.getElem?_eq_getElem (show j < l.length by omega))
      rw [← lmb_at (show j < l.length by omega), hz] at z0
      clear hcl hlast hz hp
      go_wp2_with fail
      go_round
      case rel => exact ⟨j, by omega, rfl, HN.out⟩
      case measure => simp [sliceLen]

theorem take_lim {l : List Int} (hu : Us l) : l.take (lim (val l)).length = lim (val l) := by
  obtain ⟨j, hj, hv, ht⟩ : ∃ j, j ≤ l.length ∧ val l = vt l j ∧ (0 < j → lmb l (j - 1) ≠ 0) := by
    have key : ∀ n, n ≤ l.length → val l = vt l n → ∃ j, j ≤ l.length ∧ val l = vt l j ∧ (0 < j → lmb l (j - 1) ≠ 0) := by
      intro n
      induction n with
      | zero => exact fun h1 h2 => ⟨0, h1, h2, fun h => absurd h (by omega)⟩
      | succ n ih =>
        intro h1 h2
        by_cases hz : lmb l n = 0
        · exact ih (by omega) (trim_step h2 hz)
        · exact ⟨n + 1, h1, h2, fun _ => by simpa using hz⟩
    exact key l.length (Nat.le_refl _) rfl
  rw [lim_take hu hj hv ht]
  exact trim_end hu hj hv ht
theorem _root_.Go.RowKit.Below.cell' {w w1 : World} {p : Addr} {v : Value} (hb : Below w.heap.size w w1) (h : w.cell? p = some v) : w1.cell? p = some v := (hb.cell (World.block_lt_of_cell? w _ h)).trans h
/-! ### Added -/
theorem add_step {o l0 l1 : List Int} {j : Nat} {c : Int} (hj : j < o.length) (hi : vt o j + c * PW j = vt l0 j + vt l1 j) :
    vt (o.set j ((c + lmb l0 j + lmb l1 j) % 4294967296)) (j + 1) + (c + lmb l0 j + lmb l1 j) / 4294967296 * PW (j + 1) = vt l0 (j + 1) + vt l1 (j + 1) := by
  rw [vt_set_next hj, PW_succ]
  simp only [vt]
  generalize lmb l0 j = x at *
  generalize lmb l1 j = y at *
  have e : c + x + y = 4294967296 * ((c + x + y) / 4294967296) + (c + x + y) % 4294967296 := by omega
  generalize (c + x + y) / 4294967296 = q at *
  generalize (c + x + y) % 4294967296 = r at *
  have e2 : (c + x + y) * PW j = (4294967296 * q + r) * PW j := by rw [← e]
  rw [Int.add_mul, Int.add_mul, Int.add_mul, Int.mul_assoc] at e2
  have e3 : q * (4294967296 * PW j) = 4294967296 * (q * PW j) := by rw [Int.mul_left_comm]
  rw [e3]
  omega
theorem add_end {o l0 l1 : List Int} {n : Nat} {q : Int} (hu : Us o) (h0 : Us l0) (h1 : Us l1) (hq : 0 ≤ q) (ha : l0.length ≤ n) (hb : l1.length ≤ n) (hi : vt o (n + 1) + q * PW (n + 1) = vt l0 (n + 1) + vt l1 (n + 1)) : vt o (n + 1) = val l0 + val l1 := by
  rw [vt_val (l := l0) (by omega), vt_val (l := l1) (by omega)] at hi
  have h2 := val_lt h0
  have h3 := val_lt h1
  have h4 := PW_mono ha
  have h5 := PW_mono hb
  have h6 := vt_nonneg hu (n + 1)
  have h7 := PW_pos n
  rw [PW_succ] at hi
  by_cases hz : q = 0
  · subst hz; omega
  · have : 1 * (4294967296 * PW n) ≤ q * (4294967296 * PW n) := Int.mul_le_mul_of_nonneg_right (by omega) (by omega)
    omega
def impl_addLimbs.f (k : Nat) (l0 : List Int) (l1 : List Int) : Option (List Int) := if l0.length ≤ 81 ∧ l1.length ≤ 81 ∧ Us l0 ∧ Us l1 then some (lim (val l0 + val l1)) else none
theorem impl_addLimbs.mono : ∀ a0 a1 k, LeO (impl_addLimbs.f k a0 a1) (impl_addLimbs.f (k + 1) a0 a1) := fun _ _ _ => LeO.refl _

set_option maxHeartbeats 4000000 in
set_option maxRecDepth 100000 in
theorem impl_addLimbs.calls (k : Nat) (A0 : Option Addr) (c0 : Nat) (l0 : List Int) (A1 : Option Addr) (c1 : Nat) (l1 : List Int) (r : List Int) (w : World) (hr0 : Kd.C (Kd.int .u32) w A0 l0.length l0) (hc0 : l0.length ≤ c0) (hr1 : Kd.C (Kd.int .u32) w A1 l1.length l1) (hc1 : l1.length ≤ c1) (h : impl_addLimbs.f k l0 l1 = some r) :
    Calls Try.prog 75 #[.slice A0 l0.length c0, .slice A1 l1.length c1] w fun e w' => ∃ v0_ : Value, e = .returned (v0_) ∧ Kd.R (Kd.int .u32) 62 w' w.heap.size (fun _ => True) v0_ r ∧ Below w.heap.size w w' := by
  unfold impl_addLimbs.f at h
  split at h
  rotate_left
  · cases h
  next hh =>
  obtain ⟨hl0, hl1, hu0, hu1⟩ := hh
  obtain rfl := Option.some.inj h
  have HU0 := Lib.hid hu0
  have HU1 := Lib.hid hu1
  have HR0 := Lib.hid hr0
  have HR1 := Lib.hid hr1
  have START : Hid (Wide (w.alloc (.cells Try.zeroCells80 80)) w.heap.size (List.replicate 82 0)) := by
    show _ = _
    rw [← wide_zero]
    exact blk_new w _
  have SB := Lib.hid ((Below.refl w.heap.size w).alloc (Nat.le_refl _) (.cells Try.zeroCells80 80))
  clear h hu0 hu1 hr0 hr1 hc0 hc1
  by_cases hg : l0.length < l1.length
  · go_enter Try.func75, Try.ntmps75
    go_wp2_with fail
    go_loopw [6, 8] (fun cv i wr => ∃ (j : Nat) (c : Int), j ≤ l1.length + 1 ∧ i = .int .i64 j ∧ cv = .int .u64 c ∧ 0 ≤ c ∧ c ≤ 1 ∧ Hid (∃ o : List Int, o.length = 82 ∧ Us o ∧ Wide wr w.heap.size o ∧ Below w.heap.size w wr ∧ vt o j + c * PW j = vt l0 j + vt l1 j)) (fun _ i _ => l1.length + 1 - (intOf i).toNat)
    case atStart => exact ⟨0, 0, by omega, rfl, rfl, by omega, by omega, Lib.hid ⟨List.replicate 82 0, by simp, Us.replicate 82, START.out, SB.out, by simp [vt]⟩⟩
    case round =>
      obtain ⟨j, c, hj, rfl, rfl, hc0', hc1', hrel⟩ := hrel
      obtain ⟨o, ho, huo, hw, hb, hi⟩ := hrel.out
      clear hrel
      by_cases hlt : j < l1.length + 1
      · have x0 := lmb_range HU0.out j
        have y0 := lmb_range HU1.out j
        have STEP := Lib.hid (add_step (by omega : j < o.length) hi)
        have zw := hw.cell (show j < o.length by omega)
        have zf := hw.frozen j
        have HO := Lib.hid ho
        have HUO := Lib.hid huo
        have HW := Lib.hid hw
        have HB := Lib.hid hb
        clear ho huo hw hb hi
        by_cases ha : j < l0.length
        · by_cases hb : j < l1.length
          · obtain ⟨b, off, rfl, _, hcl⟩ := kdC_cell HR0.out (by omega)
            have za := hcl j _ (List.getElem?_eq_getElem ha)
            rw [← lmb_at ha] at za
            have za := HB.out.cell' za
            clear hcl
            obtain ⟨b', off', rfl, _, hcl⟩ := kdC_cell HR1.out (by omega)
            have zb := hcl j _ (List.getElem?_eq_getElem hb)
            rw [← lmb_at hb] at zb
            have zb := HB.out.cell' zb
            clear hcl
            generalize lmb l0 j = x at *
            generalize lmb l1 j = y at *
            generalize lmb o j = oj at *
            go_wp2_with fail
            go_roundw
            case rel => exact ⟨j + 1, (c + x + y) / 4294967296, by omega, by go_num, by first | rfl | go_num, by omega, by omega, Lib.hid ⟨o.set j ((c + x + y) % 4294967296), by rw [List.length_set]; exact HO.out, HUO.out.set j (by omega) (by omega), HW.out.set j _, HB.out.setCell (Nat.le_refl _) _, STEP.out⟩⟩
            case measure => simp [intOf]; omega
          · omega
        · by_cases hb : j < l1.length
          · obtain ⟨b', off', rfl, _, hcl⟩ := kdC_cell HR1.out (by omega)
            have zb := hcl j _ (List.getElem?_eq_getElem hb)
            rw [← lmb_at hb] at zb
            have zb := HB.out.cell' zb
            clear hcl
            have X0 := Lib.hid (lmb_over (show l0.length ≤ j by omega))
            rw [X0.out, Int.add_zero] at STEP
            generalize lmb l1 j = y at *
            clear x0
            generalize lmb o j = oj at *
            go_wp2_with fail
            go_roundw
            case rel => exact ⟨j + 1, (c + y) / 4294967296, by omega, by go_num, by first | rfl | go_num, by omega, by omega, Lib.hid ⟨o.set j ((c + y) % 4294967296), by rw [List.length_set]; exact HO.out, HUO.out.set j (by omega) (by omega), HW.out.set j _, HB.out.setCell (Nat.le_refl _) _, STEP.out⟩⟩
            case measure => simp [intOf]; omega
          · have X0 := Lib.hid (lmb_over (show l0.length ≤ j by omega))
            rw [X0.out, Int.add_zero] at STEP
            have Y0 := Lib.hid (lmb_over (show l1.length ≤ j by omega))
            rw [Y0.out, Int.add_zero] at STEP
            clear x0
            clear y0
            rw [show c % 4294967296 = c by omega] at STEP
            generalize lmb o j = oj at *
            go_wp2_with fail
            go_roundw
            case rel => exact ⟨j + 1, (c) / 4294967296, by omega, by go_num, by first | rfl | go_num, by omega, by omega, Lib.hid ⟨o.set j (c), by rw [List.length_set]; exact HO.out, HUO.out.set j (by omega) (by omega), HW.out.set j _, HB.out.setCell (Nat.le_refl _) _, STEP.out⟩⟩
            case measure => simp [intOf]; omega
      · obtain rfl : j = l1.length + 1 := by omega
        have hv := add_end huo HU0.out HU1.out hc0' (by omega) (by omega) hi
        have hn : l1.length + 1 ≤ o.length := by omega
        have hvt : val (o.take (l1.length + 1)) = val l0 + val l1 := by rw [val_take _ hn]; exact hv
        have UT := Lib.hid (huo.take (l1.length + 1))
        have LT : Hid ((o.take (l1.length + 1)).length ≤ 82) := by show _ ≤ _; rw [List.length_take]; omega
        have row := hw.row hn (by omega)
        have ROW := Lib.hid row
        have hlen : (lim (val (o.take (l1.length + 1)))).length ≤ l1.length + 1 := by
          refine lim_len_le (val_nonneg UT.out) ?_
          have := val_lt UT.out
          rw [List.length_take, Nat.min_eq_left hn] at this
          exact this
        have hrow2 : Kd.C (Kd.int .u32) wr (some ⟨w.heap.size, 0, none⟩) (lim (val (o.take (l1.length + 1)))).length (lim (val (o.take (l1.length + 1)))) := by
          have h2 := Kd.C_take row (m := (lim (val (o.take (l1.length + 1)))).length) (by rw [List.length_take]; omega)
          rw [take_lim UT.out] at h2
          exact h2
        have TRIM := Lib.hid hrow2
        have LM := Lib.hid hlen
        have HVT := Lib.hid hvt
        have HB := Lib.hid hb
        have LEN : (o.take (l1.length + 1)).length = l1.length + 1 := by rw [List.length_take]; omega
        clear hw hb hi huo ho hv hvt row hrow2 hlen hn
        have SL := run_take_wide w.heap.size (((l1.length + 1) : Nat) : Int) (by omega) (by omega)
        rw [Int.toNat_natCast] at SL
        try simp only [Int.natCast_add, Int.natCast_one] at SL
        have HL := Lib.hid (kdR_lit0 wr .u32 62)
        have HA := Lib.hid ((Below.refl wr.heap.size wr).alloc (Nat.le_refl _) (.cells #[] 62))
        have CALL := Lib.hid (trimCall (some ⟨w.heap.size, 0, none⟩) 82 (o.take (l1.length + 1)) (wr.alloc (.cells #[] 62)) UT.out (Kd.C_below ROW.out HA.out) LT.out)
        rw [LEN] at CALL
        clear LEN
        go_wp2_with fail
        refine CALL.out.mono ?_
        rintro e w' ⟨rfl, rfl⟩
        go_wp2_with (at_builtin; refine Kd.R_append_rows (Kd.int .u32) (w0 := wr) wr.heap.size rfl (.tmp 48) (.tmp 51) 22 62 (.int .u32 0) 4 rfl Try.underlying22 infoU32 rfl (by decide) (by omega) (.slice (some ⟨wr.heap.size, 0, none⟩) 0 0) [] (lim (val (o.take (l1.length + 1)))) _ _ _ (fun _ => True) (fun _ => False) rfl rfl HL.out (Kd.C_below TRIM.out HA.out) (fun _ _ h => h) (fun _ h => h.elim) (fun _ _ => trivial) HA.out HA.out.size (by have := LM.out; simp only [List.length_nil]; omega) ?_; intro v2 w2 ho hb _ _; have HO2 := Lib.hid ho; have HB3 := Lib.hid hb; clear ho hb)
        go_ret
        exact ⟨_, rfl, by rw [← HVT.out]; simpa using Kd.R_lower HO2.out HB.out.size, HB.out.trans (HB3.out.mono HB.out.size)⟩
  · go_enter Try.func75, Try.ntmps75
    go_wp2_with fail
    go_loopw [6, 8] (fun cv i wr => ∃ (j : Nat) (c : Int), j ≤ l0.length + 1 ∧ i = .int .i64 j ∧ cv = .int .u64 c ∧ 0 ≤ c ∧ c ≤ 1 ∧ Hid (∃ o : List Int, o.length = 82 ∧ Us o ∧ Wide wr w.heap.size o ∧ Below w.heap.size w wr ∧ vt o j + c * PW j = vt l0 j + vt l1 j)) (fun _ i _ => l0.length + 1 - (intOf i).toNat)
    case atStart => exact ⟨0, 0, by omega, rfl, rfl, by omega, by omega, Lib.hid ⟨List.replicate 82 0, by simp, Us.replicate 82, START.out, SB.out, by simp [vt]⟩⟩
    case round =>
      obtain ⟨j, c, hj, rfl, rfl, hc0', hc1', hrel⟩ := hrel
      obtain ⟨o, ho, huo, hw, hb, hi⟩ := hrel.out
      clear hrel
      by_cases hlt : j < l0.length + 1
      · have x0 := lmb_range HU0.out j
        have y0 := lmb_range HU1.out j
        have STEP := Lib.hid (add_step (by omega : j < o.length) hi)
        have zw := hw.cell (show j < o.length by omega)
        have zf := hw.frozen j
        have HO := Lib.hid ho
        have HUO := Lib.hid huo
        have HW := Lib.hid hw
        have HB := Lib.hid hb
        clear ho huo hw hb hi
        by_cases ha : j < l0.length
        · by_cases hb : j < l1.length
          · obtain ⟨b, off, rfl, _, hcl⟩ := kdC_cell HR0.out (by omega)
            have za := hcl j _ (List.getElem?_eq_getElem ha)
            rw [← lmb_at ha] at za
            have za := HB.out.cell' za
            clear hcl
            obtain ⟨b', off', rfl, _, hcl⟩ := kdC_cell HR1.out (by omega)
            have zb := hcl j _ (List.getElem?_eq_getElem hb)
            rw [← lmb_at hb] at zb
            have zb := HB.out.cell' zb
            clear hcl
            generalize lmb l0 j = x at *
            generalize lmb l1 j = y at *
            generalize lmb o j = oj at *
            go_wp2_with fail
            go_roundw
            case rel => exact ⟨j + 1, (c + x + y) / 4294967296, by omega, by go_num, by first | rfl | go_num, by omega, by omega, Lib.hid ⟨o.set j ((c + x + y) % 4294967296), by rw [List.length_set]; exact HO.out, HUO.out.set j (by omega) (by omega), HW.out.set j _, HB.out.setCell (Nat.le_refl _) _, STEP.out⟩⟩
            case measure => simp [intOf]; omega
          · obtain ⟨b, off, rfl, _, hcl⟩ := kdC_cell HR0.out (by omega)
            have za := hcl j _ (List.getElem?_eq_getElem ha)
            rw [← lmb_at ha] at za
            have za := HB.out.cell' za
            clear hcl
            have Y0 := Lib.hid (lmb_over (show l1.length ≤ j by omega))
            rw [Y0.out, Int.add_zero] at STEP
            generalize lmb l0 j = x at *
            clear y0
            generalize lmb o j = oj at *
            go_wp2_with fail
            go_roundw
            case rel => exact ⟨j + 1, (c + x) / 4294967296, by omega, by go_num, by first | rfl | go_num, by omega, by omega, Lib.hid ⟨o.set j ((c + x) % 4294967296), by rw [List.length_set]; exact HO.out, HUO.out.set j (by omega) (by omega), HW.out.set j _, HB.out.setCell (Nat.le_refl _) _, STEP.out⟩⟩
            case measure => simp [intOf]; omega
        · by_cases hb : j < l1.length
          · omega
          · have X0 := Lib.hid (lmb_over (show l0.length ≤ j by omega))
            rw [X0.out, Int.add_zero] at STEP
            have Y0 := Lib.hid (lmb_over (show l1.length ≤ j by omega))
            rw [Y0.out, Int.add_zero] at STEP
            clear x0
            clear y0
            rw [show c % 4294967296 = c by omega] at STEP
            generalize lmb o j = oj at *
            go_wp2_with fail
            go_roundw
            case rel => exact ⟨j + 1, (c) / 4294967296, by omega, by go_num, by first | rfl | go_num, by omega, by omega, Lib.hid ⟨o.set j (c), by rw [List.length_set]; exact HO.out, HUO.out.set j (by omega) (by omega), HW.out.set j _, HB.out.setCell (Nat.le_refl _) _, STEP.out⟩⟩
            case measure => simp [intOf]; omega
      · obtain rfl : j = l0.length + 1 := by omega
        have hv := add_end huo HU0.out HU1.out hc0' (by omega) (by omega) hi
        have hn : l0.length + 1 ≤ o.length := by omega
        have hvt : val (o.take (l0.length + 1)) = val l0 + val l1 := by rw [val_take _ hn]; exact hv
        have UT := Lib.hid (huo.take (l0.length + 1))
        have LT : Hid ((o.take (l0.length + 1)).length ≤ 82) := by show _ ≤ _; rw [List.length_take]; omega
        have row := hw.row hn (by omega)
        have ROW := Lib.hid row
        have hlen : (lim (val (o.take (l0.length + 1)))).length ≤ l0.length + 1 := by
          refine lim_len_le (val_nonneg UT.out) ?_
          have := val_lt UT.out
          rw [List.length_take, Nat.min_eq_left hn] at this
          exact this
        have hrow2 : Kd.C (Kd.int .u32) wr (some ⟨w.heap.size, 0, none⟩) (lim (val (o.take (l0.length + 1)))).length (lim (val (o.take (l0.length + 1)))) := by
          have h2 := Kd.C_take row (m := (lim (val (o.take (l0.length + 1)))).length) (by rw [List.length_take]; omega)
          rw [take_lim UT.out] at h2
          exact h2
        have TRIM := Lib.hid hrow2
        have LM := Lib.hid hlen
        have HVT := Lib.hid hvt
        have HB := Lib.hid hb
        have LEN : (o.take (l0.length + 1)).length = l0.length + 1 := by rw [List.length_take]; omega
        clear hw hb hi huo ho hv hvt row hrow2 hlen hn
        have SL := run_take_wide w.heap.size (((l0.length + 1) : Nat) : Int) (by omega) (by omega)
        rw [Int.toNat_natCast] at SL
        try simp only [Int.natCast_add, Int.natCast_one] at SL
        have HL := Lib.hid (kdR_lit0 wr .u32 62)
        have HA := Lib.hid ((Below.refl wr.heap.size wr).alloc (Nat.le_refl _) (.cells #[] 62))
        have CALL := Lib.hid (trimCall (some ⟨w.heap.size, 0, none⟩) 82 (o.take (l0.length + 1)) (wr.alloc (.cells #[] 62)) UT.out (Kd.C_below ROW.out HA.out) LT.out)
        rw [LEN] at CALL
        clear LEN
        go_wp2_with fail
        refine CALL.out.mono ?_
        rintro e w' ⟨rfl, rfl⟩
        go_wp2_with (at_builtin; refine Kd.R_append_rows (Kd.int .u32) (w0 := wr) wr.heap.size rfl (.tmp 48) (.tmp 51) 22 62 (.int .u32 0) 4 rfl Try.underlying22 infoU32 rfl (by decide) (by omega) (.slice (some ⟨wr.heap.size, 0, none⟩) 0 0) [] (lim (val (o.take (l0.length + 1)))) _ _ _ (fun _ => True) (fun _ => False) rfl rfl HL.out (Kd.C_below TRIM.out HA.out) (fun _ _ h => h) (fun _ h => h.elim) (fun _ _ => trivial) HA.out HA.out.size (by have := LM.out; simp only [List.length_nil]; omega) ?_; intro v2 w2 ho hb _ _; have HO2 := Lib.hid ho; have HB3 := Lib.hid hb; clear ho hb)
        go_ret
        exact ⟨_, rfl, by rw [← HVT.out]; simpa using Kd.R_lower HO2.out HB.out.size, HB.out.trans (HB3.out.mono HB.out.size)⟩

/-! ### Taken away -/
theorem sub_step {o l0 l1 : List Int} {j : Nat} {q q' : Int} (hj : j < o.length) (hi : vt o j - q * PW j = vt l0 j - vt l1 j) :
    vt (o.set j (lmb l0 j - (q + lmb l1 j) + q' * 4294967296)) (j + 1) - q' * PW (j + 1) = vt l0 (j + 1) - vt l1 (j + 1) := by
  rw [vt_set_next hj, PW_succ]
  simp only [vt]
  generalize lmb l0 j = x at *
  generalize lmb l1 j = y at *
  rw [Int.add_mul, Int.sub_mul, Int.add_mul]
  have e3 : q' * (4294967296 * PW j) = q' * 4294967296 * PW j := by rw [Int.mul_assoc]
  rw [e3]
  omega
theorem sub_end {o l0 l1 : List Int} {q : Int} (hu : Us o) (h0 : Us l0) (h1 : Us l1) (hq : 0 ≤ q) (hb : l1.length ≤ l0.length) (hle : val l1 ≤ val l0) (hi : vt o l0.length - q * PW l0.length = vt l0 l0.length - vt l1 l0.length) : vt o l0.length = val l0 - val l1 := by
  rw [vt_val (l := l0) (Nat.le_refl _), vt_val (l := l1) hb] at hi
  have h2 := vt_lt hu l0.length
  have h7 := PW_pos l0.length
  by_cases hz : q = 0
  · subst hz; omega
  · have : 1 * PW l0.length ≤ q * PW l0.length := Int.mul_le_mul_of_nonneg_right (by omega) (by omega)
    omega
def impl_subLimbs.f (k : Nat) (l0 : List Int) (l1 : List Int) : Option (List Int) := if l0.length ≤ 82 ∧ l1.length ≤ l0.length ∧ Us l0 ∧ Us l1 ∧ val l1 ≤ val l0 then some (lim (val l0 - val l1)) else none
theorem impl_subLimbs.mono : ∀ a0 a1 k, LeO (impl_subLimbs.f k a0 a1) (impl_subLimbs.f (k + 1) a0 a1) := fun _ _ _ => LeO.refl _
set_option maxHeartbeats 4000000 in
set_option maxRecDepth 100000 in
theorem impl_subLimbs.calls (k : Nat) (A0 : Option Addr) (c0 : Nat) (l0 : List Int) (A1 : Option Addr) (c1 : Nat) (l1 : List Int) (r : List Int) (w : World) (hr0 : Kd.C (Kd.int .u32) w A0 l0.length l0) (hc0 : l0.length ≤ c0) (hr1 : Kd.C (Kd.int .u32) w A1 l1.length l1) (hc1 : l1.length ≤ c1) (h : impl_subLimbs.f k l0 l1 = some r) :
    Calls Try.prog 76 #[.slice A0 l0.length c0, .slice A1 l1.length c1] w fun e w' => ∃ v0_ : Value, e = .returned (v0_) ∧ Kd.R (Kd.int .u32) 62 w' w.heap.size (fun _ => True) v0_ r ∧ Below w.heap.size w w' := by
  unfold impl_subLimbs.f at h
  split at h
  rotate_left
  · cases h
  next hh =>
  obtain ⟨hl0, hl1, hu0, hu1, hle⟩ := hh
  obtain rfl := Option.some.inj h
  have HU0 := Lib.hid hu0
  have HU1 := Lib.hid hu1
  have HR0 := Lib.hid hr0
  have HR1 := Lib.hid hr1
  have HLE := Lib.hid hle
  have START : Hid (Wide (w.alloc (.cells Try.zeroCells80 80)) w.heap.size (List.replicate 82 0)) := by
    show _ = _
    rw [← wide_zero]
    exact blk_new w _
  have SB := Lib.hid ((Below.refl w.heap.size w).alloc (Nat.le_refl _) (.cells Try.zeroCells80 80))
  clear h hu0 hu1 hr0 hr1 hc0 hc1 hle
  go_enter Try.func76, Try.ntmps76
  go_wp2_with fail
  go_loopw [6, 12] (fun cv i wr => ∃ (j : Nat) (q : Int), j ≤ l0.length ∧ i = .int .i64 j ∧ cv = .int .u64 q ∧ 0 ≤ q ∧ q ≤ 1 ∧ Hid (∃ o : List Int, o.length = 82 ∧ Us o ∧ Wide wr w.heap.size o ∧ Below w.heap.size w wr ∧ vt o j - q * PW j = vt l0 j - vt l1 j)) (fun _ i _ => l0.length - (intOf i).toNat)
  case atStart => exact ⟨0, 0, by omega, rfl, rfl, by omega, by omega, Lib.hid ⟨List.replicate 82 0, by simp, Us.replicate 82, START.out, SB.out, by simp [vt]⟩⟩
  case round =>
    obtain ⟨j, q, hj, rfl, rfl, hc0', hc1', hrel⟩ := hrel
    obtain ⟨o, ho, huo, hw, hb, hi⟩ := hrel.out
    clear hrel
    by_cases hlt : j < l0.length
    · have x0 := lmb_range HU0.out j
      have y0 := lmb_range HU1.out j
      have STEP := fun q' => Lib.hid (sub_step (q' := q') (by omega : j < o.length) hi)
      have zw := hw.cell (show j < o.length by omega)
      have zf := hw.frozen j
      have HO := Lib.hid ho
      have HUO := Lib.hid huo
      have HW := Lib.hid hw
      have HB := Lib.hid hb
      have HS := Lib.hid STEP
      clear ho huo hw hb hi STEP
      obtain ⟨b, off, rfl, _, hcl⟩ := kdC_cell HR0.out (by omega)
      have za := hcl j _ (List.getElem?_eq_getElem hlt)
      rw [← lmb_at hlt] at za
      have za := HB.out.cell' za
      clear hcl
      generalize lmb l0 j = x at *
      generalize lmb o j = oj at *
      by_cases hb : j < l1.length
      · obtain ⟨b', off', rfl, _, hcl⟩ := kdC_cell HR1.out (by omega)
        have zb := hcl j _ (List.getElem?_eq_getElem hb)
        rw [← lmb_at hb] at zb
        have zb := HB.out.cell' zb
        clear hcl
        generalize lmb l1 j = y at *
        by_cases hxy : x < q + y
        · have ST := Lib.hid (HS.out 1).out
          clear HS
          rw [show x - (q + y) + 1 * 4294967296 = x + 4294967296 - (q + y) by omega] at ST
          go_wp2_with fail
          go_roundw
          case rel => exact ⟨j + 1, 1, by omega, by go_num, by rfl, by omega, by omega, Lib.hid ⟨o.set j (x + 4294967296 - (q + y)), by rw [List.length_set]; exact HO.out, HUO.out.set j (by omega) (by omega), HW.out.set j _, HB.out.setCell (Nat.le_refl _) _, ST.out⟩⟩
          case measure => simp [intOf]; omega
        · have ST := Lib.hid (HS.out 0).out
          clear HS
          rw [show x - (q + y) + 0 * 4294967296 = x - (q + y) by omega] at ST
          go_wp2_with fail
          go_roundw
          case rel => exact ⟨j + 1, 0, by omega, by go_num, by rfl, by omega, by omega, Lib.hid ⟨o.set j (x - (q + y)), by rw [List.length_set]; exact HO.out, HUO.out.set j (by omega) (by omega), HW.out.set j _, HB.out.setCell (Nat.le_refl _) _, ST.out⟩⟩
          case measure => simp [intOf]; omega
      · have Y0 := lmb_over (show l1.length ≤ j by omega)
        rw [Y0] at HS
        clear Y0 y0
        by_cases hxy : x < q
        · have ST := Lib.hid (HS.out 1).out
          clear HS
          rw [show x - (q + 0) + 1 * 4294967296 = x + 4294967296 - q by omega] at ST
          go_wp2_with fail
          go_roundw
          case rel => exact ⟨j + 1, 1, by omega, by go_num, by rfl, by omega, by omega, Lib.hid ⟨o.set j (x + 4294967296 - q), by rw [List.length_set]; exact HO.out, HUO.out.set j (by omega) (by omega), HW.out.set j _, HB.out.setCell (Nat.le_refl _) _, ST.out⟩⟩
          case measure => simp [intOf]; omega
        · have ST := Lib.hid (HS.out 0).out
          clear HS
          rw [show x - (q + 0) + 0 * 4294967296 = x - q by omega] at ST
          go_wp2_with fail
          go_roundw
          case rel => exact ⟨j + 1, 0, by omega, by go_num, by rfl, by omega, by omega, Lib.hid ⟨o.set j (x - q), by rw [List.length_set]; exact HO.out, HUO.out.set j (by omega) (by omega), HW.out.set j _, HB.out.setCell (Nat.le_refl _) _, ST.out⟩⟩
          case measure => simp [intOf]; omega
    · obtain rfl : j = l0.length := by omega
      have hv := sub_end huo HU0.out HU1.out hc0' hl1 HLE.out hi
      have hn : l0.length ≤ o.length := by omega
      have hvt : val (o.take l0.length) = val l0 - val l1 := by rw [val_take _ hn]; exact hv
      have UT := Lib.hid (huo.take (l0.length))
      have LT : Hid ((o.take (l0.length)).length ≤ 82) := by show _ ≤ _; rw [List.length_take]; omega
      have row := hw.row hn (by omega)
      have ROW := Lib.hid row
      have hlen : (lim (val (o.take (l0.length)))).length ≤ l0.length := by
        refine lim_len_le (val_nonneg UT.out) ?_
        have := val_lt UT.out
        rw [List.length_take, Nat.min_eq_left hn] at this
        exact this
      have hrow2 : Kd.C (Kd.int .u32) wr (some ⟨w.heap.size, 0, none⟩) (lim (val (o.take (l0.length)))).length (lim (val (o.take (l0.length)))) := by
        have h2 := Kd.C_take row (m := (lim (val (o.take (l0.length)))).length) (by rw [List.length_take]; omega)
        rw [take_lim UT.out] at h2
        exact h2
      have TRIM := Lib.hid hrow2
      have LM := Lib.hid hlen
      have HVT := Lib.hid hvt
      have HB := Lib.hid hb
      have LEN : (o.take (l0.length)).length = l0.length := by rw [List.length_take]; omega
      clear hw hb hi huo ho hv hvt row hrow2 hlen hn
      have SL := run_take_wide w.heap.size ((l0.length : Nat) : Int) (by omega) (by omega)
      rw [Int.toNat_natCast] at SL
      try simp only [Int.natCast_add, Int.natCast_one] at SL
      have HL := Lib.hid (kdR_lit0 wr .u32 62)
      have HA := Lib.hid ((Below.refl wr.heap.size wr).alloc (Nat.le_refl _) (.cells #[] 62))
      have CALL := Lib.hid (trimCall (some ⟨w.heap.size, 0, none⟩) 82 (o.take l0.length) (wr.alloc (.cells #[] 62)) UT.out (Kd.C_below ROW.out HA.out) LT.out)
      rw [LEN] at CALL
      clear LEN
      go_wp2_with fail
      refine CALL.out.mono ?_
      rintro e w' ⟨rfl, rfl⟩
      go_wp2_with (at_builtin; refine Kd.R_append_rows (Kd.int .u32) (w0 := wr) wr.heap.size rfl (.tmp 44) (.tmp 48) 22 62 (.int .u32 0) 4 rfl Try.underlying22 infoU32 rfl (by decide) (by omega) (.slice (some ⟨wr.heap.size, 0, none⟩) 0 0) [] (lim (val (o.take l0.length))) _ _ _ (fun _ => True) (fun _ => False) rfl rfl HL.out (Kd.C_below TRIM.out HA.out) (fun _ _ h => h) (fun _ h => h.elim) (fun _ _ => trivial) HA.out HA.out.size (by have := LM.out; simp only [List.length_nil]; omega) ?_; intro v2 w2 ho hb _ _; have HO2 := Lib.hid ho; have HB3 := Lib.hid hb; clear ho hb)
      go_ret
      exact ⟨_, rfl, by rw [← HVT.out]; simpa using Kd.R_lower HO2.out HB.out.size, HB.out.trans (HB3.out.mono HB.out.size)⟩

end Go.Proofs.Ytajmeeppigdjnaa.Own
