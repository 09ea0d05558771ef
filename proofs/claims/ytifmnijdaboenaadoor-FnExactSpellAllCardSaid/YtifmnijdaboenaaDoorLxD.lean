/- The reference's lexer: what stands between two marks; no condition. -/
import Derived.Test.YtifmnijdaboenaaDoorLxC
import Derived.Laws.BytesArg
namespace Go.Proofs.YtifmnijdaboenaaDoor
open Go.RowKit
set_option linter.unusedVariables false
set_option linter.unusedSimpArgs false

theorem below_alloc1 (w : World) (o : Obj) : Below w.heap.size w (w.alloc o) := (Below.refl _ _).alloc (Nat.le_refl _) _
theorem grow_made {B : Nat} (w : World) (e sz : Nat) (hB : B ≤ w.heap.size) : Grow B (w.alloc (.cells #[] e)) (.slice (some ⟨w.heap.size, 0, none⟩) 0 0) e sz [] :=
  ⟨[], [], World.ownsRow_made w #[] 0 hB (Nat.zero_le _) (by simp), by simp [D.Fields], by simp, by simp [Value.ownBlock], fun k hk => by
    obtain rfl : k = w.heap.size := by simpa [Value.ownBlock] using hk
    exact ⟨hB, #[], e, blk_new w _⟩⟩

/-- Bytes as data. -/
def bD (l : List UInt8) : List D := l.map fun c => .int .u8 c.toNat
theorem bD_len (l : List UInt8) : (bD l).length = l.length := by simp [bD]
theorem bD_snoc (l : List UInt8) (c : UInt8) : bD (l ++ [c]) = bD l ++ [.int .u8 c.toNat] := by simp [bD]
theorem bD_fields {w : World} : ∀ {l : List UInt8} {cells : List Value} {f : List Nat}, D.Fields w (bD l) cells f → cells = l.map (fun c => .int .u8 c.toNat) ∧ f = []
  | [], cells, f, h => by
    simp only [bD, List.map_nil, D.Fields] at h
    exact ⟨by simp [h.1], h.2⟩
  | c :: l, cells, f, h => by
    simp only [bD, List.map_cons, D.Fields] at h
    obtain ⟨c1, c2, f1, f2, rfl, rfl, h1, h2⟩ := h
    simp only [D.K] at h1
    obtain ⟨rfl, rfl⟩ := h1
    obtain ⟨rfl, rfl⟩ := bD_fields (l := l) h2
    exact ⟨by simp, rfl⟩
theorem strOf_u8 (l : List UInt8) : strOfNums (l.map fun c => ((c.toNat : Nat) : Int)) = ⟨l.toArray⟩ := by
  unfold strOfNums
  rw [List.map_map]
  have : ((fun n : Int => UInt8.ofNat n.toNat) ∘ fun c : UInt8 => ((c.toNat : Nat) : Int)) = id := by funext c; simp
  rw [this]
  simp
/-- Bytes turned into a text. -/
theorem run_conv {B : Nat} {w : World} {v : Value} {l : List UInt8} (h : Grow B w v 5 1 (bD l)) {w' : World} (hb : Below w.heap.size w w') : (convert 54 9 v).run Tryd.prog w' = .ok (.string ⟨l.toArray⟩) w' := by
  obtain ⟨cells, f, h1, h2, _, _⟩ := h
  obtain ⟨rfl, rfl⟩ := bD_fields h2
  rcases h1.2 with ⟨rfl, hn⟩ | ⟨g, cap, cur, rfl, _, hg, _⟩
  · have : l = [] := List.eq_nil_of_length_eq_zero (by simpa [bD_len] using hn)
    subst this
    exact run_convert_bytes_nil w' 54 5 Tryd.underlying54 Tryd.underlying5 0 0 9 Tryd.underlying9
  · have key := run_convert_bytes_arg (P := Tryd.prog) w' 54 5 Tryd.underlying54 Tryd.underlying5 g 0 (bD l).length cap (l.map fun c => ((c.toNat : Nat) : Int)) (by simp [bD_len]) (fun i hi => by
      rw [bD_len] at hi
      have := h1.cells (g := g) rfl i (.int .u8 (l[i]'hi).toNat) (by simp [List.getElem?_eq_getElem hi])
      rw [Addr.add_mid] at this
      rw [hb.cell (p := ⟨g, 0 + i, none⟩) (blk_lt hg), this]
      simp [List.getD, List.getElem?_eq_getElem hi]) 9 Tryd.underlying9
    rw [strOf_u8] at key
    exact key
def quoI (t : ByteArray) (m : Int) (a : Nat) : ByteArray × Int := match quoL t m (a + 1) with | none => (⟨#[]⟩, -1) | some r => (⟨r.1.toArray⟩, (r.2 : Int) + 1 - a)
theorem quoI_none {t : ByteArray} {m : Int} {a : Nat} (h : quoL t m (a + 1) = none) : quoI t m a = (⟨#[]⟩, -1) := by unfold quoI; rw [h]
theorem quoI_some {t : ByteArray} {m : Int} {a : Nat} {x : List UInt8} {e : Nat} (h : quoL t m (a + 1) = some (x, e)) : quoI t m a = (⟨x.toArray⟩, (e : Int) + 1 - a) := by unfold quoI; rw [h]
def quoM (t : ByteArray) (m : Int) (j : Nat) (d : List UInt8) : Option (List UInt8 × Nat) := (quoL t m j).map fun r => (d ++ r.1, r.2)
section
variable {t : ByteArray} {m : Int} {j : Nat} {d : List UInt8} (h : j < t.size)
include h
theorem quoM_end (h1 : cb t j = m) : quoM t m j d = some (d, j) := by
  unfold quoM; rw [quoL, dif_pos h, if_pos h1]; simp
theorem quoM_bad (h1 : ¬ cb t j = m) (h2 : cb t j < 32 ∨ 126 < cb t j) : quoM t m j d = none := by
  unfold quoM; rw [quoL, dif_pos h, if_neg h1, if_pos h2]; rfl
theorem quoM_one (h1 : ¬ cb t j = m) (h2 : ¬ (cb t j < 32 ∨ 126 < cb t j)) (h3 : ¬ cb t j = 92) : quoM t m j d = quoM t m (j + 1) (d ++ [t[j]'h]) := by
  unfold quoM; rw [quoL, dif_pos h, if_neg h1, if_neg h2, if_neg h3]; simp [Function.comp_def]
theorem quoM_cut (h1 : ¬ cb t j = m) (h2 : ¬ (cb t j < 32 ∨ 126 < cb t j)) (h3 : cb t j = 92) (h4 : ¬ j + 1 < t.size) : quoM t m j d = none := by
  unfold quoM; rw [quoL, dif_pos h, if_neg h1, if_neg h2, if_pos h3, dif_neg h4]; rfl
theorem quoM_no {q : Nat} (hq : q = j + 1) (h1 : ¬ cb t j = m) (h2 : ¬ (cb t j < 32 ∨ 126 < cb t j)) (h3 : cb t j = 92) (h4 : q < t.size) (h5 : inL [110, 92, 39, 34] (cb t q) = false) : quoM t m j d = none := by
  subst hq
  unfold quoM; rw [quoL, dif_pos h, if_neg h1, if_neg h2, if_pos h3, dif_pos h4, if_neg (by simp [h5])]; rfl
theorem quoM_ten {q : Nat} (hq : q = j + 1) (h1 : ¬ cb t j = m) (h2 : ¬ (cb t j < 32 ∨ 126 < cb t j)) (h3 : cb t j = 92) (h4 : q < t.size) (h5 : inL [110, 92, 39, 34] (cb t q) = true) (h6 : cb t q = 110) :
    quoM t m j d = quoM t m (j + 2) (d ++ [10]) := by
  subst hq
  unfold quoM; rw [quoL, dif_pos h, if_neg h1, if_neg h2, if_pos h3, dif_pos h4, if_pos h5]; simp [Function.comp_def, h6]
theorem quoM_two {q : Nat} (hq : q = j + 1) (h1 : ¬ cb t j = m) (h2 : ¬ (cb t j < 32 ∨ 126 < cb t j)) (h3 : cb t j = 92) (h4 : q < t.size) (h5 : inL [110, 92, 39, 34] (cb t q) = true) (h6 : ¬ cb t q = 110) :
    quoM t m j d = quoM t m (j + 2) (d ++ [t[q]'h4]) := by
  subst hq
  unfold quoM; rw [quoL, dif_pos h, if_neg h1, if_neg h2, if_pos h3, dif_pos h4, if_pos h5]; simp [Function.comp_def, h6]
end
theorem quoM_out {t : ByteArray} {m : Int} {j : Nat} {d : List UInt8} (h : ¬ j < t.size) : quoM t m j d = none := by
  unfold quoM; rw [quoL, dif_neg h]; rfl
theorem infoU8 : (Tryd.prog.info? 5).map (fun i => (i.zero, i.size, i.bytes)) = some (some (.int .u8 0), 1, 1) := by kernel_rfl
/-- What the world holds while bytes are gathered. -/
structure Qw (w : World) (t : ByteArray) (m : Int) (a j : Nat) (v : Value) (d : List UInt8) (wr : World) : Prop where
  below : Below w.heap.size w wr
  grow : Grow w.heap.size wr v 5 1 (bD d)
  len : d.length ≤ j
  is : quoL t m (a + 1) = quoM t m j d

set_option maxRecDepth 100000 in
set_option maxHeartbeats 4000000 in
theorem specQuoted (t : ByteArray) (ht : t.size ≤ 1048576) (B a : Nat) (ha : a < t.size) (m : Int) (w : World) (h0 : w.cell? ⟨B, 0, none⟩ = some (.string t)) (h1 : w.cell? ⟨B, 1, none⟩ = some (.int .i64 a)) :
    Calls Tryd.prog 44 #[.pointer (some ⟨B, 0, none⟩), .int .u8 m] w fun e w' => e = .returned (.tuple #[.string (quoI t m a).1, .int .i64 (quoI t m a).2]) ∧ Below w.heap.size w w' := by
  have hB : B < w.heap.size := World.block_lt_of_cell? w _ h0
  have K : Hid (∀ w', Below w.heap.size w w' → w'.cell? ⟨B, 0, none⟩ = some (.string t) ∧ w'.cell? ⟨B, 1, none⟩ = some (.int .i64 a)) := fun w' hb => ⟨(hb.cell (p := ⟨B, 0, none⟩) hB).trans h0, (hb.cell (p := ⟨B, 1, none⟩) hB).trans h1⟩
  have q1 := (K.out _ (below_alloc1 w (.cells #[] 5))).2
  have hw1 : IntKind.i64.wrap ((a : Int) + 1) = (a : Int) + 1 := i64_in (by omega) (by omega)
  have Q0 : Hid (Qw w t m a (a + 1) (.slice (some ⟨w.heap.size, 0, none⟩) 0 0) [] (w.alloc (.cells #[] 5))) := by
    exact ⟨below_alloc1 _ _, grow_made w _ _ (Nat.le_refl _), Nat.zero_le _, by simp [quoM]⟩
  clear h0 h1 hB
  go_enter Tryd.func44, Tryd.ntmps44
  go_wp2
  clear q1
  go_loopw [6, 7, 8] (fun o i c wr => ∃ (j : Nat), i = .int .i64 j ∧ j ≤ t.size ∧ a + 1 ≤ j ∧ Hid (∃ d, Qw w t m a j o d wr)) (fun _ i _ _ => t.size - (intOf i).toNat)
  case atStart => exact ⟨a + 1, by go_num, by omega, Nat.le_refl _, Lib.hid ⟨[], Q0.out⟩⟩
  case round =>
    obtain ⟨j, rfl, hj, haj, hr⟩ := hrel
    obtain ⟨d, hq⟩ := hr.out
    have Q := Lib.hid hq
    have zz := K.out _ hq.below
    have z0 := zz.1
    have z1 := zz.2
    have zq := fun nq => (K.out (wr.drewN nq) (drewN_below Q.out.below nq))
    have hwj : IntKind.i64.wrap ((j : Int) + 1) = (j : Int) + 1 := i64_in (by omega) (by omega)
    obtain ⟨i0, hi, hz0, hz1, hz2⟩ := info_parts infoU8
    clear hq hr zz Q0
    by_cases hlt : j < t.size
    · have hc := cb_at hlt
      by_cases hm : cb t j = m
      · have hx := quoI_some (Q.out.is.trans (quoM_end hlt hm))
        have HX := Lib.hid hx
        have hcv := fun nq => run_conv Q.out.grow (drewN_below (Below.refl _ wr) nq)
        clear hx zq
        have z1q : ∀ nq, (wr.drewN nq).cell? ⟨B, 1, none⟩ = some (.int .i64 a) := fun _ => z1
        go_wp2
        go_quiet (fail)
        go_wp2
        refine bodyPost_ret (v := .tuple #[.string ⟨d.toArray⟩, .int .i64 ((j : Int) + 1 - a)]) (by simp [results, Tryd.results44, go_sem]) rfl ⟨by rw [HX.out], drewN_below Q.out.below _⟩
      · by_cases hb : cb t j < 32 ∨ 126 < cb t j
        · have HX := Lib.hid (quoI_none (Q.out.is.trans (quoM_bad hlt hm hb)))
          rcases (show cb t j < 32 ∨ (¬ cb t j < 32 ∧ 126 < cb t j) by omega) with hb1 | ⟨hb1, hb2⟩
          · go_wp2
            refine bodyPost_ret (v := .tuple #[.string ⟨#[]⟩, .int .i64 (-1)]) (by simp [results, Tryd.results44, go_sem]) rfl ⟨by rw [HX.out], Q.out.below⟩
          · go_wp2
            refine bodyPost_ret (v := .tuple #[.string ⟨#[]⟩, .int .i64 (-1)]) (by simp [results, Tryd.results44, go_sem]) rfl ⟨by rw [HX.out], Q.out.below⟩
        · have hb1 : ¬ cb t j < 32 := fun h => hb (.inl h)
          have hb2 : ¬ 126 < cb t j := fun h => hb (.inr h)
          by_cases h92 : cb t j = 92
          · by_cases hl2 : j + 1 < t.size
            · obtain ⟨q, hqe⟩ : ∃ q, q = j + 1 := ⟨_, rfl⟩
              have hqi : (j : Int) + 1 = (q : Int) := by omega
              have hwq : IntKind.i64.wrap ((q : Int) + 1) = (q : Int) + 1 := i64_in (by omega) (by omega)
              have hlq : q < t.size := by omega
              have hcq := cb_at hlq
              have hne : (((q : Nat) : Int) == ((t.size : Nat) : Int)) = false := by simp; omega
              replace hwj : IntKind.i64.wrap ((j : Int) + 1) = (q : Int) := hwj.trans hqi
              have HQ := Lib.hid hqe
              have e2 : (q : Int) + 1 = ((j + 2 : Nat) : Int) := by omega
              have E2 := Lib.hid e2
              clear hqi hqe e2
              cases h5 : inL [110, 92, 39, 34] (cb t q)
              · have HX := Lib.hid (quoI_none (Q.out.is.trans (quoM_no hlt HQ.out hm hb h92 hlq h5)))
                go_wp2_with (go_at_call 71; refine (specIn _ ⟨#[110, 92, 39, 34]⟩ (by decide) _).mono ?_; rintro e w1 ⟨rfl, hw⟩; obtain rfl := hw.symm)
                refine bodyPost_ret (v := .tuple #[.string ⟨#[]⟩, .int .i64 (-1)]) (by simp [results, Tryd.results44, go_sem]) rfl ⟨by rw [HX.out], Q.out.below⟩
              · by_cases h110 : cb t q = 110
                · have HS := Lib.hid (quoM_ten (d := d) hlt HQ.out hm hb h92 hlq h5 h110)
                  go_wp2_with (first | (go_at_call 71; refine (specIn _ ⟨#[110, 92, 39, 34]⟩ (by decide) _).mono ?_; rintro e w1 ⟨rfl, hw⟩; obtain rfl := hw.symm) | (at_builtin; refine wpl_push rfl _ _ 54 rfl w.heap.size 5 i0 (.int .u8 0) 1 1 Tryd.underlying54 hi hz0 hz1 hz2 rfl (by decide) _ (bD d) rfl Q.out.grow (below_alloc1 wr (.cells #[.int .u8 (10)] 5)) (.int .u8 (10)) [.int .u8 (10)] (fr_int _ _ _ _) rfl wr.heap.size 1 rfl (cellsAt_new wr [.int .u8 (10)] 5) (by rw [bD_len]; have := Q.out.len; omega) (by rw [bD_len]; have := Q.out.len; omega) Q.out.below.size ?_; intro v' w2 hg' hgr' _; have QN := Lib.hid (show Qw w t m a (j + 2) v' (d ++ [10]) w2 from ⟨hgr'.below (Q.out.below.alloc Q.out.below.size _) (Nat.le_trans Q.out.below.size (below_alloc1 wr _).size) (fun g hg => (Q.out.grow.bound g hg).1), by rw [bD_snoc]; first | exact hg' | (rw [cb_at]; exact hg'), by rw [List.length_append]; have := Q.out.len; show _ + 1 ≤ _; omega, Q.out.is.trans HS.out⟩); clear hg' hgr'))
                  go_roundw
                  case rel => exact ⟨(j + 2), by rw [E2.out], by have := HQ.out; omega, by omega, Lib.hid ⟨_, QN.out⟩⟩
                  case measure => have := E2.out; simp [intOf]; omega
                · have HS := Lib.hid (quoM_two (d := d) hlt HQ.out hm hb h92 hlq h5 h110)
                  go_wp2_with (first | (go_at_call 71; refine (specIn _ ⟨#[110, 92, 39, 34]⟩ (by decide) _).mono ?_; rintro e w1 ⟨rfl, hw⟩; obtain rfl := hw.symm) | (at_builtin; refine wpl_push rfl _ _ 54 rfl w.heap.size 5 i0 (.int .u8 0) 1 1 Tryd.underlying54 hi hz0 hz1 hz2 rfl (by decide) _ (bD d) rfl Q.out.grow (below_alloc1 wr (.cells #[.int .u8 (cb t q)] 5)) (.int .u8 (cb t q)) [.int .u8 (cb t q)] (fr_int _ _ _ _) rfl wr.heap.size 1 rfl (cellsAt_new wr [.int .u8 (cb t q)] 5) (by rw [bD_len]; have := Q.out.len; omega) (by rw [bD_len]; have := Q.out.len; omega) Q.out.below.size ?_; intro v' w2 hg' hgr' _; have QN := Lib.hid (show Qw w t m a (j + 2) v' (d ++ [t[q]]) w2 from ⟨hgr'.below (Q.out.below.alloc Q.out.below.size _) (Nat.le_trans Q.out.below.size (below_alloc1 wr _).size) (fun g hg => (Q.out.grow.bound g hg).1), by rw [bD_snoc]; first | exact hg' | (rw [cb_at]; exact hg'), by rw [List.length_append]; have := Q.out.len; show _ + 1 ≤ _; omega, Q.out.is.trans HS.out⟩); clear hg' hgr'))
                  go_roundw
                  case rel => exact ⟨(j + 2), by rw [E2.out], by have := HQ.out; omega, by omega, Lib.hid ⟨_, QN.out⟩⟩
                  case measure => have := E2.out; simp [intOf]; omega
            · have HX := Lib.hid (quoI_none (Q.out.is.trans (quoM_cut hlt hm hb h92 hl2)))
              have hje : j + 1 = t.size := by omega
              go_wp2
              refine bodyPost_ret (v := .tuple #[.string ⟨#[]⟩, .int .i64 (-1)]) (by simp [results, Tryd.results44, go_sem]) rfl ⟨by rw [HX.out], Q.out.below⟩
          · have hs := quoM_one (d := d) hlt hm hb h92
            have HS := Lib.hid hs
            clear hs
            go_wp2_with (at_builtin; refine wpl_push rfl _ _ 54 rfl w.heap.size 5 i0 (.int .u8 0) 1 1 Tryd.underlying54 hi hz0 hz1 hz2 rfl (by decide) _ (bD d) rfl Q.out.grow (below_alloc1 wr (.cells #[.int .u8 (cb t j)] 5)) (.int .u8 (cb t j)) [.int .u8 (cb t j)] (fr_int _ _ _ _) rfl wr.heap.size 1 rfl (cellsAt_new wr [.int .u8 (cb t j)] 5) (by rw [bD_len]; have := Q.out.len; omega) (by rw [bD_len]; have := Q.out.len; omega) Q.out.below.size ?_; intro v' w2 hg' hgr' _; have QN := Lib.hid (show Qw w t m a (j + 1) v' (d ++ [t[j]]) w2 from ⟨hgr'.below (Q.out.below.alloc Q.out.below.size _) (Nat.le_trans Q.out.below.size (below_alloc1 wr _).size) (fun g hg => (Q.out.grow.bound g hg).1), by rw [bD_snoc]; first | exact hg' | (rw [cb_at]; exact hg'), by rw [List.length_append]; have := Q.out.len; show _ + 1 ≤ _; omega, Q.out.is.trans HS.out⟩); clear hg' hgr')
            go_roundw
            case rel => exact ⟨(j + 1), by go_num, by omega, by omega, Lib.hid ⟨_, QN.out⟩⟩
            case measure => simp [intOf]; omega
    · have HX := Lib.hid (quoI_none (Q.out.is.trans (quoM_out hlt)))
      go_wp2
      refine bodyPost_ret (v := .tuple #[.string ⟨#[]⟩, .int .i64 (-1)]) (by simp [results, Tryd.results44, go_sem]) rfl ⟨by rw [HX.out], Q.out.below⟩

end Go.Proofs.YtifmnijdaboenaaDoor
