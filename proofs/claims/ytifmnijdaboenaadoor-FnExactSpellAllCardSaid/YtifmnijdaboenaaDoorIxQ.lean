/- The program's lexer: what stands between two marks; no condition. -/
import Derived.Test.YtifmnijdaboenaaDoorIxC
namespace Go.Proofs.YtifmnijdaboenaaDoor
open Go Go.RowKit
set_option linter.unusedVariables false
set_option linter.unusedSimpArgs false

/-- What the program tells of a text between two marks. -/
def QR (t : ByteArray) (m : Int) (a : Nat) (s : ByteArray) (n : Int) (ok : Bool) : Prop :=
  (ok = true ∧ ∃ x e, quoL t m (a + 1) = some (x, e) ∧ s = ⟨x.toArray⟩ ∧ n = (e : Int) + 1 - a ∧ (m = 39 → x.length = 1)) ∨ (ok = false ∧ (quoL t m (a + 1) = none ∨ ∃ x e, quoL t m (a + 1) = some (x, e) ∧ m = 39 ∧ x.length ≠ 1))
theorem qr_none {t : ByteArray} {m : Int} {a : Nat} {s : ByteArray} {n : Int} (h : quoL t m (a + 1) = none) : QR t m a s n false := .inr ⟨rfl, .inl h⟩
theorem qr_long {t : ByteArray} {m : Int} {a j : Nat} {d : List UInt8} {s : ByteArray} {n : Int} (hm : m = 39) (h : quoL t m (a + 1) = quoM t m j d) (hd : 2 ≤ d.length) : QR t m a s n false := by
  unfold quoM at h
  cases hq : quoL t m j with
  | none => rw [hq] at h; exact qr_none h
  | some r =>
    rw [hq] at h
    exact .inr ⟨rfl, .inr ⟨_, _, h, hm, by rw [List.length_append]; omega⟩⟩

def QPost (t : ByteArray) (m : Int) (a : Nat) (w : World) (e : Ending) (w' : World) : Prop := ∃ s n ok, e = .returned (.tuple #[.string s, .int .i64 n, .bool ok]) ∧ QR t m a s n ok ∧ Below w.heap.size w w'
theorem qpost {t : ByteArray} {m : Int} {a : Nat} {w w' : World} {s : ByteArray} {n : Int} {ok : Bool} (h : QR t m a s n ok) (hb : Below w.heap.size w w') : QPost t m a w (.returned (.tuple #[.string s, .int .i64 n, .bool ok])) w' := ⟨s, n, ok, rfl, h, hb⟩

set_option maxRecDepth 100000 in
set_option maxHeartbeats 8000000 in
theorem implQuoted (t : ByteArray) (ht : t.size ≤ 1048576) (B a : Nat) (ha : a < t.size) (m : Int) (hmm : m = 34 ∨ m = 39) (w : World) (h0 : w.cell? ⟨B, 0, none⟩ = some (.string t)) (h1 : w.cell? ⟨B, 1, none⟩ = some (.int .i64 a)) :
    Calls Tryd.prog 59 #[.pointer (some ⟨B, 0, none⟩), .int .u8 m] w fun e w' => QPost t m a w e w' := by
  have hB : B < w.heap.size := World.block_lt_of_cell? w _ h0
  have K : Hid (∀ w', Below w.heap.size w w' → w'.cell? ⟨B, 0, none⟩ = some (.string t) ∧ w'.cell? ⟨B, 1, none⟩ = some (.int .i64 a)) := fun w' hb => ⟨(hb.cell (p := ⟨B, 0, none⟩) hB).trans h0, (hb.cell (p := ⟨B, 1, none⟩) hB).trans h1⟩
  have q1 := (K.out _ (below_alloc1 w (.cells #[] 5))).2
  have hw1 : IntKind.i64.wrap ((a : Int) + 1) = (a : Int) + 1 := i64_in (by omega) (by omega)
  have Q0 : Hid (Qw w t m a (a + 1) (.slice (some ⟨w.heap.size, 0, none⟩) 0 0) [] (w.alloc (.cells #[] 5))) := by
    exact ⟨below_alloc1 _ _, grow_made w _ _ (Nat.le_refl _), Nat.zero_le _, by simp [quoM]⟩
  have HM0 : Hid (m = 34 ∨ (m = 39 ∧ ([] : List UInt8).length ≤ 1)) := by rcases hmm with h | h; (· exact .inl h); exact .inr ⟨h, Nat.zero_le _⟩
  clear h0 h1 hB hmm
  go_enter Tryd.func59, Tryd.ntmps59
  go_wp2
  clear q1
  go_loopw [7, 8, 9] (fun o i c wr => ∃ (j : Nat), i = .int .i64 j ∧ j ≤ t.size ∧ a + 1 ≤ j ∧ Hid (∃ d, Qw w t m a j o d wr ∧ (m = 34 ∨ (m = 39 ∧ d.length ≤ 1)))) (fun _ i _ _ => t.size - (intOf i).toNat)
  case atStart => exact ⟨a + 1, by go_num, by omega, Nat.le_refl _, Lib.hid ⟨[], Q0.out, HM0.out⟩⟩
  case round =>
    obtain ⟨j, rfl, hj, haj, hr⟩ := hrel
    obtain ⟨d, hq, hmd⟩ := hr.out
    have Q := Lib.hid hq
    have HM := Lib.hid hmd
    have zz := K.out _ hq.below
    have z0 := zz.1
    have z1 := zz.2
    have hwj : IntKind.i64.wrap ((j : Int) + 1) = (j : Int) + 1 := i64_in (by omega) (by omega)
    obtain ⟨i0, hi, hz0, hz1, hz2⟩ := info_parts infoU8
    clear hq hr zz Q0 hmd HM0
    by_cases hlt : j < t.size
    · have hc := cb_at hlt
      by_cases hm : cb t j = m
      · have HX0 := Lib.hid (Q.out.is.trans (quoM_end hlt hm))
        have hcv := fun nq => run_conv Q.out.grow (drewN_below (Below.refl _ wr) nq)
        have hwa : IntKind.i64.wrap ((j : Int) + 1 - (a : Int)) = (j : Int) + 1 - (a : Int) := i64_in (by omega) (by omega)
        obtain ⟨A1, c1, hv1, _, _, _⟩ := Q.out.grow.form
        rw [bD_len] at hv1
        subst hv1
        rcases HM.out with h34 | ⟨h39, hd1⟩
        · have HX := Lib.hid (show QR t m a ⟨d.toArray⟩ ((j : Int) + 1 - a) true from .inl ⟨rfl, _, _, HX0.out, rfl, rfl, fun h => by omega⟩)
          have e34 : (m == 34) = true := by rw [h34]; rfl
          clear h34 
          go_wp2
          go_quiet (fail)
          go_wp2
          refine bodyPost_ret (v := .tuple #[.string ⟨d.toArray⟩, .int .i64 ((j : Int) + 1 - a), .bool true]) (by simp [results, Tryd.results59, go_sem]) rfl (qpost HX.out (drewN_below Q.out.below _))
        · have e34 : (m == 34) = false := by rw [h39]; rfl
          by_cases hl : d.length = 1
          · have HX := Lib.hid (show QR t m a ⟨d.toArray⟩ ((j : Int) + 1 - a) true from .inl ⟨rfl, _, _, HX0.out, rfl, rfl, fun h => hl⟩)
            have el : (((d.length : Nat) : Int) == 1) = true := by rw [hl]; rfl
            clear h39 hd1 hl
            go_wp2
            go_quiet (fail)
            go_wp2
            refine bodyPost_ret (v := .tuple #[.string ⟨d.toArray⟩, .int .i64 ((j : Int) + 1 - a), .bool true]) (by simp [results, Tryd.results59, go_sem]) rfl (qpost HX.out (drewN_below Q.out.below _))
          · have HX := Lib.hid (show QR t m a ⟨d.toArray⟩ ((j : Int) + 1 - a) false from .inr ⟨rfl, .inr ⟨_, _, HX0.out, h39, hl⟩⟩)
            have el : (((d.length : Nat) : Int) == 1) = false := by simp; omega
            clear h39 hd1 hl
            go_wp2
            go_quiet (fail)
            go_wp2
            refine bodyPost_ret (v := .tuple #[.string ⟨d.toArray⟩, .int .i64 ((j : Int) + 1 - a), .bool false]) (by simp [results, Tryd.results59, go_sem]) rfl (qpost HX.out (drewN_below Q.out.below _))
      · have emc : (cb t j == m) = false := by simpa using hm
        by_cases h92 : cb t j = 92
        · have hb : ¬ (cb t j < 32 ∨ 126 < cb t j) := by omega
          by_cases hl2 : j + 1 < t.size
          · obtain ⟨q, hqe⟩ : ∃ q, q = j + 1 := ⟨_, rfl⟩
            have hqi : (j : Int) + 1 = (q : Int) := by omega
            have hwq : IntKind.i64.wrap ((q : Int) + 1) = (q : Int) + 1 := i64_in (by omega) (by omega)
            have hlq : q < t.size := by omega
            have hcq := cb_at hlq
            have hge : decide ((t.size : Int) ≤ (q : Int)) = false := by simp; omega
            replace hwj : IntKind.i64.wrap ((j : Int) + 1) = (q : Int) := hwj.trans hqi
            have HQ := Lib.hid hqe
            have e2 : (q : Int) + 1 = ((j + 2 : Nat) : Int) := by omega
            have E2 := Lib.hid e2
            have j0 : (0 : Int) ≤ (q : Int) := by omega
            have j1 : (q : Int) < (t.size : Int) := by omega
            clear hqi hqe e2
            cases h5 : inL [110, 92, 39, 34] (cb t q)
            · have HX := Lib.hid (qr_none (s := ⟨#[]⟩) (n := 0) (Q.out.is.trans (quoM_no hlt HQ.out hm hb h92 hlq h5)))
              have n1 : ¬ cb t q = 110 := fun h => by rw [h] at h5; exact absurd h5 (by decide)
              have n2 : ¬ cb t q = 92 := fun h => by rw [h] at h5; exact absurd h5 (by decide)
              have n3 : ¬ cb t q = 39 := fun h => by rw [h] at h5; exact absurd h5 (by decide)
              have n4 : ¬ cb t q = 34 := fun h => by rw [h] at h5; exact absurd h5 (by decide)
              go_wp2
              refine bodyPost_ret (v := .tuple #[.string ⟨#[]⟩, .int .i64 0, .bool false]) (by simp [results, Tryd.results59, go_sem]) rfl (qpost HX.out Q.out.below)
            · by_cases h110 : cb t q = 110
              · have HS := Lib.hid (quoM_ten (d := d) hlt HQ.out hm hb h92 hlq h5 h110)
                rcases HM.out with h34 | ⟨h39, hd1⟩
                · have e39 : (m == 39) = false := by rw [h34]; rfl
                  have HMM := Lib.hid h34
                  clear h34
                  go_wp2_with (at_builtin; refine wpl_push rfl _ _ 54 rfl w.heap.size 5 i0 (.int .u8 0) 1 1 Tryd.underlying54 hi hz0 hz1 hz2 rfl (by decide) _ (bD d) rfl Q.out.grow (below_alloc1 wr (.cells #[.int .u8 (10)] 5)) (.int .u8 (10)) [.int .u8 (10)] (fr_int _ _ _ _) rfl wr.heap.size 1 rfl (cellsAt_new wr [.int .u8 (10)] 5) (by rw [bD_len]; have := Q.out.len; omega) (by rw [bD_len]; have := Q.out.len; omega) Q.out.below.size ?_; intro v' w2 hg' hgr' _; obtain ⟨A', c', hv', _, _, _⟩ := hg'.form; have QN := Lib.hid (show Qw w t m a (j + 2) v' (d ++ [10]) w2 from ⟨hgr'.below (Q.out.below.alloc Q.out.below.size _) (Nat.le_trans Q.out.below.size (below_alloc1 wr _).size) (fun g hg => (Q.out.grow.bound g hg).1), by rw [bD_snoc]; first | exact hg' | (rw [cb_at]; exact hg'), by rw [List.length_append]; have := Q.out.len; show _ + 1 ≤ _; omega, Q.out.is.trans HS.out⟩); have HL := Lib.hid (show ((bD d ++ [D.int .u8 (10)]).length : Int) = ((d.length + 1 : Nat) : Int) by rw [List.length_append, bD_len]; rfl); rw [show (bD d ++ [D.int .u8 (10)]).length = d.length + 1 by rw [List.length_append, bD_len]; rfl] at hv'; clear hg' hgr' HL; subst hv')
                  go_roundw
                  case rel => exact ⟨(j + 2), by rw [E2.out], by have := HQ.out; omega, by omega, Lib.hid ⟨_, QN.out, .inl HMM.out⟩⟩
                  case measure => have := E2.out; simp [intOf]; omega
                · have e39 : (m == 39) = true := by rw [h39]; rfl
                  have HMM := Lib.hid h39
                  have HD1 := Lib.hid hd1
                  clear h39 hd1
                  by_cases hl : d.length = 0
                  · have b1 : ¬ (1 : Int) < ((d.length + 1 : Nat) : Int) := by omega
                    clear hl
                    go_wp2_with (at_builtin; refine wpl_push rfl _ _ 54 rfl w.heap.size 5 i0 (.int .u8 0) 1 1 Tryd.underlying54 hi hz0 hz1 hz2 rfl (by decide) _ (bD d) rfl Q.out.grow (below_alloc1 wr (.cells #[.int .u8 (10)] 5)) (.int .u8 (10)) [.int .u8 (10)] (fr_int _ _ _ _) rfl wr.heap.size 1 rfl (cellsAt_new wr [.int .u8 (10)] 5) (by rw [bD_len]; have := Q.out.len; omega) (by rw [bD_len]; have := Q.out.len; omega) Q.out.below.size ?_; intro v' w2 hg' hgr' _; obtain ⟨A', c', hv', _, _, _⟩ := hg'.form; have QN := Lib.hid (show Qw w t m a (j + 2) v' (d ++ [10]) w2 from ⟨hgr'.below (Q.out.below.alloc Q.out.below.size _) (Nat.le_trans Q.out.below.size (below_alloc1 wr _).size) (fun g hg => (Q.out.grow.bound g hg).1), by rw [bD_snoc]; first | exact hg' | (rw [cb_at]; exact hg'), by rw [List.length_append]; have := Q.out.len; show _ + 1 ≤ _; omega, Q.out.is.trans HS.out⟩); have HL := Lib.hid (show ((bD d ++ [D.int .u8 (10)]).length : Int) = ((d.length + 1 : Nat) : Int) by rw [List.length_append, bD_len]; rfl); rw [show (bD d ++ [D.int .u8 (10)]).length = d.length + 1 by rw [List.length_append, bD_len]; rfl] at hv'; clear hg' hgr' HL; subst hv')
                    go_roundw
                    case rel => exact ⟨(j + 2), by rw [E2.out], by have := HQ.out; omega, by omega, Lib.hid ⟨_, QN.out, .inr ⟨HMM.out, by rw [List.length_append]; have := b1; show _ + 1 ≤ 1; omega⟩⟩⟩
                    case measure => have := E2.out; simp [intOf]; omega
                  · have b1 : (1 : Int) < ((d.length + 1 : Nat) : Int) := by omega
                    go_wp2_with (at_builtin; refine wpl_push rfl _ _ 54 rfl w.heap.size 5 i0 (.int .u8 0) 1 1 Tryd.underlying54 hi hz0 hz1 hz2 rfl (by decide) _ (bD d) rfl Q.out.grow (below_alloc1 wr (.cells #[.int .u8 (10)] 5)) (.int .u8 (10)) [.int .u8 (10)] (fr_int _ _ _ _) rfl wr.heap.size 1 rfl (cellsAt_new wr [.int .u8 (10)] 5) (by rw [bD_len]; have := Q.out.len; omega) (by rw [bD_len]; have := Q.out.len; omega) Q.out.below.size ?_; intro v' w2 hg' hgr' _; obtain ⟨A', c', hv', _, _, _⟩ := hg'.form; have QN := Lib.hid (show Qw w t m a (j + 2) v' (d ++ [10]) w2 from ⟨hgr'.below (Q.out.below.alloc Q.out.below.size _) (Nat.le_trans Q.out.below.size (below_alloc1 wr _).size) (fun g hg => (Q.out.grow.bound g hg).1), by rw [bD_snoc]; first | exact hg' | (rw [cb_at]; exact hg'), by rw [List.length_append]; have := Q.out.len; show _ + 1 ≤ _; omega, Q.out.is.trans HS.out⟩); have HL := Lib.hid (show ((bD d ++ [D.int .u8 (10)]).length : Int) = ((d.length + 1 : Nat) : Int) by rw [List.length_append, bD_len]; rfl); rw [show (bD d ++ [D.int .u8 (10)]).length = d.length + 1 by rw [List.length_append, bD_len]; rfl] at hv'; clear hg' hgr' HL; subst hv')
                    have HX := Lib.hid (qr_long (t := t) (a := a) (s := ⟨#[]⟩) (n := 0) HMM.out QN.out.is (by rw [List.length_append]; show 2 ≤ d.length + 1; omega))
                    refine bodyPost_ret (v := .tuple #[.string ⟨#[]⟩, .int .i64 0, .bool false]) (by simp [results, Tryd.results59, go_sem]) rfl (qpost HX.out QN.out.below)
              · have HS := Lib.hid (quoM_two (d := d) hlt HQ.out hm hb h92 hlq h5 h110)
                rcases (show cb t q = 92 ∨ (¬ cb t q = 92 ∧ cb t q = 39) ∨ (¬ cb t q = 92 ∧ ¬ cb t q = 39 ∧ cb t q = 34) by
                  simp [inL] at h5
                  omega) with g1 | ⟨g1, g2⟩ | ⟨g1, g2, g3⟩
                · have g1e : (cb t q == 92) = true := by simp [g1]
                  have h110e : (cb t q == 110) = false := by simpa using h110
                  have h92e : (cb t j == 92) = true := by simp [h92]
                  have hbb := Lib.hid hb
                  clear g1 h110 h92 hm h5 hb
                  rcases HM.out with h34 | ⟨h39, hd1⟩
                  · have e39 : (m == 39) = false := by rw [h34]; rfl
                    have HMM := Lib.hid h34
                    clear h34
                    go_wp2_with (at_builtin; refine wpl_push rfl _ _ 54 rfl w.heap.size 5 i0 (.int .u8 0) 1 1 Tryd.underlying54 hi hz0 hz1 hz2 rfl (by decide) _ (bD d) rfl Q.out.grow (below_alloc1 wr (.cells #[.int .u8 (cb t q)] 5)) (.int .u8 (cb t q)) [.int .u8 (cb t q)] (fr_int _ _ _ _) rfl wr.heap.size 1 rfl (cellsAt_new wr [.int .u8 (cb t q)] 5) (by rw [bD_len]; have := Q.out.len; omega) (by rw [bD_len]; have := Q.out.len; omega) Q.out.below.size ?_; intro v' w2 hg' hgr' _; obtain ⟨A', c', hv', _, _, _⟩ := hg'.form; have QN := Lib.hid (show Qw w t m a (j + 2) v' (d ++ [t[q]]) w2 from ⟨hgr'.below (Q.out.below.alloc Q.out.below.size _) (Nat.le_trans Q.out.below.size (below_alloc1 wr _).size) (fun g hg => (Q.out.grow.bound g hg).1), by rw [bD_snoc]; first | exact hg' | (rw [cb_at]; exact hg'), by rw [List.length_append]; have := Q.out.len; show _ + 1 ≤ _; omega, Q.out.is.trans HS.out⟩); have HL := Lib.hid (show ((bD d ++ [D.int .u8 (cb t q)]).length : Int) = ((d.length + 1 : Nat) : Int) by rw [List.length_append, bD_len]; rfl); rw [show (bD d ++ [D.int .u8 (cb t q)]).length = d.length + 1 by rw [List.length_append, bD_len]; rfl] at hv'; clear hg' hgr' HL; subst hv')
                    go_roundw
                    case rel => exact ⟨(j + 2), by rw [E2.out], by have := HQ.out; omega, by omega, Lib.hid ⟨_, QN.out, .inl HMM.out⟩⟩
                    case measure => have := E2.out; simp [intOf]; omega
                  · have e39 : (m == 39) = true := by rw [h39]; rfl
                    have HMM := Lib.hid h39
                    have HD1 := Lib.hid hd1
                    clear h39 hd1
                    by_cases hl : d.length = 0
                    · have b1 : ¬ (1 : Int) < ((d.length + 1 : Nat) : Int) := by omega
                      clear hl
                      go_wp2_with (at_builtin; refine wpl_push rfl _ _ 54 rfl w.heap.size 5 i0 (.int .u8 0) 1 1 Tryd.underlying54 hi hz0 hz1 hz2 rfl (by decide) _ (bD d) rfl Q.out.grow (below_alloc1 wr (.cells #[.int .u8 (cb t q)] 5)) (.int .u8 (cb t q)) [.int .u8 (cb t q)] (fr_int _ _ _ _) rfl wr.heap.size 1 rfl (cellsAt_new wr [.int .u8 (cb t q)] 5) (by rw [bD_len]; have := Q.out.len; omega) (by rw [bD_len]; have := Q.out.len; omega) Q.out.below.size ?_; intro v' w2 hg' hgr' _; obtain ⟨A', c', hv', _, _, _⟩ := hg'.form; have QN := Lib.hid (show Qw w t m a (j + 2) v' (d ++ [t[q]]) w2 from ⟨hgr'.below (Q.out.below.alloc Q.out.below.size _) (Nat.le_trans Q.out.below.size (below_alloc1 wr _).size) (fun g hg => (Q.out.grow.bound g hg).1), by rw [bD_snoc]; first | exact hg' | (rw [cb_at]; exact hg'), by rw [List.length_append]; have := Q.out.len; show _ + 1 ≤ _; omega, Q.out.is.trans HS.out⟩); have HL := Lib.hid (show ((bD d ++ [D.int .u8 (cb t q)]).length : Int) = ((d.length + 1 : Nat) : Int) by rw [List.length_append, bD_len]; rfl); rw [show (bD d ++ [D.int .u8 (cb t q)]).length = d.length + 1 by rw [List.length_append, bD_len]; rfl] at hv'; clear hg' hgr' HL; subst hv')
                      go_roundw
                      case rel => exact ⟨(j + 2), by rw [E2.out], by have := HQ.out; omega, by omega, Lib.hid ⟨_, QN.out, .inr ⟨HMM.out, by rw [List.length_append]; have := b1; show _ + 1 ≤ 1; omega⟩⟩⟩
                      case measure => have := E2.out; simp [intOf]; omega
                    · have b1 : (1 : Int) < ((d.length + 1 : Nat) : Int) := by omega
                      go_wp2_with (at_builtin; refine wpl_push rfl _ _ 54 rfl w.heap.size 5 i0 (.int .u8 0) 1 1 Tryd.underlying54 hi hz0 hz1 hz2 rfl (by decide) _ (bD d) rfl Q.out.grow (below_alloc1 wr (.cells #[.int .u8 (cb t q)] 5)) (.int .u8 (cb t q)) [.int .u8 (cb t q)] (fr_int _ _ _ _) rfl wr.heap.size 1 rfl (cellsAt_new wr [.int .u8 (cb t q)] 5) (by rw [bD_len]; have := Q.out.len; omega) (by rw [bD_len]; have := Q.out.len; omega) Q.out.below.size ?_; intro v' w2 hg' hgr' _; obtain ⟨A', c', hv', _, _, _⟩ := hg'.form; have QN := Lib.hid (show Qw w t m a (j + 2) v' (d ++ [t[q]]) w2 from ⟨hgr'.below (Q.out.below.alloc Q.out.below.size _) (Nat.le_trans Q.out.below.size (below_alloc1 wr _).size) (fun g hg => (Q.out.grow.bound g hg).1), by rw [bD_snoc]; first | exact hg' | (rw [cb_at]; exact hg'), by rw [List.length_append]; have := Q.out.len; show _ + 1 ≤ _; omega, Q.out.is.trans HS.out⟩); have HL := Lib.hid (show ((bD d ++ [D.int .u8 (cb t q)]).length : Int) = ((d.length + 1 : Nat) : Int) by rw [List.length_append, bD_len]; rfl); rw [show (bD d ++ [D.int .u8 (cb t q)]).length = d.length + 1 by rw [List.length_append, bD_len]; rfl] at hv'; clear hg' hgr' HL; subst hv')
                      have HX := Lib.hid (qr_long (t := t) (a := a) (s := ⟨#[]⟩) (n := 0) HMM.out QN.out.is (by rw [List.length_append]; show 2 ≤ d.length + 1; omega))
                      refine bodyPost_ret (v := .tuple #[.string ⟨#[]⟩, .int .i64 0, .bool false]) (by simp [results, Tryd.results59, go_sem]) rfl (qpost HX.out QN.out.below)
                · have g1e : (cb t q == 92) = false := by simpa using g1
                  have g2e : (cb t q == 39) = true := by simp [g2]
                  have h110e : (cb t q == 110) = false := by simpa using h110
                  have h92e : (cb t j == 92) = true := by simp [h92]
                  have hbb := Lib.hid hb
                  clear g1 g2 h110 h92 hm h5 hb
                  rcases HM.out with h34 | ⟨h39, hd1⟩
                  · have e39 : (m == 39) = false := by rw [h34]; rfl
                    have HMM := Lib.hid h34
                    clear h34
                    go_wp2_with (at_builtin; refine wpl_push rfl _ _ 54 rfl w.heap.size 5 i0 (.int .u8 0) 1 1 Tryd.underlying54 hi hz0 hz1 hz2 rfl (by decide) _ (bD d) rfl Q.out.grow (below_alloc1 wr (.cells #[.int .u8 (cb t q)] 5)) (.int .u8 (cb t q)) [.int .u8 (cb t q)] (fr_int _ _ _ _) rfl wr.heap.size 1 rfl (cellsAt_new wr [.int .u8 (cb t q)] 5) (by rw [bD_len]; have := Q.out.len; omega) (by rw [bD_len]; have := Q.out.len; omega) Q.out.below.size ?_; intro v' w2 hg' hgr' _; obtain ⟨A', c', hv', _, _, _⟩ := hg'.form; have QN := Lib.hid (show Qw w t m a (j + 2) v' (d ++ [t[q]]) w2 from ⟨hgr'.below (Q.out.below.alloc Q.out.below.size _) (Nat.le_trans Q.out.below.size (below_alloc1 wr _).size) (fun g hg => (Q.out.grow.bound g hg).1), by rw [bD_snoc]; first | exact hg' | (rw [cb_at]; exact hg'), by rw [List.length_append]; have := Q.out.len; show _ + 1 ≤ _; omega, Q.out.is.trans HS.out⟩); have HL := Lib.hid (show ((bD d ++ [D.int .u8 (cb t q)]).length : Int) = ((d.length + 1 : Nat) : Int) by rw [List.length_append, bD_len]; rfl); rw [show (bD d ++ [D.int .u8 (cb t q)]).length = d.length + 1 by rw [List.length_append, bD_len]; rfl] at hv'; clear hg' hgr' HL; subst hv')
                    go_roundw
                    case rel => exact ⟨(j + 2), by rw [E2.out], by have := HQ.out; omega, by omega, Lib.hid ⟨_, QN.out, .inl HMM.out⟩⟩
                    case measure => have := E2.out; simp [intOf]; omega
                  · have e39 : (m == 39) = true := by rw [h39]; rfl
                    have HMM := Lib.hid h39
                    have HD1 := Lib.hid hd1
                    clear h39 hd1
                    by_cases hl : d.length = 0
                    · have b1 : ¬ (1 : Int) < ((d.length + 1 : Nat) : Int) := by omega
                      clear hl
                      go_wp2_with (at_builtin; refine wpl_push rfl _ _ 54 rfl w.heap.size 5 i0 (.int .u8 0) 1 1 Tryd.underlying54 hi hz0 hz1 hz2 rfl (by decide) _ (bD d) rfl Q.out.grow (below_alloc1 wr (.cells #[.int .u8 (cb t q)] 5)) (.int .u8 (cb t q)) [.int .u8 (cb t q)] (fr_int _ _ _ _) rfl wr.heap.size 1 rfl (cellsAt_new wr [.int .u8 (cb t q)] 5) (by rw [bD_len]; have := Q.out.len; omega) (by rw [bD_len]; have := Q.out.len; omega) Q.out.below.size ?_; intro v' w2 hg' hgr' _; obtain ⟨A', c', hv', _, _, _⟩ := hg'.form; have QN := Lib.hid (show Qw w t m a (j + 2) v' (d ++ [t[q]]) w2 from ⟨hgr'.below (Q.out.below.alloc Q.out.below.size _) (Nat.le_trans Q.out.below.size (below_alloc1 wr _).size) (fun g hg => (Q.out.grow.bound g hg).1), by rw [bD_snoc]; first | exact hg' | (rw [cb_at]; exact hg'), by rw [List.length_append]; have := Q.out.len; show _ + 1 ≤ _; omega, Q.out.is.trans HS.out⟩); have HL := Lib.hid (show ((bD d ++ [D.int .u8 (cb t q)]).length : Int) = ((d.length + 1 : Nat) : Int) by rw [List.length_append, bD_len]; rfl); rw [show (bD d ++ [D.int .u8 (cb t q)]).length = d.length + 1 by rw [List.length_append, bD_len]; rfl] at hv'; clear hg' hgr' HL; subst hv')
                      go_roundw
                      case rel => exact ⟨(j + 2), by rw [E2.out], by have := HQ.out; omega, by omega, Lib.hid ⟨_, QN.out, .inr ⟨HMM.out, by rw [List.length_append]; have := b1; show _ + 1 ≤ 1; omega⟩⟩⟩
                      case measure => have := E2.out; simp [intOf]; omega
                    · have b1 : (1 : Int) < ((d.length + 1 : Nat) : Int) := by omega
                      go_wp2_with (at_builtin; refine wpl_push rfl _ _ 54 rfl w.heap.size 5 i0 (.int .u8 0) 1 1 Tryd.underlying54 hi hz0 hz1 hz2 rfl (by decide) _ (bD d) rfl Q.out.grow (below_alloc1 wr (.cells #[.int .u8 (cb t q)] 5)) (.int .u8 (cb t q)) [.int .u8 (cb t q)] (fr_int _ _ _ _) rfl wr.heap.size 1 rfl (cellsAt_new wr [.int .u8 (cb t q)] 5) (by rw [bD_len]; have := Q.out.len; omega) (by rw [bD_len]; have := Q.out.len; omega) Q.out.below.size ?_; intro v' w2 hg' hgr' _; obtain ⟨A', c', hv', _, _, _⟩ := hg'.form; have QN := Lib.hid (show Qw w t m a (j + 2) v' (d ++ [t[q]]) w2 from ⟨hgr'.below (Q.out.below.alloc Q.out.below.size _) (Nat.le_trans Q.out.below.size (below_alloc1 wr _).size) (fun g hg => (Q.out.grow.bound g hg).1), by rw [bD_snoc]; first | exact hg' | (rw [cb_at]; exact hg'), by rw [List.length_append]; have := Q.out.len; show _ + 1 ≤ _; omega, Q.out.is.trans HS.out⟩); have HL := Lib.hid (show ((bD d ++ [D.int .u8 (cb t q)]).length : Int) = ((d.length + 1 : Nat) : Int) by rw [List.length_append, bD_len]; rfl); rw [show (bD d ++ [D.int .u8 (cb t q)]).length = d.length + 1 by rw [List.length_append, bD_len]; rfl] at hv'; clear hg' hgr' HL; subst hv')
                      have HX := Lib.hid (qr_long (t := t) (a := a) (s := ⟨#[]⟩) (n := 0) HMM.out QN.out.is (by rw [List.length_append]; show 2 ≤ d.length + 1; omega))
                      refine bodyPost_ret (v := .tuple #[.string ⟨#[]⟩, .int .i64 0, .bool false]) (by simp [results, Tryd.results59, go_sem]) rfl (qpost HX.out QN.out.below)
                · have g1e : (cb t q == 92) = false := by simpa using g1
                  have g2e : (cb t q == 39) = false := by simpa using g2
                  have g3e : (cb t q == 34) = true := by simp [g3]
                  have h110e : (cb t q == 110) = false := by simpa using h110
                  have h92e : (cb t j == 92) = true := by simp [h92]
                  have hbb := Lib.hid hb
                  clear g1 g2 g3 h110 h92 hm h5 hb
                  rcases HM.out with h34 | ⟨h39, hd1⟩
                  · have e39 : (m == 39) = false := by rw [h34]; rfl
                    have HMM := Lib.hid h34
                    clear h34
                    go_wp2_with (at_builtin; refine wpl_push rfl _ _ 54 rfl w.heap.size 5 i0 (.int .u8 0) 1 1 Tryd.underlying54 hi hz0 hz1 hz2 rfl (by decide) _ (bD d) rfl Q.out.grow (below_alloc1 wr (.cells #[.int .u8 (cb t q)] 5)) (.int .u8 (cb t q)) [.int .u8 (cb t q)] (fr_int _ _ _ _) rfl wr.heap.size 1 rfl (cellsAt_new wr [.int .u8 (cb t q)] 5) (by rw [bD_len]; have := Q.out.len; omega) (by rw [bD_len]; have := Q.out.len; omega) Q.out.below.size ?_; intro v' w2 hg' hgr' _; obtain ⟨A', c', hv', _, _, _⟩ := hg'.form; have QN := Lib.hid (show Qw w t m a (j + 2) v' (d ++ [t[q]]) w2 from ⟨hgr'.below (Q.out.below.alloc Q.out.below.size _) (Nat.le_trans Q.out.below.size (below_alloc1 wr _).size) (fun g hg => (Q.out.grow.bound g hg).1), by rw [bD_snoc]; first | exact hg' | (rw [cb_at]; exact hg'), by rw [List.length_append]; have := Q.out.len; show _ + 1 ≤ _; omega, Q.out.is.trans HS.out⟩); have HL := Lib.hid (show ((bD d ++ [D.int .u8 (cb t q)]).length : Int) = ((d.length + 1 : Nat) : Int) by rw [List.length_append, bD_len]; rfl); rw [show (bD d ++ [D.int .u8 (cb t q)]).length = d.length + 1 by rw [List.length_append, bD_len]; rfl] at hv'; clear hg' hgr' HL; subst hv')
                    go_roundw
                    case rel => exact ⟨(j + 2), by rw [E2.out], by have := HQ.out; omega, by omega, Lib.hid ⟨_, QN.out, .inl HMM.out⟩⟩
                    case measure => have := E2.out; simp [intOf]; omega
                  · have e39 : (m == 39) = true := by rw [h39]; rfl
                    have HMM := Lib.hid h39
                    have HD1 := Lib.hid hd1
                    clear h39 hd1
                    by_cases hl : d.length = 0
                    · have b1 : ¬ (1 : Int) < ((d.length + 1 : Nat) : Int) := by omega
                      clear hl
                      go_wp2_with (at_builtin; refine wpl_push rfl _ _ 54 rfl w.heap.size 5 i0 (.int .u8 0) 1 1 Tryd.underlying54 hi hz0 hz1 hz2 rfl (by decide) _ (bD d) rfl Q.out.grow (below_alloc1 wr (.cells #[.int .u8 (cb t q)] 5)) (.int .u8 (cb t q)) [.int .u8 (cb t q)] (fr_int _ _ _ _) rfl wr.heap.size 1 rfl (cellsAt_new wr [.int .u8 (cb t q)] 5) (by rw [bD_len]; have := Q.out.len; omega) (by rw [bD_len]; have := Q.out.len; omega) Q.out.below.size ?_; intro v' w2 hg' hgr' _; obtain ⟨A', c', hv', _, _, _⟩ := hg'.form; have QN := Lib.hid (show Qw w t m a (j + 2) v' (d ++ [t[q]]) w2 from ⟨hgr'.below (Q.out.below.alloc Q.out.below.size _) (Nat.le_trans Q.out.below.size (below_alloc1 wr _).size) (fun g hg => (Q.out.grow.bound g hg).1), by rw [bD_snoc]; first | exact hg' | (rw [cb_at]; exact hg'), by rw [List.length_append]; have := Q.out.len; show _ + 1 ≤ _; omega, Q.out.is.trans HS.out⟩); have HL := Lib.hid (show ((bD d ++ [D.int .u8 (cb t q)]).length : Int) = ((d.length + 1 : Nat) : Int) by rw [List.length_append, bD_len]; rfl); rw [show (bD d ++ [D.int .u8 (cb t q)]).length = d.length + 1 by rw [List.length_append, bD_len]; rfl] at hv'; clear hg' hgr' HL; subst hv')
                      go_roundw
                      case rel => exact ⟨(j + 2), by rw [E2.out], by have := HQ.out; omega, by omega, Lib.hid ⟨_, QN.out, .inr ⟨HMM.out, by rw [List.length_append]; have := b1; show _ + 1 ≤ 1; omega⟩⟩⟩
                      case measure => have := E2.out; simp [intOf]; omega
                    · have b1 : (1 : Int) < ((d.length + 1 : Nat) : Int) := by omega
                      go_wp2_with (at_builtin; refine wpl_push rfl _ _ 54 rfl w.heap.size 5 i0 (.int .u8 0) 1 1 Tryd.underlying54 hi hz0 hz1 hz2 rfl (by decide) _ (bD d) rfl Q.out.grow (below_alloc1 wr (.cells #[.int .u8 (cb t q)] 5)) (.int .u8 (cb t q)) [.int .u8 (cb t q)] (fr_int _ _ _ _) rfl wr.heap.size 1 rfl (cellsAt_new wr [.int .u8 (cb t q)] 5) (by rw [bD_len]; have := Q.out.len; omega) (by rw [bD_len]; have := Q.out.len; omega) Q.out.below.size ?_; intro v' w2 hg' hgr' _; obtain ⟨A', c', hv', _, _, _⟩ := hg'.form; have QN := Lib.hid (show Qw w t m a (j + 2) v' (d ++ [t[q]]) w2 from ⟨hgr'.below (Q.out.below.alloc Q.out.below.size _) (Nat.le_trans Q.out.below.size (below_alloc1 wr _).size) (fun g hg => (Q.out.grow.bound g hg).1), by rw [bD_snoc]; first | exact hg' | (rw [cb_at]; exact hg'), by rw [List.length_append]; have := Q.out.len; show _ + 1 ≤ _; omega, Q.out.is.trans HS.out⟩); have HL := Lib.hid (show ((bD d ++ [D.int .u8 (cb t q)]).length : Int) = ((d.length + 1 : Nat) : Int) by rw [List.length_append, bD_len]; rfl); rw [show (bD d ++ [D.int .u8 (cb t q)]).length = d.length + 1 by rw [List.length_append, bD_len]; rfl] at hv'; clear hg' hgr' HL; subst hv')
                      have HX := Lib.hid (qr_long (t := t) (a := a) (s := ⟨#[]⟩) (n := 0) HMM.out QN.out.is (by rw [List.length_append]; show 2 ≤ d.length + 1; omega))
                      refine bodyPost_ret (v := .tuple #[.string ⟨#[]⟩, .int .i64 0, .bool false]) (by simp [results, Tryd.results59, go_sem]) rfl (qpost HX.out QN.out.below)
          · have HX := Lib.hid (qr_none (s := ⟨#[]⟩) (n := 0) (Q.out.is.trans (quoM_cut hlt hm hb h92 hl2)))
            have hge : decide ((t.size : Int) ≤ (j : Int) + 1) = true := by simp; omega
            go_wp2
            refine bodyPost_ret (v := .tuple #[.string ⟨#[]⟩, .int .i64 0, .bool false]) (by simp [results, Tryd.results59, go_sem]) rfl (qpost HX.out Q.out.below)
        · by_cases hb : cb t j < 32 ∨ 126 < cb t j
          · have HX := Lib.hid (qr_none (s := ⟨#[]⟩) (n := 0) (Q.out.is.trans (quoM_bad hlt hm hb)))
            rcases (show cb t j < 32 ∨ (¬ cb t j < 32 ∧ 126 < cb t j) by omega) with hb1 | ⟨hb1, hb2⟩
            · go_wp2
              refine bodyPost_ret (v := .tuple #[.string ⟨#[]⟩, .int .i64 0, .bool false]) (by simp [results, Tryd.results59, go_sem]) rfl (qpost HX.out Q.out.below)
            · go_wp2
              refine bodyPost_ret (v := .tuple #[.string ⟨#[]⟩, .int .i64 0, .bool false]) (by simp [results, Tryd.results59, go_sem]) rfl (qpost HX.out Q.out.below)
          · have hb1 : ¬ cb t j < 32 := fun h => hb (.inl h)
            have hb2 : ¬ 126 < cb t j := fun h => hb (.inr h)
            have HS := Lib.hid (quoM_one (d := d) hlt hm hb h92)
            rcases HM.out with h34 | ⟨h39, hd1⟩
            · have e39 : (m == 39) = false := by rw [h34]; rfl
              have HMM := Lib.hid h34
              clear h34
              go_wp2_with (at_builtin; refine wpl_push rfl _ _ 54 rfl w.heap.size 5 i0 (.int .u8 0) 1 1 Tryd.underlying54 hi hz0 hz1 hz2 rfl (by decide) _ (bD d) rfl Q.out.grow (below_alloc1 wr (.cells #[.int .u8 (cb t j)] 5)) (.int .u8 (cb t j)) [.int .u8 (cb t j)] (fr_int _ _ _ _) rfl wr.heap.size 1 rfl (cellsAt_new wr [.int .u8 (cb t j)] 5) (by rw [bD_len]; have := Q.out.len; omega) (by rw [bD_len]; have := Q.out.len; omega) Q.out.below.size ?_; intro v' w2 hg' hgr' _; obtain ⟨A', c', hv', _, _, _⟩ := hg'.form; have QN := Lib.hid (show Qw w t m a (j + 1) v' (d ++ [t[j]]) w2 from ⟨hgr'.below (Q.out.below.alloc Q.out.below.size _) (Nat.le_trans Q.out.below.size (below_alloc1 wr _).size) (fun g hg => (Q.out.grow.bound g hg).1), by rw [bD_snoc]; first | exact hg' | (rw [cb_at]; exact hg'), by rw [List.length_append]; have := Q.out.len; show _ + 1 ≤ _; omega, Q.out.is.trans HS.out⟩); have HL := Lib.hid (show ((bD d ++ [D.int .u8 (cb t j)]).length : Int) = ((d.length + 1 : Nat) : Int) by rw [List.length_append, bD_len]; rfl); rw [show (bD d ++ [D.int .u8 (cb t j)]).length = d.length + 1 by rw [List.length_append, bD_len]; rfl] at hv'; clear hg' hgr' HL; subst hv')
              go_roundw
              case rel => exact ⟨(j + 1), by go_num, by omega, by omega, Lib.hid ⟨_, QN.out, .inl HMM.out⟩⟩
              case measure => simp [intOf]; omega
            · have e39 : (m == 39) = true := by rw [h39]; rfl
              have HMM := Lib.hid h39
              have HD1 := Lib.hid hd1
              clear h39 hd1
              by_cases hl : d.length = 0
              · have b1 : ¬ (1 : Int) < ((d.length + 1 : Nat) : Int) := by omega
                clear hl
                go_wp2_with (at_builtin; refine wpl_push rfl _ _ 54 rfl w.heap.size 5 i0 (.int .u8 0) 1 1 Tryd.underlying54 hi hz0 hz1 hz2 rfl (by decide) _ (bD d) rfl Q.out.grow (below_alloc1 wr (.cells #[.int .u8 (cb t j)] 5)) (.int .u8 (cb t j)) [.int .u8 (cb t j)] (fr_int _ _ _ _) rfl wr.heap.size 1 rfl (cellsAt_new wr [.int .u8 (cb t j)] 5) (by rw [bD_len]; have := Q.out.len; omega) (by rw [bD_len]; have := Q.out.len; omega) Q.out.below.size ?_; intro v' w2 hg' hgr' _; obtain ⟨A', c', hv', _, _, _⟩ := hg'.form; have QN := Lib.hid (show Qw w t m a (j + 1) v' (d ++ [t[j]]) w2 from ⟨hgr'.below (Q.out.below.alloc Q.out.below.size _) (Nat.le_trans Q.out.below.size (below_alloc1 wr _).size) (fun g hg => (Q.out.grow.bound g hg).1), by rw [bD_snoc]; first | exact hg' | (rw [cb_at]; exact hg'), by rw [List.length_append]; have := Q.out.len; show _ + 1 ≤ _; omega, Q.out.is.trans HS.out⟩); have HL := Lib.hid (show ((bD d ++ [D.int .u8 (cb t j)]).length : Int) = ((d.length + 1 : Nat) : Int) by rw [List.length_append, bD_len]; rfl); rw [show (bD d ++ [D.int .u8 (cb t j)]).length = d.length + 1 by rw [List.length_append, bD_len]; rfl] at hv'; clear hg' hgr' HL; subst hv')
                go_roundw
                case rel => exact ⟨(j + 1), by go_num, by omega, by omega, Lib.hid ⟨_, QN.out, .inr ⟨HMM.out, by rw [List.length_append]; have := b1; show _ + 1 ≤ 1; omega⟩⟩⟩
                case measure => simp [intOf]; omega
              · have b1 : (1 : Int) < ((d.length + 1 : Nat) : Int) := by omega
                go_wp2_with (at_builtin; refine wpl_push rfl _ _ 54 rfl w.heap.size 5 i0 (.int .u8 0) 1 1 Tryd.underlying54 hi hz0 hz1 hz2 rfl (by decide) _ (bD d) rfl Q.out.grow (below_alloc1 wr (.cells #[.int .u8 (cb t j)] 5)) (.int .u8 (cb t j)) [.int .u8 (cb t j)] (fr_int _ _ _ _) rfl wr.heap.size 1 rfl (cellsAt_new wr [.int .u8 (cb t j)] 5) (by rw [bD_len]; have := Q.out.len; omega) (by rw [bD_len]; have := Q.out.len; omega) Q.out.below.size ?_; intro v' w2 hg' hgr' _; obtain ⟨A', c', hv', _, _, _⟩ := hg'.form; have QN := Lib.hid (show Qw w t m a (j + 1) v' (d ++ [t[j]]) w2 from ⟨hgr'.below (Q.out.below.alloc Q.out.below.size _) (Nat.le_trans Q.out.below.size (below_alloc1 wr _).size) (fun g hg => (Q.out.grow.bound g hg).1), by rw [bD_snoc]; first | exact hg' | (rw [cb_at]; exact hg'), by rw [List.length_append]; have := Q.out.len; show _ + 1 ≤ _; omega, Q.out.is.trans HS.out⟩); have HL := Lib.hid (show ((bD d ++ [D.int .u8 (cb t j)]).length : Int) = ((d.length + 1 : Nat) : Int) by rw [List.length_append, bD_len]; rfl); rw [show (bD d ++ [D.int .u8 (cb t j)]).length = d.length + 1 by rw [List.length_append, bD_len]; rfl] at hv'; clear hg' hgr' HL; subst hv')
                have HX := Lib.hid (qr_long (t := t) (a := a) (s := ⟨#[]⟩) (n := 0) HMM.out QN.out.is (by rw [List.length_append]; show 2 ≤ d.length + 1; omega))
                refine bodyPost_ret (v := .tuple #[.string ⟨#[]⟩, .int .i64 0, .bool false]) (by simp [results, Tryd.results59, go_sem]) rfl (qpost HX.out QN.out.below)
    · have HX := Lib.hid (qr_none (s := ⟨#[]⟩) (n := 0) (Q.out.is.trans (quoM_out hlt)))
      go_wp2
      refine bodyPost_ret (v := .tuple #[.string ⟨#[]⟩, .int .i64 0, .bool false]) (by simp [results, Tryd.results59, go_sem]) rfl (qpost HX.out Q.out.below)

end Go.Proofs.YtifmnijdaboenaaDoor
