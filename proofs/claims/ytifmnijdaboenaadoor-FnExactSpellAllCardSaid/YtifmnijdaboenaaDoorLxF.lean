/- The reference's lexer: how far the tokens are told; blanks and comments; no condition. -/
import Derived.Test.YtifmnijdaboenaaDoorLxE
namespace Go.Proofs.YtifmnijdaboenaaDoor
open Go.RowKit
set_option linter.unusedVariables false
set_option linter.unusedSimpArgs false

/-- Reading stands at a, and from there on R comes out. -/
structure Tl (t : ByteArray) (R : LexR) (a : Nat) (p : Int × Int) (ts : List Tk) : Prop where
  le : a ≤ t.size
  len : ts.length ≤ a
  l0 : 0 ≤ p.1
  l1 : p.1 ≤ 1 + a
  c0 : 0 ≤ p.2
  c1 : p.2 ≤ 1 + a
  run : ∃ f, t.size < a + f ∧ lexL t f a p ts = R
section
variable {t : ByteArray} {R : LexR} {a n : Nat} {p : Int × Int} {ts : List Tk}
theorem Tl.adv (h : Tl t R a p ts) (hn : a + n ≤ t.size) {ts' : List Tk} (hl : ts'.length ≤ a + n) (hr : ∃ f, t.size < a + n + f ∧ lexL t f (a + n) (advL t a n p) ts' = R) : Tl t R (a + n) (advL t a n p) ts' := by
  have := advL_bound t n a p (1 + a) h.l0 h.l1 h.c0 h.c1 (by omega)
  exact ⟨hn, hl, by omega, by omega, by omega, by omega, hr⟩
theorem Tl.skip (h : Tl t R a p ts) (hs : stepL t a = .skip n) (ha : a < t.size) : 1 ≤ n ∧ a + n ≤ t.size ∧ Tl t R (a + n) (advL t a n p) ts := by
  have hp := stepL_skip hs ha
  refine ⟨hp.1, hp.2, h.adv hp.2 (by have := h.len; omega) ?_⟩
  obtain ⟨f, hf, hr⟩ := h.run
  cases f with
  | zero => omega
  | succ f =>
    rw [lexL, if_neg (by omega), hs] at hr
    exact ⟨f, by omega, hr⟩
theorem Tl.tok (h : Tl t R a p ts) {k : Int} {x : ByteArray} (hs : stepL t a = .tok k x n) (ha : a < t.size) : 1 ≤ n ∧ a + n ≤ t.size ∧ Tl t R (a + n) (advL t a n p) (ts ++ [⟨k, x, p.1, p.2⟩]) := by
  have hp := stepL_tok hs ha
  refine ⟨hp.1, hp.2, h.adv hp.2 (by have := h.len; rw [List.length_append]; show _ + 1 ≤ _; omega) ?_⟩
  obtain ⟨f, hf, hr⟩ := h.run
  cases f with
  | zero => omega
  | succ f =>
    rw [lexL, if_neg (by omega), hs] at hr
    exact ⟨f, by omega, hr⟩
theorem Tl.bad (h : Tl t R a p ts) {c : Int} (hs : stepL t a = .bad c) (ha : a < t.size) : R = ⟨c, p.1, p.2, []⟩ := by
  obtain ⟨f, hf, hr⟩ := h.run
  cases f with
  | zero => omega
  | succ f =>
    rw [lexL, if_neg (by omega), hs] at hr
    exact hr.symm
theorem Tl.fin (h : Tl t R a p ts) (ha : ¬ a < t.size) : R = ⟨0, 0, 0, ts⟩ := by
  have := h.le
  obtain ⟨f, hf, hr⟩ := h.run
  cases f with
  | zero => exact hr.symm
  | succ f =>
    rw [lexL, if_pos (by omega)] at hr
    exact hr.symm
end
/-- All is told. -/
def Fin_ (W0 : World) (t : ByteArray) (R : LexR) (w : World) : Prop := ∃ a p v, Lx W0 t a p (R.code, R.l, R.c) v R.ts w
/-- Reading stands somewhere behind a0. -/
def Mid (W0 : World) (t : ByteArray) (R : LexR) (a : Nat) (w : World) : Prop := ∃ p v ts, Lx W0 t a p (0, 0, 0) v ts w ∧ Tl t R a p ts
/-- No blank and no comment stands here. -/
def NB (t : ByteArray) (a : Nat) : Prop := ¬ (cb t a = 32 ∨ cb t a = 10) ∧ two t a 123 45 = false ∧ ¬ (2 ≤ runL isSym t a ∧ runL (fun c => c == 45) t a = runL isSym t a)
def atOf (W0 wr : World) : Nat := match wr.cell? ⟨W0.heap.size, 1, none⟩ with | some (.int _ n) => n.toNat | _ => 0
theorem Lx.atOf {W0 w : World} {t : ByteArray} {a : Nat} {p : Int × Int} {e : Int × Int × Int} {v : Value} {ts : List Tk} (h : Lx W0 t a p e v ts w) : atOf W0 w = a := by
  unfold Go.Proofs.YtifmnijdaboenaaDoor.atOf
  rw [h.c1]
  simp
theorem step_sp {t : ByteArray} {a : Nat} (h : cb t a = 32 ∨ cb t a = 10) : stepL t a = .skip 1 := by unfold stepL; rw [if_pos h]
theorem step_bad2 {t : ByteArray} {a : Nat} (h : ¬ (cb t a = 32 ∨ cb t a = 10)) (h2 : two t a 123 45 = true) (h3 : nestL t a 0 = none) : stepL t a = .bad 2 := by unfold stepL; rw [if_neg h, if_pos h2, h3]
theorem step_nest {t : ByteArray} {a e : Nat} (h : ¬ (cb t a = 32 ∨ cb t a = 10)) (h2 : two t a 123 45 = true) (h3 : nestL t a 0 = some e) : stepL t a = .skip (e - a) := by unfold stepL; rw [if_neg h, if_pos h2, h3]
theorem step_dash {t : ByteArray} {a : Nat} (h : ¬ (cb t a = 32 ∨ cb t a = 10)) (h2 : two t a 123 45 = false) (h3 : 2 ≤ runL isSym t a ∧ runL (fun c => c == 45) t a = runL isSym t a) : stepL t a = .skip (runL (fun c => !(c == 10)) t a) := by
  have h4 := runL_all (fun c => c == 45) t a 0 (by omega)
  have h5 : cb t a = 45 := by simpa using h4
  unfold stepL
  rw [if_neg h, if_neg (by simp [h2]), if_neg (by simp [h5, isSm, isCap]), if_neg (by simp [h5, isDig]), if_neg (by omega), if_pos (by rw [h5]; decide), if_pos h3]

theorem dash_le (t : ByteArray) (a : Nat) : runL (fun c => c == 45) t a ≤ runL isSym t a := by
  refine Nat.le_of_not_lt fun h => ?_
  have h1 := runL_all (fun c => c == 45) t a _ h
  have h2 := runL_le (fun c => c == 45) t a
  by_cases ha : a ≤ t.size
  · have h3 := runL_end isSym t a (by have := h2 ha; omega)
    have h5 : cb t (a + runL isSym t a) = 45 := by simpa using h1
    rw [h5] at h3
    exact absurd h3 (by decide)
  · have : runL (fun c => c == 45) t a = 0 := by rw [runL, dif_neg (by omega)]
    omega

theorem specRunS (t : ByteArray) (ht : t.size ≤ 1048576) (a : Nat) (ha : a ≤ t.size) (w : World) : Calls Tryd.prog 38 #[.string t, .int .i64 a, .int .i64 1] w fun e w' => e = .returned (.int .i64 (runL isSym t a)) ∧ w' = w := specRun t ht a ha 1 (.inr (.inl rfl)) w
theorem specNest0 (t : ByteArray) (ht : t.size ≤ 1048576) (B a : Nat) (ha : a ≤ t.size) (w : World) (h0 : w.cell? ⟨B, 0, none⟩ = some (.string t)) (h1 : w.cell? ⟨B, 1, none⟩ = some (.int .i64 a)) (hn : nestL t a 0 = none) :
    Calls Tryd.prog 36 #[.pointer (some ⟨B, 0, none⟩)] w fun e w' => e = .returned (.int .i64 (-1)) ∧ w' = w := by
  have := specNested t ht B a ha w h0 h1
  rwa [show nestI t a = -1 by unfold nestI; rw [hn]] at this
theorem specNest1 (t : ByteArray) (ht : t.size ≤ 1048576) (B a : Nat) (ha : a ≤ t.size) (w : World) (h0 : w.cell? ⟨B, 0, none⟩ = some (.string t)) (h1 : w.cell? ⟨B, 1, none⟩ = some (.int .i64 a)) {e n : Nat} (hn : nestL t a 0 = some e) (he : n = e - a) (hle : a ≤ e) :
    Calls Tryd.prog 36 #[.pointer (some ⟨B, 0, none⟩)] w fun e w' => e = .returned (.int .i64 n) ∧ w' = w := by
  have := specNested t ht B a ha w h0 h1
  rwa [show nestI t a = (n : Int) by unfold nestI; rw [hn]; show (e : Int) - a = n; omega] at this

set_option maxRecDepth 100000 in
set_option maxHeartbeats 8000000 in
theorem specBlank (W0 : World) (t : ByteArray) (ht : t.size ≤ 1048576) (R : LexR) (a : Nat) (w : World) (h : Mid W0 t R a w) :
    Calls Tryd.prog 23 #[.pointer (some ⟨W0.heap.size, 0, none⟩)] w fun x w' => (x = .returned (.bool true) ∧ ∃ a', a ≤ a' ∧ Mid W0 t R a' w' ∧ (a' < t.size → NB t a')) ∨ (x = .returned (.bool false) ∧ Fin_ W0 t R w') := by
  have H := Lib.hid h
  clear h
  go_enter Tryd.func23, Tryd.ntmps23
  go_wp2
  go_loopw [3, 4, 5, 6, 7] (fun _ _ _ _ _ wr => ∃ a', a ≤ a' ∧ Hid (Mid W0 t R a' wr)) (fun _ _ _ _ _ wr => t.size - atOf W0 wr)
  case atStart => exact ⟨a, Nat.le_refl _, H⟩
  case round =>
    obtain ⟨q, haq, hm⟩ := hrel
    obtain ⟨p, v, ts, hx, htl⟩ := hm.out
    have HX := Lib.hid hx
    have HT := Lib.hid htl
    have M := Lib.hid hx.atOf
    clear hm H
    have z0 := hx.c0
    have z1 := hx.c1
    by_cases hlt : q < t.size
    · have i0 : (0 : Int) ≤ (q : Int) := by omega
      have i1 : (q : Int) < (t.size : Int) := by omega
      have hc := cb_at hlt
      clear hx htl
      go_wp2
      go_quiet (fail)
      have H1 := Lib.hid (HX.out.mv (drewN_below (Below.refl _ _) nq))
      generalize wr.drewN nq = w1 at *
      clear z0 z1 HX
      have z0 := H1.out.c0
      have z1 := H1.out.c1
      go_wp2
      go_quiet (fail)
      have H2 := Lib.hid (H1.out.mv (drewN_below (Below.refl _ _) nq))
      generalize w1.drewN nq = w2 at *
      clear z0 z1 H1
      have z0 := H2.out.c0
      have z1 := H2.out.c1
      by_cases hsp : cb t q = 32 ∨ cb t q = 10
      · rcases (show cb t q = 32 ∨ (¬ cb t q = 32 ∧ cb t q = 10) by omega) with h32 | ⟨h32, h10⟩
        · clear z0 z1
          have SK := HT.out.skip (step_sp (.inl h32)) hlt
          go_wp2_with fail
          refine (specSkip W0 t ht q 1 p (0, 0, 0) v ts _ H2.out (by have := SK.2.1; omega) HT.out.l0 (by have := HT.out.l1; omega) HT.out.c0 (by have := HT.out.c1; omega)).mono ?_
          rintro z w3 ⟨rfl, h3⟩
          have M3 := Lib.hid h3.atOf
          have H3 := Lib.hid h3
          clear h3
          go_wp2
          go_roundw
          case rel => exact ⟨q + 1, by omega, Lib.hid ⟨_, v, ts, H3.out, SK.2.2⟩⟩
          case measure => rw [M3.out, M.out]; have := SK.1; omega
        · clear z0 z1
          have SK := HT.out.skip (step_sp (.inr h10)) hlt
          go_wp2_with fail
          refine (specSkip W0 t ht q 1 p (0, 0, 0) v ts _ H2.out (by have := SK.2.1; omega) HT.out.l0 (by have := HT.out.l1; omega) HT.out.c0 (by have := HT.out.c1; omega)).mono ?_
          rintro z w3 ⟨rfl, h3⟩
          have M3 := Lib.hid h3.atOf
          have H3 := Lib.hid h3
          clear h3
          go_wp2
          go_roundw
          case rel => exact ⟨q + 1, by omega, Lib.hid ⟨_, v, ts, H3.out, SK.2.2⟩⟩
          case measure => rw [M3.out, M.out]; have := SK.1; omega
      · have n32 : ¬ cb t q = 32 := fun h => hsp (.inl h)
        have n10 : ¬ cb t q = 10 := fun h => hsp (.inr h)
        have HSP := Lib.hid hsp
        have e32 : (cb t q == 32) = false := by simpa using n32
        have e10 : (cb t q == 10) = false := by simpa using n10
        clear hsp
        have CT := Lib.hid (specTwo t ht W0.heap.size q (by omega) 123 45 w2 z0)
        go_wp2_with fail
        refine CT.out.mono ?_
        clear CT
        rintro e w' ⟨rfl, hw⟩
        obtain rfl := hw.symm
        cases h2 : two t q 123 45
        · have h2' : two t q ((123 : UInt8).toNat : Int) ((45 : UInt8).toNat : Int) = false := h2
          rw [h2']
          obtain ⟨r, hr⟩ : ∃ r, runL isSym t q = r := ⟨_, rfl⟩
          have hrl := runL_le isSym t q (by omega)
          rw [hr] at hrl
          have CR : ∀ W, Hid (Calls Tryd.prog 38 #[.string t, .int .i64 q, .int .i64 1] W fun e w' => e = .returned (.int .i64 r) ∧ w' = W) := fun W => by
            have := specRunS t ht q (by omega) W
            rw [hr] at this
            exact Lib.hid this
          have HR := Lib.hid hr
          clear hr
          go_wp2_with fail
          go_quiet (first | (go_at_call 38; refine Calls.quiet_of_same (CR _).out))
          have H3 := Lib.hid (H2.out.mv (drewN_below (Below.refl _ _) nq))
          generalize w2.drewN nq = w3 at *
          clear z0 z1 H2 CR
          go_wp2
          go_loopw [6] (fun d wi => ∃ j : Nat, d = .int .i64 j ∧ j ≤ r ∧ (∀ k, k < j → (cb t (q + k) == 45) = true) ∧ Hid (Lx W0 t q p (0, 0, 0) v ts wi)) (fun d _ => r - (intOf d).toNat)
          case atStart => exact ⟨0, rfl, Nat.zero_le _, fun k hk => by omega, H3⟩
          case round =>
            obtain ⟨j, rfl, hj, hn, H4⟩ := hrel
            clear H3
            have z0 := H4.out.c0
            have z1 := H4.out.c1
            by_cases hjr : j < r
            · obtain ⟨s, hs⟩ : ∃ s, s = q + j := ⟨_, rfl⟩
              have hws : IntKind.i64.wrap ((q : Int) + (j : Int)) = (s : Int) := (i64_in (by omega) (by omega)).trans (by omega)
              have hsl : s < t.size := by omega
              have i2 : (0 : Int) ≤ (s : Int) := by omega
              have i3 : (s : Int) < (t.size : Int) := by omega
              have hcs := cb_at hsl
              have hd : decide ((j : Int) < (r : Int)) = true := by simp; omega
              have HS := Lib.hid hs
              clear hs
              cases h45 : (cb t s == 45)
              · go_wp2
                go_quiet (fail)
                have H5 := Lib.hid (H4.out.mv (drewN_below (Below.refl _ _) nq))
                generalize World.drewN _ nq = w5 at *
                clear z0 z1
                have NBq : NB t q := ⟨HSP.out, h2, by
                  rw [HR.out, runL_is (fun c => c == 45) t j q hn (by omega) (fun _ => by rw [← HS.out]; exact h45)]
                  rintro ⟨_, h⟩
                  omega⟩
                have HNB := Lib.hid NBq
                have jr : ((j : Int) == (r : Int)) = false := by simp; omega
                have jr' : ((j : Int) != (r : Int)) = true := by simp; omega
                clear NBq
                by_cases hj2 : (j : Int) < 2
                · go_wp2
                  go_ret
                  exact .inl ⟨rfl, q, haq, ⟨p, v, ts, H5.out, HT.out⟩, fun _ => HNB.out⟩
                · go_wp2
                  go_ret
                  exact .inl ⟨rfl, q, haq, ⟨p, v, ts, H5.out, HT.out⟩, fun _ => HNB.out⟩
              · go_wp2
                go_quiet (fail)
                have H5 := Lib.hid (H4.out.mv (drewN_below (Below.refl _ _) nq))
                generalize World.drewN _ nq = w5 at *
                clear z0 z1
                go_wp2
                go_roundw
                case rel => exact ⟨j + 1, by go_num, by omega, fun k hk => by
                  rcases Nat.lt_succ_iff_lt_or_eq.1 hk with hk | rfl
                  · exact hn k hk
                  · rw [← HS.out]; exact h45, H5⟩
                case measure => simp [intOf]; omega
            · obtain rfl : j = r := by omega
              have hd : decide ((j : Int) < (j : Int)) = false := by simp
              have HD : runL (fun c => c == 45) t q = j := runL_is (fun c => c == 45) t j q hn (by omega) (fun hlt2 => by
                have h9 := runL_end isSym t q (by rw [HR.out]; exact hlt2)
                rw [HR.out] at h9
                cases h8 : (cb t (q + j) == 45)
                · rfl
                · rw [show cb t (q + j) = 45 by simpa using h8] at h9
                  exact absurd h9 (by decide))
              have HDD := Lib.hid HD
              clear HD hn
              go_wp2
              go_quiet (fail)
              have H5 := Lib.hid (H4.out.mv (drewN_below (Below.refl _ _) nq))
              generalize World.drewN _ nq = w5 at *
              clear z0 z1 H4
              by_cases hj2 : (j : Int) < 2
              · have NBq : NB t q := ⟨HSP.out, h2, by rw [HR.out]; rintro ⟨h, _⟩; omega⟩
                have HNB := Lib.hid NBq
                clear NBq
                go_wp2
                go_ret
                exact .inl ⟨rfl, q, haq, ⟨p, v, ts, H5.out, HT.out⟩, fun _ => HNB.out⟩
              · have hst0 := step_dash HSP.out h2 (by rw [HR.out, HDD.out]; exact ⟨by omega, rfl⟩)
                have HST := Lib.hid hst0
                clear hst0
                go_wp2
                go_loopw [7] (fun d wi => ∃ n : Nat, d = .int .i64 n ∧ q + n ≤ t.size ∧ (∀ k, k < n → (fun c => !(c == 10)) (cb t (q + k)) = true) ∧ Hid (Lx W0 t q p (0, 0, 0) v ts wi)) (fun d _ => t.size - (intOf d).toNat)
                case atStart => exact ⟨0, rfl, by omega, fun k hk => by omega, H5⟩
                case round =>
                  obtain ⟨n, rfl, hn, hall, H6⟩ := hrel
                  clear H5
                  have z0 := H6.out.c0
                  have z1 := H6.out.c1
                  obtain ⟨s, hs⟩ : ∃ s, s = q + n := ⟨_, rfl⟩
                  have hws : IntKind.i64.wrap ((q : Int) + (n : Int)) = (s : Int) := (i64_in (by omega) (by omega)).trans (by omega)
                  have HS := Lib.hid hs
                  by_cases hsl : s < t.size
                  · have i2 : (0 : Int) ≤ (s : Int) := by omega
                    have i3 : (s : Int) < (t.size : Int) := by omega
                    have hcs := cb_at hsl
                    have hd2 : decide ((s : Int) < (t.size : Int)) = true := by simp; omega
                    clear hs
                    by_cases h10 : cb t s = 10
                    · have e1 : (cb t s == 10) = true := by simp [h10]
                      have e2 : (cb t s != 10) = false := by simp [h10]
                      have hrn := runL_is (fun c => !(c == 10)) t n q hall hn (fun _ => by rw [← HS.out]; simp [h10])
                      have hst := HST.out
                      rw [hrn] at hst
                      have SK := HT.out.skip hst hlt
                      clear h10
                      go_wp2
                      go_quiet (fail)
                      have H2 := Lib.hid (H6.out.mv (drewN_below (Below.refl _ _) nq))
                      generalize World.drewN _ nq = w6 at *
                      clear z0 z1 H6
                      go_wp2_with fail
                      refine (specSkip W0 t ht q n p (0, 0, 0) v ts _ H2.out (by have := SK.2.1; omega) HT.out.l0 (by have := HT.out.l1; omega) HT.out.c0 (by have := HT.out.c1; omega)).mono ?_
                      rintro z w3 ⟨rfl, h3⟩
                      have M3 := Lib.hid h3.atOf
                      have H3 := Lib.hid h3
                      clear h3
                      go_wp2
                      go_roundw
                      case rel => exact ⟨q + n, by omega, Lib.hid ⟨_, v, ts, H3.out, SK.2.2⟩⟩
                      case measure => rw [M3.out, M.out]; have := SK.1; omega
                    · have e1 : (cb t s == 10) = false := by simpa using h10
                      have e2 : (cb t s != 10) = true := by simpa using h10
                      clear h10
                      go_wp2
                      go_quiet (fail)
                      have H5 := Lib.hid (H6.out.mv (drewN_below (Below.refl _ _) nq))
                      generalize World.drewN _ nq = w6 at *
                      clear z0 z1 H6
                      go_wp2
                      go_roundw
                      case rel => exact ⟨n + 1, by go_num, by have := HS.out; omega, fun k hk => by
                        rcases Nat.lt_succ_iff_lt_or_eq.1 hk with hk | rfl
                        · exact hall k hk
                        · rw [← HS.out]; simp [e1], H5⟩
                      case measure => have := HS.out; simp [intOf]; omega
                  · have hd2 : decide ((s : Int) < (t.size : Int)) = false := by simp; omega
                    have hrn := runL_is (fun c => !(c == 10)) t n q hall hn (fun h => absurd h (by omega))
                    have hst := HST.out
                    rw [hrn] at hst
                    have SK := HT.out.skip hst hlt
                    clear hs
                    go_wp2
                    go_quiet (fail)
                    have H2 := Lib.hid (H6.out.mv (drewN_below (Below.refl _ _) nq))
                    generalize World.drewN _ nq = w6 at *
                    clear z0 z1 H6
                    go_wp2_with fail
                    refine (specSkip W0 t ht q n p (0, 0, 0) v ts _ H2.out (by have := SK.2.1; omega) HT.out.l0 (by have := HT.out.l1; omega) HT.out.c0 (by have := HT.out.c1; omega)).mono ?_
                    rintro z w3 ⟨rfl, h3⟩
                    have M3 := Lib.hid h3.atOf
                    have H3 := Lib.hid h3
                    clear h3
                    go_wp2
                    go_roundw
                    case rel => exact ⟨q + n, by omega, Lib.hid ⟨_, v, ts, H3.out, SK.2.2⟩⟩
                    case measure => rw [M3.out, M.out]; have := SK.1; omega
        · have h2' : two t q ((123 : UInt8).toNat : Int) ((45 : UInt8).toNat : Int) = true := h2
          rw [h2']
          cases hne : nestL t q 0 with
          | none =>
            have hR := HT.out.bad (step_bad2 HSP.out h2 hne) hlt
            have CN := Lib.hid (specNest0 t ht W0.heap.size q (by omega) _ z0 z1 hne)
            go_wp2_with fail
            refine CN.out.mono ?_
            clear CN
            rintro e w' ⟨rfl, hw⟩
            obtain rfl := hw.symm
            go_wp2_with fail
            refine (specFail W0 t q p (0, 0, 0) v ts 2 _ H2.out).mono ?_
            rintro z w3 ⟨rfl, h3⟩
            have H3 := Lib.hid h3
            have HR := Lib.hid hR
            clear h3 hR
            go_wp2
            go_ret
            refine .inr ⟨rfl, q, p, .slice none 0 0, ?_⟩
            rw [HR.out]
            exact H3.out
          | some e =>
            obtain ⟨n, hn⟩ : ∃ n, n = e - q := ⟨_, rfl⟩
            have hge := nestL_ge _ _ _ _ hne
            have hst := step_nest HSP.out h2 hne
            rw [← hn] at hst
            have CN := Lib.hid (specNest1 t ht W0.heap.size q (by omega) _ z0 z1 hne hn (by omega))
            have hn0 : ¬ (n : Int) < 0 := by omega
            clear hn hge hne
            go_wp2_with fail
            refine CN.out.mono ?_
            clear CN
            rintro e w' ⟨rfl, hw⟩
            obtain rfl := hw.symm
            clear z0 z1
            have SK := HT.out.skip hst hlt
            go_wp2_with fail
            refine (specSkip W0 t ht q n p (0, 0, 0) v ts _ H2.out (by have := SK.2.1; omega) HT.out.l0 (by have := HT.out.l1; omega) HT.out.c0 (by have := HT.out.c1; omega)).mono ?_
            rintro z w3 ⟨rfl, h3⟩
            have M3 := Lib.hid h3.atOf
            have H3 := Lib.hid h3
            clear h3
            go_wp2
            go_roundw
            case rel => exact ⟨q + n, by omega, Lib.hid ⟨_, v, ts, H3.out, SK.2.2⟩⟩
            case measure => rw [M3.out, M.out]; have := SK.1; omega
    · clear hx htl
      go_wp2
      go_quiet (fail)
      have H1 := Lib.hid (HX.out.mv (drewN_below (Below.refl _ _) nq))
      generalize wr.drewN nq = w1 at *
      go_wp2
      go_ret
      exact .inl ⟨rfl, q, haq, ⟨p, v, ts, H1.out, HT.out⟩, fun h => absurd h hlt⟩

end Go.Proofs.YtifmnijdaboenaaDoor
