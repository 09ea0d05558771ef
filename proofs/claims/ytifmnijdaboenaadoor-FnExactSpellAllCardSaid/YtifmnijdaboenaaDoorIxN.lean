/- The program's lexer: one step; no condition. -/
import Derived.Test.YtifmnijdaboenaaDoorIxD
import Derived.Test.YtifmnijdaboenaaDoorIxQ
import Derived.Test.YtifmnijdaboenaaDoorIxV
import Derived.Shelf.Strings.Trim
import Derived.Deep.RegionHeld3
namespace Go.Proofs.YtifmnijdaboenaaDoor
open Go Go.RowKit
set_option linter.unusedVariables false
set_option linter.unusedSimpArgs false

theorem two_peek {t : ByteArray} {a : Nat} (h : a < t.size) : two t a 123 45 = ((cb t a == 123) && (cb t (a + 1) == 45)) := by
  unfold two
  by_cases h1 : a + 2 ≤ t.size
  · simp [h1]
  · rw [cb_out (t := t) (i := a + 1) (by omega)]
    simp [h1]
theorem sym_not {c : Int} (h : isLt c = true ∨ c = 95 ∨ isDig c = true ∨ c = 39 ∨ c = 34 ∨ c = 123) : isSym c = false := by
  simp [isLt, isDig] at h
  simp [isSym, inL, symL]
  omega
theorem nb_of {t : ByteArray} {a : Nat} (h1 : ¬ (cb t a = 32 ∨ cb t a = 10)) (h2 : two t a 123 45 = false) (h3 : isSym (cb t a) = false) : NB t a := ⟨h1, h2, by rw [runL_zero h3]; rintro ⟨h, _⟩; omega⟩
theorem mark_word {x : ByteArray} (h : isMark x = true) : isWord x = false := by
  have key : ∀ l ∈ marksL, wordsL.contains l = false := by decide
  exact key _ (List.contains_iff_mem.1 h)
theorem dropW_nil {l : List UInt8} {c : UInt8} : l.dropWhile (· == c) = [] ↔ ∀ b ∈ l, b = c := by
  induction l with
  | nil => simp
  | cons x l ih =>
    rw [List.dropWhile_cons]
    by_cases hx : x = c
    · subst hx
      simp [ih]
    · rw [if_neg (by simpa using hx)]
      simp [hx]
theorem trim_nil (l : List UInt8) (c : UInt8) : Lib.trimB l c = [] ↔ ∀ b ∈ l, b = c := by
  unfold Lib.trimB Lib.trimLeftB Lib.trimRightB
  rw [dropW_nil]
  constructor
  · intro h
    by_cases hn : l.reverse.dropWhile (· == c) = []
    · intro b hb
      exact dropW_nil.1 hn b (by simpa using hb)
    · have hl := List.getLast?_eq_some_getLast hn
      exfalso
      have h1 : (l.reverse.dropWhile (· == c)).head hn ≠ c := by
        have := List.head_dropWhile_not (p := (· == c)) (l := l.reverse) hn
        simpa using this
      exact h1 (h _ (by simp))
  · intro h b hb
    refine h b ?_
    have : b ∈ l.reverse.dropWhile (· == c) := by simpa using hb
    have := (List.dropWhile_sublist _).subset this
    simpa using this
theorem ext_mem (t : ByteArray) (a n : Nat) (h : a + n ≤ t.size) : (∀ b ∈ (t.extract a (a + n)).data.toList, b = 45) ↔ ∀ k, k < n → cb t (a + k) = 45 := by
  have hs : (t.extract a (a + n)).size = n := by rw [ByteArray.size_extract]; omega
  constructor
  · intro hb k hk
    have h1 : k < (t.extract a (a + n)).size := by omega
    have h2 := hb ((t.extract a (a + n))[k]'h1) (List.mem_of_getElem? (i := k) (List.getElem?_eq_some_iff.2 ⟨h1, Array.getElem_toList (xs := (t.extract a (a + n)).data) (i := k) h1⟩))
    rw [← sub_cb t a (a + n) k h (by omega), ← cb_at h1, h2]
    rfl
  · intro hk b hb
    obtain ⟨k, hk1⟩ := List.getElem?_of_mem hb
    have h1 := cb_get hk1
    have h2 := hk k (by omega)
    rw [← sub_cb t a (a + n) k h (by omega), h1.2.1] at h2
    exact UInt8.toNat_inj.1 (by show b.toNat = 45; omega)
/-- A run of symbols is of dashes alone. -/
theorem trim_dash (t : ByteArray) (a n : Nat) (hn : runL isSym t a = n) (h : a + n ≤ t.size) : Lib.trimB (t.extract a (a + n)).data.toList 45 = [] ↔ runL (fun c => c == 45) t a = n := by
  rw [trim_nil, ext_mem t a n h]
  constructor
  · intro hk
    refine runL_is _ t n a (fun k hk' => by simp [hk k hk']) h (fun hlt => ?_)
    have h1 := runL_end isSym t a (by rw [hn]; exact hlt)
    rw [hn] at h1
    cases h2 : (cb t (a + n) == 45)
    · rfl
    · rw [show cb t (a + n) = 45 by simpa using h2] at h1
      exact absurd h1 (by decide)
  · intro hr k hk
    have := runL_all (fun c => c == 45) t a k (by rw [hr]; exact hk)
    simpa using this

/-- The program's reading stands at a. -/
def MidI (W0 : World) (t : ByteArray) (R : LexR) (mb a : Nat) (w : World) : Prop := ∃ p v ts, Ix W0 t a p (.map (some mb)) v ts w ∧ Tl t R a p ts
/-- The words' map lies before the scanner. -/
def MapI (W0 : World) (mb : Nat) : Prop := ∃ es, HasMap keyS mb es W0 ∧ WK es
def NextR (W0 : World) (t : ByteArray) (R : LexR) (mb a : Nat) (x : Ending) (w' : World) : Prop :=
  (x = .returned (.int .i64 0) ∧ ∃ a', a < a' ∧ MidI W0 t R mb a' w') ∨ (∃ c, c ≠ 0 ∧ x = .returned (.int .i64 c) ∧ ∃ p v ts, Ix W0 t a p (.map (some mb)) v ts w' ∧ R = ⟨c, p.1, p.2, []⟩)
theorem trimDash (x : ByteArray) (hx : x.size ≤ 1048576) (w : World) : Calls Tryd.prog 61 #[.string x, .string ⟨#[45]⟩] w fun e w' => e = .returned (.string ⟨(Lib.trimB x.data.toList 45).toArray⟩) ∧ Below w.heap.size w w' :=
  (Any.strings_Trim_one shlLays_n160 x 45 (by decide) w (by omega)).mono fun e w' ⟨he, hw⟩ => ⟨he, by rcases hw with rfl | rfl; (· exact Below.refl _ _); exact (Below.refl _ _).drew⟩

set_option maxRecDepth 100000 in
set_option maxHeartbeats 16000000 in
theorem implNext (W0 : World) (t : ByteArray) (ht : t.size ≤ 1048576) (R : LexR) (mb q : Nat) (w : World) (h : MidI W0 t R mb q w) (hmap : MapI W0 mb) (hlt : q < t.size) :
    Calls Tryd.prog 26 #[.pointer (some ⟨W0.heap.size, 0, none⟩)] w fun x w' => NextR W0 t R mb q x w' := by
  obtain ⟨p, v, ts, hx, htl⟩ := h
  obtain ⟨es, hm0, hwk⟩ := hmap
  have HM0 := Lib.hid hm0
  have HWK := Lib.hid hwk
  have HX := Lib.hid hx
  have HT := Lib.hid htl
  have z0 := hx.c0
  have z1 := hx.c1
  have i0 : (0 : Int) ≤ (q : Int) := by omega
  have i1 : (q : Int) < (t.size : Int) := by omega
  have hc := cb_at hlt
  clear hx htl hm0 hwk
  go_enter Tryd.func26, Tryd.ntmps26
  go_wp2
  go_quiet (fail)
  have H1 := Lib.hid (HX.out.mv (drewN_below (Below.refl _ _) nq))
  generalize w.drewN nq = w1 at *
  clear z0 z1 HX
  have z0 := H1.out.c0
  have z1 := H1.out.c1
  by_cases hsp : cb t q = 32 ∨ cb t q = 10
  · have SK := HT.out.skip (step_sp hsp) hlt
    rcases (show cb t q = 32 ∨ (¬ cb t q = 32 ∧ cb t q = 10) by omega) with h32 | ⟨h32, h10⟩
    · have e32 : (cb t q == 32) = true := by simp [h32]
      clear hsp h32 z0 z1
      go_wp2_with fail
      refine (implStep W0 t ht q 1 p (.map (some mb)) v ts _ H1.out (by have := SK.2.1; omega) HT.out.l0 (by have := HT.out.l1; omega) HT.out.c0 (by have := HT.out.c1; omega)).mono ?_
      rintro z w9 ⟨rfl, h9⟩
      have H9 := Lib.hid h9
      clear h9
      go_wp2
      go_ret
      exact .inl ⟨rfl, q + 1, by have := SK.1; omega, _, v, ts, H9.out, SK.2.2⟩
    · have e32 : (cb t q == 32) = false := by simpa using h32
      have e10 : (cb t q == 10) = true := by simp [h10]
      clear hsp h32 h10 z0 z1
      go_wp2_with fail
      refine (implStep W0 t ht q 1 p (.map (some mb)) v ts _ H1.out (by have := SK.2.1; omega) HT.out.l0 (by have := HT.out.l1; omega) HT.out.c0 (by have := HT.out.c1; omega)).mono ?_
      rintro z w9 ⟨rfl, h9⟩
      have H9 := Lib.hid h9
      clear h9
      go_wp2
      go_ret
      exact .inl ⟨rfl, q + 1, by have := SK.1; omega, _, v, ts, H9.out, SK.2.2⟩
  · have HSP := Lib.hid hsp
    have e32 : (cb t q == 32) = false := by simp; omega
    have e10 : (cb t q == 10) = false := by simp; omega
    clear hsp
    by_cases h123 : cb t q = 123
    · have e123 : (cb t q == 123) = true := by simp [h123]
      have hp := two_peek hlt
      rw [e123] at hp
      have HP2 := Lib.hid hp
      clear hp
      have CP := Lib.hid (implPeek W0 t ht q (by omega) p (.map (some mb)) v ts w1 H1.out)
      go_wp2_with fail
      refine CP.out.mono ?_
      clear CP
      rintro e w2 ⟨rfl, nn, hw2⟩
      have H2 := Lib.hid (show Ix W0 t q p (.map (some mb)) v ts w2 by rw [hw2]; exact H1.out.mv (drewN_below (Below.refl _ _) nn))
      clear hw2 z0 z1 H1
      have z0 := H2.out.c0
      have z1 := H2.out.c1
      cases hpk : (cb t (q + 1) == 45)
      · have h2 : two t q 123 45 = false := by rw [HP2.out, hpk]; rfl
        have hNB := nb_of HSP.out h2 (sym_not (by omega))
        have hst := step_spc hNB (by rw [h123]; rfl) (by rw [h123]; rfl) (by rw [h123]; rfl) (by omega) (by rw [h123]; decide)
        have l1 : isLt (cb t q) = false := by rw [h123]; rfl
        have l2 : (cb t q == 95) = false := by rw [h123]; rfl
        have l3 : isDig (cb t q) = false := by rw [h123]; rfl
        have l4 : (cb t q == 39) = false := by rw [h123]; rfl
        have l5 : (cb t q == 34) = false := by rw [h123]; rfl
        have l6 : isSym (cb t q) = false := by rw [h123]; decide
        have l7 : isSpc (cb t q) = true := by rw [h123]; decide
        clear h123 hNB z0 z1
        rw [l7, ext_one t q hlt] at hst
        have SK := HT.out.tok hst hlt
        have HG := grow_made1 w2 (t[q]'hlt)
        rw [cb_at hlt] at HG
        have H3 := Lib.hid (H2.out.mv (below_alloc1 w2 (.cells #[.int .u8 (cb t q)] 5)))
        have cv := run_conv HG (Below.refl _ _)
        clear hst HG
        go_wp2_with (first | (go_at_call 52; refine (implLetter _ _).mono ?_; rintro e w5 ⟨rfl, hw⟩; obtain rfl := hw.symm) | (go_at_call 57; refine (implDigit _ _).mono ?_; rintro e w5 ⟨rfl, hw⟩; obtain rfl := hw.symm) | (go_at_call 60; refine (implSymbol _ (cb_lo t q) (cb_hi t q) _).mono ?_; rintro e w5 ⟨rfl, hw⟩; obtain rfl := hw.symm) | (go_at_call 63; refine (implSpecial _ (cb_lo t q) (cb_hi t q) _).mono ?_; rintro e w5 ⟨rfl, hw⟩; obtain rfl := hw.symm))
        refine (implPut W0 t ht q 1 p (.map (some mb)) v ts 10 ⟨#[t[q]]⟩ _ H3.out (by have := SK.2.1; omega) HT.out.len HT.out.l0 (by have := HT.out.l1; omega) HT.out.c0 (by have := HT.out.c1; omega)).mono ?_
        rintro z w9 ⟨rfl, v9, h9⟩
        have H9 := Lib.hid h9
        clear h9
        go_wp2
        go_ret
        exact .inl ⟨rfl, q + 1, by have := SK.1; omega, _, v9, _, H9.out, SK.2.2⟩
      · have h2 : two t q 123 45 = true := by rw [HP2.out, hpk]; rfl
        have CC := Lib.hid (implComment t ht W0.heap.size q (by omega) w2 z0 z1)
        cases hne : nestL t q 0 with
        | none =>
          have HR := Lib.hid (HT.out.bad (step_bad2 HSP.out h2 hne) hlt)
          have CC := Lib.hid (show Calls Tryd.prog 51 #[.pointer (some ⟨W0.heap.size, 0, none⟩)] w2 fun e w' => e = .returned (.int .i64 0) ∧ w' = w2 by have := CC.out; rwa [show nestC t q = 0 by unfold nestC; rw [hne]] at this)
          clear hne z0 z1
          go_wp2_with fail
          refine CC.out.mono ?_
          clear CC
          rintro e w5 ⟨rfl, hw⟩
          obtain rfl := hw.symm
          go_wp2
          go_ret
          exact .inr ⟨2, by decide, rfl, p, v, ts, H2.out, HR.out⟩
        | some ee =>
          have hge := nestL_ge _ _ _ _ hne
          have hst := step_nest HSP.out h2 hne
          obtain ⟨n, hn⟩ : ∃ n, ee - q = n := ⟨_, rfl⟩
          rw [hn] at hst
          have CC := Lib.hid (show Calls Tryd.prog 51 #[.pointer (some ⟨W0.heap.size, 0, none⟩)] w2 fun e w' => e = .returned (.int .i64 (n : Int)) ∧ w' = w2 by have := CC.out; rwa [show nestC t q = (n : Int) by unfold nestC; rw [hne]; show (ee : Int) - q = n; omega] at this)
          have SK := HT.out.skip hst hlt
          have n0 : ((n : Int) == 0) = false := by have := SK.1; simp; omega
          clear hne hge hn hst z0 z1
          go_wp2_with fail
          refine CC.out.mono ?_
          clear CC
          rintro e w5 ⟨rfl, hw⟩
          obtain rfl := hw.symm
          go_wp2_with fail
          refine (implStep W0 t ht q n p (.map (some mb)) v ts _ H2.out (by have := SK.2.1; omega) HT.out.l0 (by have := HT.out.l1; omega) HT.out.c0 (by have := HT.out.c1; omega)).mono ?_
          rintro z w9 ⟨rfl, h9⟩
          have H9 := Lib.hid h9
          clear h9
          go_wp2
          go_ret
          exact .inl ⟨rfl, q + n, by have := SK.1; omega, _, v, ts, H9.out, SK.2.2⟩
    · have e123 : (cb t q == 123) = false := by simpa using h123
      have h2 : two t q 123 45 = false := by rw [two_peek hlt, e123]; rfl
      have hsl0 := fun n (hn : q + n ≤ t.size) W => run_sl t q n hn W
      clear h123
      cases hL : (isLt (cb t q) || (cb t q == 95))
      · skip
        have l1 : isLt (cb t q) = false := by revert hL; cases isLt (cb t q) <;> simp
        have l2 : (cb t q == 95) = false := by revert hL; cases (cb t q == 95) <;> simp
        have sc : (isSm (cb t q) || isCap (cb t q)) = false := by rw [isLt_eq]; exact hL
        have hS : isSm (cb t q) = false := by revert sc; cases isSm (cb t q) <;> simp
        have hC : isCap (cb t q) = false := by revert sc; cases isCap (cb t q) <;> simp
        clear hL sc
        cases hD : isDig (cb t q)
        · by_cases hq2 : cb t q = 39 ∨ cb t q = 34
          · have hNB := nb_of HSP.out h2 (sym_not (by omega))
            have hst := step_quo hNB hS hC hD hq2
            have HST := Lib.hid hst
            have CQ := Lib.hid (implQuoted t ht W0.heap.size q hlt (cb t q) (by omega) w1 z0 z1)
            have HQ2 := Lib.hid hq2
            clear hNB hst hsl0 z0 z1
            rcases (show cb t q = 39 ∨ (¬ cb t q = 39 ∧ cb t q = 34) by omega) with h39 | ⟨h39, h34⟩
            · skip
              have e39 : (cb t q == 39) = true := by simp [h39]
              have e34 : (cb t q == 34) = false := by rw [h39]; rfl
              have H39 := Lib.hid h39
              clear hq2 h39
              go_wp2_with (first | (go_at_call 52; refine (implLetter _ _).mono ?_; rintro e w5 ⟨rfl, hw⟩; obtain rfl := hw.symm) | (go_at_call 57; refine (implDigit _ _).mono ?_; rintro e w5 ⟨rfl, hw⟩; obtain rfl := hw.symm))
              refine CQ.out.mono ?_
              clear CQ
              rintro e w2 ⟨s9, n9, ok9, rfl, hqr, hbw⟩
              have H2 := Lib.hid (H1.out.mv hbw)
              have HQR := Lib.hid hqr
              clear hbw hqr
              cases hok : ok9
              · have HR := Lib.hid (show R = ⟨4, p.1, p.2, []⟩ by
                    refine HT.out.bad (HST.out.trans ?_) hlt
                    rcases HQR.out with ⟨h, _⟩ | ⟨_, h | ⟨y, ee, h, h5, h6⟩⟩
                    · rw [hok] at h; cases h
                    · rw [h]
                    · rw [h]; exact if_pos ⟨h5, h6⟩)
                go_wp2
                go_ret
                exact .inr ⟨4, by decide, rfl, p, v, ts, H2.out, HR.out⟩
              · obtain ⟨y, ee, h5, rfl, h6, h7⟩ : ∃ y ee, quoL t (cb t q) (q + 1) = some (y, ee) ∧ s9 = ⟨y.toArray⟩ ∧ n9 = (ee : Int) + 1 - q ∧ (cb t q = 39 → y.length = 1) := by
                    rcases HQR.out with ⟨_, h⟩ | ⟨h, _⟩
                    · exact h
                    · rw [hok] at h; cases h
                have hge := quoL_ge _ _ _ _ _ h5
                have hst := HST.out
                rw [h5] at hst
                obtain ⟨n, hn⟩ : ∃ n, ee + 1 - q = n := ⟨_, rfl⟩
                have hst : stepL t q = .tok 6 ⟨y.toArray⟩ n := by rw [← hn]; exact hst.trans (by show (if _ then _ else _) = _; rw [if_neg (by intro h; exact h.2 (h7 H39.out))]; rw [if_pos H39.out])
                have SK := HT.out.tok hst hlt
                obtain rfl : n9 = (n : Int) := by omega
                clear h5 h6 h7 hge hst hn hok HQR
                obtain ⟨x, hx⟩ : ∃ x, (⟨y.toArray⟩ : ByteArray) = x := ⟨_, rfl⟩
                rw [hx] at SK ⊢
                clear hx
                go_wp2_with fail
                refine (implPut W0 t ht q n p (.map (some mb)) v ts 6 x _ H2.out (by have := SK.2.1; omega) HT.out.len HT.out.l0 (by have := HT.out.l1; omega) HT.out.c0 (by have := HT.out.c1; omega)).mono ?_
                rintro z w9 ⟨rfl, v9, h9⟩
                have H9 := Lib.hid h9
                clear h9
                go_wp2
                go_ret
                exact .inl ⟨rfl, q + n, by have := SK.1; omega, _, v9, _, H9.out, SK.2.2⟩
            · skip
              have e39 : (cb t q == 39) = false := by simpa using h39
              have e34 : (cb t q == 34) = true := by simp [h34]
              have H39 := Lib.hid h39
              clear hq2 h39 h34
              go_wp2_with (first | (go_at_call 52; refine (implLetter _ _).mono ?_; rintro e w5 ⟨rfl, hw⟩; obtain rfl := hw.symm) | (go_at_call 57; refine (implDigit _ _).mono ?_; rintro e w5 ⟨rfl, hw⟩; obtain rfl := hw.symm))
              refine CQ.out.mono ?_
              clear CQ
              rintro e w2 ⟨s9, n9, ok9, rfl, hqr, hbw⟩
              have H2 := Lib.hid (H1.out.mv hbw)
              have HQR := Lib.hid hqr
              clear hbw hqr
              cases hok : ok9
              · have HR := Lib.hid (show R = ⟨4, p.1, p.2, []⟩ by
                    refine HT.out.bad (HST.out.trans ?_) hlt
                    rcases HQR.out with ⟨h, _⟩ | ⟨_, h | ⟨y, ee, h, h5, h6⟩⟩
                    · rw [hok] at h; cases h
                    · rw [h]
                    · rw [h]; exact if_pos ⟨h5, h6⟩)
                go_wp2
                go_ret
                exact .inr ⟨4, by decide, rfl, p, v, ts, H2.out, HR.out⟩
              · obtain ⟨y, ee, h5, rfl, h6, h7⟩ : ∃ y ee, quoL t (cb t q) (q + 1) = some (y, ee) ∧ s9 = ⟨y.toArray⟩ ∧ n9 = (ee : Int) + 1 - q ∧ (cb t q = 39 → y.length = 1) := by
                    rcases HQR.out with ⟨_, h⟩ | ⟨h, _⟩
                    · exact h
                    · rw [hok] at h; cases h
                have hge := quoL_ge _ _ _ _ _ h5
                have hst := HST.out
                rw [h5] at hst
                obtain ⟨n, hn⟩ : ∃ n, ee + 1 - q = n := ⟨_, rfl⟩
                have hst : stepL t q = .tok 7 ⟨y.toArray⟩ n := by rw [← hn]; exact hst.trans (by show (if _ then _ else _) = _; rw [if_neg (by intro h; exact H39.out h.1)]; rw [if_neg H39.out])
                have SK := HT.out.tok hst hlt
                obtain rfl : n9 = (n : Int) := by omega
                clear h5 h6 h7 hge hst hn hok HQR
                obtain ⟨x, hx⟩ : ∃ x, (⟨y.toArray⟩ : ByteArray) = x := ⟨_, rfl⟩
                rw [hx] at SK ⊢
                clear hx
                go_wp2_with fail
                refine (implPut W0 t ht q n p (.map (some mb)) v ts 7 x _ H2.out (by have := SK.2.1; omega) HT.out.len HT.out.l0 (by have := HT.out.l1; omega) HT.out.c0 (by have := HT.out.c1; omega)).mono ?_
                rintro z w9 ⟨rfl, v9, h9⟩
                have H9 := Lib.hid h9
                clear h9
                go_wp2
                go_ret
                exact .inl ⟨rfl, q + n, by have := SK.1; omega, _, v9, _, H9.out, SK.2.2⟩
          · have e39 : (cb t q == 39) = false := by simp; omega
            have e34 : (cb t q == 34) = false := by simp; omega
            cases hY : isSym (cb t q)
            · have hNB := nb_of HSP.out h2 hY
              have hst := step_spc hNB hS hC hD hq2 hY
              clear hq2 hNB z0 z1 hsl0
              cases l7 : isSpc (cb t q)
              · rw [l7] at hst
                have HR := Lib.hid (HT.out.bad hst hlt)
                clear hst
                go_wp2_with (first | (go_at_call 52; refine (implLetter _ _).mono ?_; rintro e w5 ⟨rfl, hw⟩; obtain rfl := hw.symm) | (go_at_call 57; refine (implDigit _ _).mono ?_; rintro e w5 ⟨rfl, hw⟩; obtain rfl := hw.symm) | (go_at_call 60; refine (implSymbol _ (cb_lo t q) (cb_hi t q) _).mono ?_; rintro e w5 ⟨rfl, hw⟩; obtain rfl := hw.symm) | (go_at_call 63; refine (implSpecial _ (cb_lo t q) (cb_hi t q) _).mono ?_; rintro e w5 ⟨rfl, hw⟩; obtain rfl := hw.symm))
                go_ret
                exact .inr ⟨1, by decide, rfl, p, v, ts, H1.out, HR.out⟩
              · skip
                rw [l7, ext_one t q hlt] at hst
                have SK := HT.out.tok hst hlt
                have HG := grow_made1 w1 (t[q]'hlt)
                rw [cb_at hlt] at HG
                have H3 := Lib.hid (H1.out.mv (below_alloc1 w1 (.cells #[.int .u8 (cb t q)] 5)))
                have cv := run_conv HG (Below.refl _ _)
                clear hst HG
                go_wp2_with (first | (go_at_call 52; refine (implLetter _ _).mono ?_; rintro e w5 ⟨rfl, hw⟩; obtain rfl := hw.symm) | (go_at_call 57; refine (implDigit _ _).mono ?_; rintro e w5 ⟨rfl, hw⟩; obtain rfl := hw.symm) | (go_at_call 60; refine (implSymbol _ (cb_lo t q) (cb_hi t q) _).mono ?_; rintro e w5 ⟨rfl, hw⟩; obtain rfl := hw.symm) | (go_at_call 63; refine (implSpecial _ (cb_lo t q) (cb_hi t q) _).mono ?_; rintro e w5 ⟨rfl, hw⟩; obtain rfl := hw.symm))
                refine (implPut W0 t ht q 1 p (.map (some mb)) v ts 10 ⟨#[t[q]]⟩ _ H3.out (by have := SK.2.1; omega) HT.out.len HT.out.l0 (by have := HT.out.l1; omega) HT.out.c0 (by have := HT.out.c1; omega)).mono ?_
                rintro z w9 ⟨rfl, v9, h9⟩
                have H9 := Lib.hid h9
                clear h9
                go_wp2
                go_ret
                exact .inl ⟨rfl, q + 1, by have := SK.1; omega, _, v9, _, H9.out, SK.2.2⟩
            · have HQ2 := Lib.hid hq2
              clear hq2
              obtain ⟨n, hn⟩ : ∃ n, runL isSym t q = n := ⟨_, rfl⟩
              have hnl := runL_le isSym t q (by omega)
              rw [hn] at hnl
              obtain ⟨s, hs⟩ : ∃ s, q + n = s := ⟨_, rfl⟩
              have hwn : IntKind.i64.wrap ((q : Int) + (n : Int)) = (s : Int) := (i64_in (by omega) (by omega)).trans (by omega)
              have hsl := fun W => run_sl t q n hnl W
              rw [hs] at hsl
              obtain ⟨x, hx⟩ : ∃ x, t.extract q s = x := ⟨_, rfl⟩
              rw [hx] at hsl
              have hxn : x.size = n := by rw [← hx, ByteArray.size_extract]; omega
              have CR : ∀ k, Hid (Calls Tryd.prog 53 #[.pointer (some ⟨W0.heap.size, 0, none⟩), .func (.func 60) #[] #[]] (w1.drewN k) fun e w' => e = .returned (.int .i64 n) ∧ ∃ m, w' = (w1.drewN k).drewN m) := fun k => by
                have := implRunSym t ht W0.heap.size q (by omega) (w1.drewN k) (by simpa using z0) (by simpa using z1)
                rw [hn] at this
                exact Lib.hid this
              have HS := Lib.hid hs
              have HXE := Lib.hid hx
              have HN := Lib.hid hn
              have HXN := Lib.hid hxn
              clear hs hx hn hxn hsl0
              go_wp2_with (first | (go_at_call 52; refine (implLetter _ _).mono ?_; rintro e w5 ⟨rfl, hw⟩; obtain rfl := hw.symm) | (go_at_call 57; refine (implDigit _ _).mono ?_; rintro e w5 ⟨rfl, hw⟩; obtain rfl := hw.symm) | (go_at_call 60; refine (implSymbol _ (cb_lo t q) (cb_hi t q) _).mono ?_; rintro e w5 ⟨rfl, hw⟩; obtain rfl := hw.symm))
              go_quiet (first | (go_at_call 53; refine Calls.quiet_of (CR _).out))
              have H3 := Lib.hid (H1.out.mv (drewN_below (Below.refl _ _) nq))
              generalize World.drewN w1 nq = w3 at *
              clear z0 z1 H1 CR hsl hwn
              have hxn := HXN.out
              have TD := trim_dash t q n HN.out hnl
              rw [HS.out, HXE.out] at TD
              have TRM := Lib.hid (trimDash x (by omega) w3)
              have z0 := H3.out.c0
              have z1 := H3.out.c1
              have hty := mk_toList (Lib.trimB x.data.toList 45)
              obtain ⟨y, hy⟩ : ∃ y, (⟨(Lib.trimB x.data.toList 45).toArray⟩ : ByteArray) = y := ⟨_, rfl⟩
              rw [hy] at TRM hty
              clear hy
              by_cases hd : 2 ≤ n ∧ runL (fun c => c == 45) t q = n
              · have hst := step_dash HSP.out h2 (by rw [HN.out]; exact hd)
                have ey : (y.toList == []) = true := by rw [hty, TD.2 hd.2]; rfl
                have hn1 : (1 : Int) < (n : Int) := by omega
                clear hd TD hty z0 z1
                go_wp2_with (first | (go_at_call 61; refine TRM.out.mono ?_; clear TRM; rintro e w4 ⟨rfl, hbt⟩; have H4 := Lib.hid (H3.out.mv hbt); clear hbt))
                have CN := Lib.hid (implRunNoNl t ht W0.heap.size q (by omega) _ H4.out.c0 H4.out.c1)
                obtain ⟨r, hr⟩ : ∃ r, runL (fun c => !(c == 10)) t q = r := ⟨_, rfl⟩
                rw [hr] at CN hst
                have SK := HT.out.skip hst hlt
                clear hr hst
                refine CN.out.mono ?_
                clear CN
                rintro e w6 ⟨rfl, nn, hw6⟩
                have H6 := Lib.hid (show Ix W0 t q p (.map (some mb)) v ts w6 by rw [hw6]; exact H4.out.mv (drewN_below (Below.refl _ _) nn))
                clear hw6
                go_wp2_with fail
                refine (implStep W0 t ht q r p (.map (some mb)) v ts _ H6.out (by have := SK.2.1; omega) HT.out.l0 (by have := HT.out.l1; omega) HT.out.c0 (by have := HT.out.c1; omega)).mono ?_
                rintro z w9 ⟨rfl, h9⟩
                have H9 := Lib.hid h9
                clear h9
                go_wp2
                go_ret
                exact .inl ⟨rfl, q + r, by have := SK.1; omega, _, v, ts, H9.out, SK.2.2⟩
              · have hNB : NB t q := ⟨HSP.out, h2, by rw [HN.out]; exact hd⟩
                have hst := step_sym hNB hS hC hD HQ2.out hY
                rw [HN.out, HS.out, HXE.out] at hst
                have HST := Lib.hid hst
                clear hNB hst z0 z1
                have HM3 := Lib.hid (HM0.out.below H3.out.below)
                have KOK := Lib.hid (show keyS.ok x from (by show x.size ≤ maxLen; rw [hxn]; simp only [maxLen]; omega))
                by_cases hn2 : 2 ≤ n
                · have hn1 : (1 : Int) < (n : Int) := by omega
                  have ey : (y.toList == []) = false := by rw [hty, beq_eq_false_iff_ne]; exact fun h => hd ⟨hn2, TD.1 h⟩
                  clear hd TD hty hn2
                  have hst := HST.out
                  cases hmk : isMark x
                  · rw [hmk] at hst
                    have WKX := Lib.hid (show (mget es x).getD (.int .i64 0) = .int .i64 (if isWord x then 8 else 0) by rw [HWK.out x, hmk]; rfl)
                    by_cases h58 : cb t q = 58
                    · have e58 : (cb t q == 58) = true := by simp [h58]
                      rw [if_neg (by simp), if_pos h58] at hst
                      have SK := HT.out.tok hst hlt
                      clear hst h58
                      cases hw : isWord x
                      · have WKX := Lib.hid (show (mget es x).getD (.int .i64 0) = .int .i64 0 by rw [WKX.out, hw]; rfl)
                        go_wp2_with (first | (go_at_call 61; refine TRM.out.mono ?_; clear TRM; rintro e w4 ⟨rfl, hbt⟩; have H4 := Lib.hid (H3.out.mv hbt); have HM := Lib.hid (HM3.out.below hbt); have z4 := H4.out.c4; clear hbt) | (at_lookup; refine wpl_map_get_g rfl _ _ rfl (Tryd.zeroValue2 _) mapS rfl HM.out x rfl KOK.out _ WKX.out ?_))
                        refine (implPut W0 t ht q n p (.map (some mb)) v ts 4 x _ H4.out (by have := SK.2.1; omega) HT.out.len HT.out.l0 (by have := HT.out.l1; omega) HT.out.c0 (by have := HT.out.c1; omega)).mono ?_
                        rintro z w9 ⟨rfl, v9, h9⟩
                        have H9 := Lib.hid h9
                        clear h9
                        go_wp2
                        go_ret
                        exact .inl ⟨rfl, q + n, by have := SK.1; omega, _, v9, _, H9.out, SK.2.2⟩
                      · have WKX := Lib.hid (show (mget es x).getD (.int .i64 0) = .int .i64 8 by rw [WKX.out, hw]; rfl)
                        go_wp2_with (first | (go_at_call 61; refine TRM.out.mono ?_; clear TRM; rintro e w4 ⟨rfl, hbt⟩; have H4 := Lib.hid (H3.out.mv hbt); have HM := Lib.hid (HM3.out.below hbt); have z4 := H4.out.c4; clear hbt) | (at_lookup; refine wpl_map_get_g rfl _ _ rfl (Tryd.zeroValue2 _) mapS rfl HM.out x rfl KOK.out _ WKX.out ?_))
                        refine (implPut W0 t ht q n p (.map (some mb)) v ts 4 x _ H4.out (by have := SK.2.1; omega) HT.out.len HT.out.l0 (by have := HT.out.l1; omega) HT.out.c0 (by have := HT.out.c1; omega)).mono ?_
                        rintro z w9 ⟨rfl, v9, h9⟩
                        have H9 := Lib.hid h9
                        clear h9
                        go_wp2
                        go_ret
                        exact .inl ⟨rfl, q + n, by have := SK.1; omega, _, v9, _, H9.out, SK.2.2⟩
                    · have e58 : (cb t q == 58) = false := by simpa using h58
                      rw [if_neg (by simp), if_neg h58] at hst
                      have SK := HT.out.tok hst hlt
                      clear hst h58
                      cases hw : isWord x
                      · have WKX := Lib.hid (show (mget es x).getD (.int .i64 0) = .int .i64 0 by rw [WKX.out, hw]; rfl)
                        go_wp2_with (first | (go_at_call 61; refine TRM.out.mono ?_; clear TRM; rintro e w4 ⟨rfl, hbt⟩; have H4 := Lib.hid (H3.out.mv hbt); have HM := Lib.hid (HM3.out.below hbt); have z4 := H4.out.c4; clear hbt) | (at_lookup; refine wpl_map_get_g rfl _ _ rfl (Tryd.zeroValue2 _) mapS rfl HM.out x rfl KOK.out _ WKX.out ?_))
                        refine (implPut W0 t ht q n p (.map (some mb)) v ts 3 x _ H4.out (by have := SK.2.1; omega) HT.out.len HT.out.l0 (by have := HT.out.l1; omega) HT.out.c0 (by have := HT.out.c1; omega)).mono ?_
                        rintro z w9 ⟨rfl, v9, h9⟩
                        have H9 := Lib.hid h9
                        clear h9
                        go_wp2
                        go_ret
                        exact .inl ⟨rfl, q + n, by have := SK.1; omega, _, v9, _, H9.out, SK.2.2⟩
                      · have WKX := Lib.hid (show (mget es x).getD (.int .i64 0) = .int .i64 8 by rw [WKX.out, hw]; rfl)
                        go_wp2_with (first | (go_at_call 61; refine TRM.out.mono ?_; clear TRM; rintro e w4 ⟨rfl, hbt⟩; have H4 := Lib.hid (H3.out.mv hbt); have HM := Lib.hid (HM3.out.below hbt); have z4 := H4.out.c4; clear hbt) | (at_lookup; refine wpl_map_get_g rfl _ _ rfl (Tryd.zeroValue2 _) mapS rfl HM.out x rfl KOK.out _ WKX.out ?_))
                        refine (implPut W0 t ht q n p (.map (some mb)) v ts 3 x _ H4.out (by have := SK.2.1; omega) HT.out.len HT.out.l0 (by have := HT.out.l1; omega) HT.out.c0 (by have := HT.out.c1; omega)).mono ?_
                        rintro z w9 ⟨rfl, v9, h9⟩
                        have H9 := Lib.hid h9
                        clear h9
                        go_wp2
                        go_ret
                        exact .inl ⟨rfl, q + n, by have := SK.1; omega, _, v9, _, H9.out, SK.2.2⟩
                  · rw [hmk, if_pos rfl] at hst
                    have SK := HT.out.tok hst hlt
                    have WKX := Lib.hid (show (mget es x).getD (.int .i64 0) = .int .i64 9 by rw [HWK.out x, mark_word hmk, hmk]; rfl)
                    clear hst
                    go_wp2_with (first | (go_at_call 61; refine TRM.out.mono ?_; clear TRM; rintro e w4 ⟨rfl, hbt⟩; have H4 := Lib.hid (H3.out.mv hbt); have HM := Lib.hid (HM3.out.below hbt); have z4 := H4.out.c4; clear hbt) | (at_lookup; refine wpl_map_get_g rfl _ _ rfl (Tryd.zeroValue2 _) mapS rfl HM.out x rfl KOK.out _ WKX.out ?_))
                    refine (implPut W0 t ht q n p (.map (some mb)) v ts 9 x _ H4.out (by have := SK.2.1; omega) HT.out.len HT.out.l0 (by have := HT.out.l1; omega) HT.out.c0 (by have := HT.out.c1; omega)).mono ?_
                    rintro z w9 ⟨rfl, v9, h9⟩
                    have H9 := Lib.hid h9
                    clear h9
                    go_wp2
                    go_ret
                    exact .inl ⟨rfl, q + n, by have := SK.1; omega, _, v9, _, H9.out, SK.2.2⟩
                · have hn1 : ¬ (1 : Int) < (n : Int) := by omega
                  have z4 := H3.out.c4
                  have HM := HM3
                  clear hd TD hty hn2 TRM
                  have hst := HST.out
                  cases hmk : isMark x
                  · rw [hmk] at hst
                    have WKX := Lib.hid (show (mget es x).getD (.int .i64 0) = .int .i64 (if isWord x then 8 else 0) by rw [HWK.out x, hmk]; rfl)
                    by_cases h58 : cb t q = 58
                    · have e58 : (cb t q == 58) = true := by simp [h58]
                      rw [if_neg (by simp), if_pos h58] at hst
                      have SK := HT.out.tok hst hlt
                      clear hst h58
                      cases hw : isWord x
                      · have WKX := Lib.hid (show (mget es x).getD (.int .i64 0) = .int .i64 0 by rw [WKX.out, hw]; rfl)
                        go_wp2_with (first | (at_lookup; refine wpl_map_get_g rfl _ _ rfl (Tryd.zeroValue2 _) mapS rfl HM.out x rfl KOK.out _ WKX.out ?_))
                        refine (implPut W0 t ht q n p (.map (some mb)) v ts 4 x _ H3.out (by have := SK.2.1; omega) HT.out.len HT.out.l0 (by have := HT.out.l1; omega) HT.out.c0 (by have := HT.out.c1; omega)).mono ?_
                        rintro z w9 ⟨rfl, v9, h9⟩
                        have H9 := Lib.hid h9
                        clear h9
                        go_wp2
                        go_ret
                        exact .inl ⟨rfl, q + n, by have := SK.1; omega, _, v9, _, H9.out, SK.2.2⟩
                      · have WKX := Lib.hid (show (mget es x).getD (.int .i64 0) = .int .i64 8 by rw [WKX.out, hw]; rfl)
                        go_wp2_with (first | (at_lookup; refine wpl_map_get_g rfl _ _ rfl (Tryd.zeroValue2 _) mapS rfl HM.out x rfl KOK.out _ WKX.out ?_))
                        refine (implPut W0 t ht q n p (.map (some mb)) v ts 4 x _ H3.out (by have := SK.2.1; omega) HT.out.len HT.out.l0 (by have := HT.out.l1; omega) HT.out.c0 (by have := HT.out.c1; omega)).mono ?_
                        rintro z w9 ⟨rfl, v9, h9⟩
                        have H9 := Lib.hid h9
                        clear h9
                        go_wp2
                        go_ret
                        exact .inl ⟨rfl, q + n, by have := SK.1; omega, _, v9, _, H9.out, SK.2.2⟩
                    · have e58 : (cb t q == 58) = false := by simpa using h58
                      rw [if_neg (by simp), if_neg h58] at hst
                      have SK := HT.out.tok hst hlt
                      clear hst h58
                      cases hw : isWord x
                      · have WKX := Lib.hid (show (mget es x).getD (.int .i64 0) = .int .i64 0 by rw [WKX.out, hw]; rfl)
                        go_wp2_with (first | (at_lookup; refine wpl_map_get_g rfl _ _ rfl (Tryd.zeroValue2 _) mapS rfl HM.out x rfl KOK.out _ WKX.out ?_))
                        refine (implPut W0 t ht q n p (.map (some mb)) v ts 3 x _ H3.out (by have := SK.2.1; omega) HT.out.len HT.out.l0 (by have := HT.out.l1; omega) HT.out.c0 (by have := HT.out.c1; omega)).mono ?_
                        rintro z w9 ⟨rfl, v9, h9⟩
                        have H9 := Lib.hid h9
                        clear h9
                        go_wp2
                        go_ret
                        exact .inl ⟨rfl, q + n, by have := SK.1; omega, _, v9, _, H9.out, SK.2.2⟩
                      · have WKX := Lib.hid (show (mget es x).getD (.int .i64 0) = .int .i64 8 by rw [WKX.out, hw]; rfl)
                        go_wp2_with (first | (at_lookup; refine wpl_map_get_g rfl _ _ rfl (Tryd.zeroValue2 _) mapS rfl HM.out x rfl KOK.out _ WKX.out ?_))
                        refine (implPut W0 t ht q n p (.map (some mb)) v ts 3 x _ H3.out (by have := SK.2.1; omega) HT.out.len HT.out.l0 (by have := HT.out.l1; omega) HT.out.c0 (by have := HT.out.c1; omega)).mono ?_
                        rintro z w9 ⟨rfl, v9, h9⟩
                        have H9 := Lib.hid h9
                        clear h9
                        go_wp2
                        go_ret
                        exact .inl ⟨rfl, q + n, by have := SK.1; omega, _, v9, _, H9.out, SK.2.2⟩
                  · rw [hmk, if_pos rfl] at hst
                    have SK := HT.out.tok hst hlt
                    have WKX := Lib.hid (show (mget es x).getD (.int .i64 0) = .int .i64 9 by rw [HWK.out x, mark_word hmk, hmk]; rfl)
                    clear hst
                    go_wp2_with (first | (at_lookup; refine wpl_map_get_g rfl _ _ rfl (Tryd.zeroValue2 _) mapS rfl HM.out x rfl KOK.out _ WKX.out ?_))
                    refine (implPut W0 t ht q n p (.map (some mb)) v ts 9 x _ H3.out (by have := SK.2.1; omega) HT.out.len HT.out.l0 (by have := HT.out.l1; omega) HT.out.c0 (by have := HT.out.c1; omega)).mono ?_
                    rintro z w9 ⟨rfl, v9, h9⟩
                    have H9 := Lib.hid h9
                    clear h9
                    go_wp2
                    go_ret
                    exact .inl ⟨rfl, q + n, by have := SK.1; omega, _, v9, _, H9.out, SK.2.2⟩
        · have hNB := nb_of HSP.out h2 (sym_not (.inr (.inr (.inl hD))))
          have hst := step_num hNB hS hC hD
          have HST := Lib.hid hst
          clear hNB hst
          obtain ⟨n, hn⟩ : ∃ n, runL isDig t q = n := ⟨_, rfl⟩
          have hnl := runL_le isDig t q (by omega)
          rw [hn] at hnl
          obtain ⟨s, hs⟩ : ∃ s, q + n = s := ⟨_, rfl⟩
          have hwn : IntKind.i64.wrap ((q : Int) + (n : Int)) = (s : Int) := (i64_in (by omega) (by omega)).trans (by omega)
          have hsl := fun W => run_sl t q n hnl W
          rw [hs] at hsl
          obtain ⟨x, hx⟩ : ∃ x, t.extract q s = x := ⟨_, rfl⟩
          rw [hx] at hsl
          have hxn : x.size = n := by rw [← hx, ByteArray.size_extract]; omega
          have CR : ∀ k, Hid (Calls Tryd.prog 53 #[.pointer (some ⟨W0.heap.size, 0, none⟩), .func (.func 57) #[] #[]] (w1.drewN k) fun e w' => e = .returned (.int .i64 n) ∧ ∃ m, w' = (w1.drewN k).drewN m) := fun k => by
            have := implRunDigit t ht W0.heap.size q (by omega) (w1.drewN k) (by simpa using z0) (by simpa using z1)
            rw [hn] at this
            exact Lib.hid this
          have HS := Lib.hid hs
          have HXE := Lib.hid hx
          have HN := Lib.hid hn
          have HXN := Lib.hid hxn
          clear hs hx hn hxn hsl0
          go_wp2_with (first | (go_at_call 52; refine (implLetter _ _).mono ?_; rintro e w5 ⟨rfl, hw⟩; obtain rfl := hw.symm) | (go_at_call 57; refine (implDigit _ _).mono ?_; rintro e w5 ⟨rfl, hw⟩; obtain rfl := hw.symm))
          go_quiet (first | (go_at_call 53; refine Calls.quiet_of (CR _).out))
          have H3 := Lib.hid (H1.out.mv (drewN_below (Below.refl _ _) nq))
          generalize World.drewN w1 nq = w3 at *
          clear z0 z1 H1 CR hsl hwn
          have hxn := HXN.out
          have hst := HST.out
          rw [HN.out, HS.out, HXE.out] at hst
          have hpos := runL_pos hlt hD
          rw [HN.out] at hpos
          have hall : ∀ k, k < x.size → isDig (cb x k) = true := fun k hk => by
            rw [← HXE.out, sub_cb t q s k (by have := HS.out; omega) (by have := HS.out; omega)]
            exact runL_all isDig t q k (by rw [HN.out]; omega)
          have h0 : cb x 0 = cb t q := by
            have := sub_cb t q s 0 (by have := HS.out; omega) (by have := HS.out; omega)
            rw [HXE.out] at this
            simpa using this
          have CPD := Lib.hid (implPlain x (by omega) (by omega) hall w3)
          rw [h0, hxn] at CPD
          clear hall h0
          obtain ⟨b9, hb9⟩ : ∃ b9, (!(decide (1 < n) && (cb t q == 48))) = b9 := ⟨_, rfl⟩
          rw [hb9] at CPD
          cases b9
          · have hbig : 300 < n ∨ (1 < n ∧ cb t q = 48) := .inr (by simpa using hb9)
            have HR := Lib.hid (HT.out.bad (hst.trans (if_pos hbig)) hlt)
            clear hst hbig hb9
            go_wp2_with (first | (go_at_call 58; refine CPD.out.mono ?_; clear CPD; rintro e w5 ⟨rfl, hw⟩; obtain rfl := hw.symm))
            go_ret
            exact .inr ⟨3, by decide, rfl, p, v, ts, H3.out, HR.out⟩
          · by_cases h300 : 300 < n
            · have HR := Lib.hid (HT.out.bad (hst.trans (if_pos (.inl h300))) hlt)
              have h3 : (300 : Int) < (n : Int) := by omega
              clear hst hb9 h300
              go_wp2_with (first | (go_at_call 58; refine CPD.out.mono ?_; clear CPD; rintro e w5 ⟨rfl, hw⟩; obtain rfl := hw.symm))
              go_ret
              exact .inr ⟨3, by decide, rfl, p, v, ts, H3.out, HR.out⟩
            · have hno : ¬ (300 < n ∨ (1 < n ∧ cb t q = 48)) := by
                rintro (h | ⟨h1, h4⟩)
                · exact h300 h
                · simp [h1, h4] at hb9
              have SK := HT.out.tok (hst.trans (if_neg hno)) hlt
              have h3 : ¬ (300 : Int) < (n : Int) := by omega
              clear hst hb9 h300 hno
              go_wp2_with (first | (go_at_call 58; refine CPD.out.mono ?_; clear CPD; rintro e w5 ⟨rfl, hw⟩; obtain rfl := hw.symm))
              refine (implPut W0 t ht q n p (.map (some mb)) v ts 5 x _ H3.out (by have := SK.2.1; omega) HT.out.len HT.out.l0 (by have := HT.out.l1; omega) HT.out.c0 (by have := HT.out.c1; omega)).mono ?_
              rintro z w9 ⟨rfl, v9, h9⟩
              have H9 := Lib.hid h9
              clear h9
              go_wp2
              go_ret
              exact .inl ⟨rfl, q + n, by have := SK.1; omega, _, v9, _, H9.out, SK.2.2⟩
      · have hNB := nb_of HSP.out h2 (sym_not (by rcases Bool.or_eq_true _ _ ▸ hL with h | h; (· exact .inl h); exact .inr (.inl (by simpa using h))))
        have hst := step_name hNB (by rw [isLt_eq]; exact hL)
        clear hNB
        have hin : isIn (cb t q) = true := by rw [isIn_eq]; revert hL; cases isLt (cb t q) <;> cases (cb t q == 95) <;> simp
        have hpos := runL_pos hlt hin
        have HST0 := Lib.hid hst
        have HPOS := Lib.hid hpos
        clear hst hpos hin
        have HLL := Lib.hid hL
        rcases (show isLt (cb t q) = true ∨ (isLt (cb t q) = false ∧ (cb t q == 95) = true) by revert hL; cases isLt (cb t q) <;> cases (cb t q == 95) <;> simp) with l1 | ⟨l1, l2⟩
        · skip
          clear hL
          obtain ⟨n, hn⟩ : ∃ n, runL isIn t q = n := ⟨_, rfl⟩
          have hnl := runL_le isIn t q (by omega)
          rw [hn] at hnl
          obtain ⟨s, hs⟩ : ∃ s, q + n = s := ⟨_, rfl⟩
          have hwn : IntKind.i64.wrap ((q : Int) + (n : Int)) = (s : Int) := (i64_in (by omega) (by omega)).trans (by omega)
          have hsl := fun W => run_sl t q n hnl W
          rw [hs] at hsl
          obtain ⟨x, hx⟩ : ∃ x, t.extract q s = x := ⟨_, rfl⟩
          rw [hx] at hsl
          have hxn : x.size = n := by rw [← hx, ByteArray.size_extract]; omega
          have CR : ∀ k, Hid (Calls Tryd.prog 53 #[.pointer (some ⟨W0.heap.size, 0, none⟩), .func (.func 54) #[] #[]] (w1.drewN k) fun e w' => e = .returned (.int .i64 n) ∧ ∃ m, w' = (w1.drewN k).drewN m) := fun k => by
            have := implRunName t ht W0.heap.size q (by omega) (w1.drewN k) (by simpa using z0) (by simpa using z1)
            rw [hn] at this
            exact Lib.hid this
          have HS := Lib.hid hs
          have HXE := Lib.hid hx
          have HN := Lib.hid hn
          have HXN := Lib.hid hxn
          clear hs hx hn hxn hsl0
          go_wp2_with (first | (go_at_call 52; refine (implLetter _ _).mono ?_; rintro e w5 ⟨rfl, hw⟩; obtain rfl := hw.symm))
          go_quiet (first | (go_at_call 53; refine Calls.quiet_of (CR _).out))
          have H3 := Lib.hid (H1.out.mv (drewN_below (Below.refl _ _) nq))
          generalize World.drewN w1 nq = w3 at *
          clear z0 z1 H1 CR hsl hwn
          have hxn := HXN.out
          have hst := HST0.out
          rw [HN.out, HS.out, HXE.out] at hst
          cases hC : isCap (cb t q)
          · rw [hC] at hst
            have z4 := H3.out.c4
            have HM := Lib.hid (HM0.out.below H3.out.below)
            have KOK := Lib.hid (show keyS.ok x from (by show x.size ≤ maxLen; rw [hxn]; simp only [maxLen]; omega))
            cases hw : isWord x
            · rw [hw] at hst
              have SK := HT.out.tok hst hlt
              have WKX := Lib.hid (show (mget es x).getD (.int .i64 0) = .int .i64 (if isMark x then 9 else 0) by rw [HWK.out x, hw]; rfl)
              clear hst
              cases hmk : isMark x
              · have WKX := Lib.hid (show (mget es x).getD (.int .i64 0) = .int .i64 0 by rw [WKX.out, hmk]; rfl)
                go_wp2_with (first | (go_at_call 55; refine (implCapital _ _).mono ?_; rintro e w5 ⟨rfl, hw⟩; obtain rfl := hw.symm) | (at_lookup; refine wpl_map_get_g rfl _ _ rfl (Tryd.zeroValue2 _) mapS rfl HM.out x rfl KOK.out _ WKX.out ?_))
                refine (implPut W0 t ht q n p (.map (some mb)) v ts 1 x _ H3.out (by have := SK.2.1; omega) HT.out.len HT.out.l0 (by have := HT.out.l1; omega) HT.out.c0 (by have := HT.out.c1; omega)).mono ?_
                rintro z w9 ⟨rfl, v9, h9⟩
                have H9 := Lib.hid h9
                clear h9
                go_wp2
                go_ret
                exact .inl ⟨rfl, q + n, by have := SK.1; omega, _, v9, _, H9.out, SK.2.2⟩
              · have WKX := Lib.hid (show (mget es x).getD (.int .i64 0) = .int .i64 9 by rw [WKX.out, hmk]; rfl)
                go_wp2_with (first | (go_at_call 55; refine (implCapital _ _).mono ?_; rintro e w5 ⟨rfl, hw⟩; obtain rfl := hw.symm) | (at_lookup; refine wpl_map_get_g rfl _ _ rfl (Tryd.zeroValue2 _) mapS rfl HM.out x rfl KOK.out _ WKX.out ?_))
                refine (implPut W0 t ht q n p (.map (some mb)) v ts 1 x _ H3.out (by have := SK.2.1; omega) HT.out.len HT.out.l0 (by have := HT.out.l1; omega) HT.out.c0 (by have := HT.out.c1; omega)).mono ?_
                rintro z w9 ⟨rfl, v9, h9⟩
                have H9 := Lib.hid h9
                clear h9
                go_wp2
                go_ret
                exact .inl ⟨rfl, q + n, by have := SK.1; omega, _, v9, _, H9.out, SK.2.2⟩
            · rw [hw] at hst
              have SK := HT.out.tok hst hlt
              have WKX := Lib.hid (show (mget es x).getD (.int .i64 0) = .int .i64 8 by rw [HWK.out x, hw]; rfl)
              clear hst
              go_wp2_with (first | (go_at_call 55; refine (implCapital _ _).mono ?_; rintro e w5 ⟨rfl, hw⟩; obtain rfl := hw.symm) | (at_lookup; refine wpl_map_get_g rfl _ _ rfl (Tryd.zeroValue2 _) mapS rfl HM.out x rfl KOK.out _ WKX.out ?_))
              refine (implPut W0 t ht q n p (.map (some mb)) v ts 8 x _ H3.out (by have := SK.2.1; omega) HT.out.len HT.out.l0 (by have := HT.out.l1; omega) HT.out.c0 (by have := HT.out.c1; omega)).mono ?_
              rintro z w9 ⟨rfl, v9, h9⟩
              have H9 := Lib.hid h9
              clear h9
              go_wp2
              go_ret
              exact .inl ⟨rfl, q + n, by have := SK.1; omega, _, v9, _, H9.out, SK.2.2⟩
          · rw [hC] at hst
            have SK := HT.out.tok hst hlt
            clear hst
            go_wp2_with (first | (go_at_call 55; refine (implCapital _ _).mono ?_; rintro e w5 ⟨rfl, hw⟩; obtain rfl := hw.symm))
            refine (implPut W0 t ht q n p (.map (some mb)) v ts 2 x _ H3.out (by have := SK.2.1; omega) HT.out.len HT.out.l0 (by have := HT.out.l1; omega) HT.out.c0 (by have := HT.out.c1; omega)).mono ?_
            rintro z w9 ⟨rfl, v9, h9⟩
            have H9 := Lib.hid h9
            clear h9
            go_wp2
            go_ret
            exact .inl ⟨rfl, q + n, by have := SK.1; omega, _, v9, _, H9.out, SK.2.2⟩
        · skip
          clear hL
          obtain ⟨n, hn⟩ : ∃ n, runL isIn t q = n := ⟨_, rfl⟩
          have hnl := runL_le isIn t q (by omega)
          rw [hn] at hnl
          obtain ⟨s, hs⟩ : ∃ s, q + n = s := ⟨_, rfl⟩
          have hwn : IntKind.i64.wrap ((q : Int) + (n : Int)) = (s : Int) := (i64_in (by omega) (by omega)).trans (by omega)
          have hsl := fun W => run_sl t q n hnl W
          rw [hs] at hsl
          obtain ⟨x, hx⟩ : ∃ x, t.extract q s = x := ⟨_, rfl⟩
          rw [hx] at hsl
          have hxn : x.size = n := by rw [← hx, ByteArray.size_extract]; omega
          have CR : ∀ k, Hid (Calls Tryd.prog 53 #[.pointer (some ⟨W0.heap.size, 0, none⟩), .func (.func 54) #[] #[]] (w1.drewN k) fun e w' => e = .returned (.int .i64 n) ∧ ∃ m, w' = (w1.drewN k).drewN m) := fun k => by
            have := implRunName t ht W0.heap.size q (by omega) (w1.drewN k) (by simpa using z0) (by simpa using z1)
            rw [hn] at this
            exact Lib.hid this
          have HS := Lib.hid hs
          have HXE := Lib.hid hx
          have HN := Lib.hid hn
          have HXN := Lib.hid hxn
          clear hs hx hn hxn hsl0
          go_wp2_with (first | (go_at_call 52; refine (implLetter _ _).mono ?_; rintro e w5 ⟨rfl, hw⟩; obtain rfl := hw.symm))
          go_quiet (first | (go_at_call 53; refine Calls.quiet_of (CR _).out))
          have H3 := Lib.hid (H1.out.mv (drewN_below (Below.refl _ _) nq))
          generalize World.drewN w1 nq = w3 at *
          clear z0 z1 H1 CR hsl hwn
          have hxn := HXN.out
          have hst := HST0.out
          rw [HN.out, HS.out, HXE.out] at hst
          cases hC : isCap (cb t q)
          · rw [hC] at hst
            have z4 := H3.out.c4
            have HM := Lib.hid (HM0.out.below H3.out.below)
            have KOK := Lib.hid (show keyS.ok x from (by show x.size ≤ maxLen; rw [hxn]; simp only [maxLen]; omega))
            cases hw : isWord x
            · rw [hw] at hst
              have SK := HT.out.tok hst hlt
              have WKX := Lib.hid (show (mget es x).getD (.int .i64 0) = .int .i64 (if isMark x then 9 else 0) by rw [HWK.out x, hw]; rfl)
              clear hst
              cases hmk : isMark x
              · have WKX := Lib.hid (show (mget es x).getD (.int .i64 0) = .int .i64 0 by rw [WKX.out, hmk]; rfl)
                go_wp2_with (first | (go_at_call 55; refine (implCapital _ _).mono ?_; rintro e w5 ⟨rfl, hw⟩; obtain rfl := hw.symm) | (at_lookup; refine wpl_map_get_g rfl _ _ rfl (Tryd.zeroValue2 _) mapS rfl HM.out x rfl KOK.out _ WKX.out ?_))
                refine (implPut W0 t ht q n p (.map (some mb)) v ts 1 x _ H3.out (by have := SK.2.1; omega) HT.out.len HT.out.l0 (by have := HT.out.l1; omega) HT.out.c0 (by have := HT.out.c1; omega)).mono ?_
                rintro z w9 ⟨rfl, v9, h9⟩
                have H9 := Lib.hid h9
                clear h9
                go_wp2
                go_ret
                exact .inl ⟨rfl, q + n, by have := SK.1; omega, _, v9, _, H9.out, SK.2.2⟩
              · have WKX := Lib.hid (show (mget es x).getD (.int .i64 0) = .int .i64 9 by rw [WKX.out, hmk]; rfl)
                go_wp2_with (first | (go_at_call 55; refine (implCapital _ _).mono ?_; rintro e w5 ⟨rfl, hw⟩; obtain rfl := hw.symm) | (at_lookup; refine wpl_map_get_g rfl _ _ rfl (Tryd.zeroValue2 _) mapS rfl HM.out x rfl KOK.out _ WKX.out ?_))
                refine (implPut W0 t ht q n p (.map (some mb)) v ts 1 x _ H3.out (by have := SK.2.1; omega) HT.out.len HT.out.l0 (by have := HT.out.l1; omega) HT.out.c0 (by have := HT.out.c1; omega)).mono ?_
                rintro z w9 ⟨rfl, v9, h9⟩
                have H9 := Lib.hid h9
                clear h9
                go_wp2
                go_ret
                exact .inl ⟨rfl, q + n, by have := SK.1; omega, _, v9, _, H9.out, SK.2.2⟩
            · rw [hw] at hst
              have SK := HT.out.tok hst hlt
              have WKX := Lib.hid (show (mget es x).getD (.int .i64 0) = .int .i64 8 by rw [HWK.out x, hw]; rfl)
              clear hst
              go_wp2_with (first | (go_at_call 55; refine (implCapital _ _).mono ?_; rintro e w5 ⟨rfl, hw⟩; obtain rfl := hw.symm) | (at_lookup; refine wpl_map_get_g rfl _ _ rfl (Tryd.zeroValue2 _) mapS rfl HM.out x rfl KOK.out _ WKX.out ?_))
              refine (implPut W0 t ht q n p (.map (some mb)) v ts 8 x _ H3.out (by have := SK.2.1; omega) HT.out.len HT.out.l0 (by have := HT.out.l1; omega) HT.out.c0 (by have := HT.out.c1; omega)).mono ?_
              rintro z w9 ⟨rfl, v9, h9⟩
              have H9 := Lib.hid h9
              clear h9
              go_wp2
              go_ret
              exact .inl ⟨rfl, q + n, by have := SK.1; omega, _, v9, _, H9.out, SK.2.2⟩
          · rw [hC] at hst
            have SK := HT.out.tok hst hlt
            clear hst
            go_wp2_with (first | (go_at_call 55; refine (implCapital _ _).mono ?_; rintro e w5 ⟨rfl, hw⟩; obtain rfl := hw.symm))
            refine (implPut W0 t ht q n p (.map (some mb)) v ts 2 x _ H3.out (by have := SK.2.1; omega) HT.out.len HT.out.l0 (by have := HT.out.l1; omega) HT.out.c0 (by have := HT.out.c1; omega)).mono ?_
            rintro z w9 ⟨rfl, v9, h9⟩
            have H9 := Lib.hid h9
            clear h9
            go_wp2
            go_ret
            exact .inl ⟨rfl, q + n, by have := SK.1; omega, _, v9, _, H9.out, SK.2.2⟩

end Go.Proofs.YtifmnijdaboenaaDoor
