/- The reference's lexer: one token; all of a text; no condition. -/
import Derived.Test.YtifmnijdaboenaaDoorLxF
import Derived.Test.YtifmnijdaboenaaDoorLexT
import Derived.StillTailTactics
namespace Go.Proofs.YtifmnijdaboenaaDoor
open Go.RowKit
set_option linter.unusedVariables false
set_option linter.unusedSimpArgs false

theorem sm_cap {c : Int} (h : isSm c = true) : isCap c = false := by
  simp [isSm] at h
  simp [isCap]
  omega
theorem sm_dig {c : Int} (h : isDig c = true) : isSm c = false ∧ isCap c = false := by
  simp [isDig] at h
  simp [isSm, isCap]
  omega
theorem ext_cb (t : ByteArray) (a n : Nat) (h : a + n ≤ t.size) (hn : 0 < n) : cb (t.extract a (a + n)) 0 = cb t a := by
  have h1 : 0 < (t.extract a (a + n)).size := by rw [ByteArray.size_extract]; omega
  rw [← cb_at h1, ← cb_at (show a < t.size by omega)]
  have : (t.extract a (a + n))[0]'h1 = t[a]'(by omega) := by
    show (t.extract a (a + n)).data[0]'h1 = t.data[a]'(by show a < t.size; omega)
    simp only [ByteArray.data_extract]
    rw [Array.getElem_extract]
    simp
  rw [this]
theorem word_cap {x : ByteArray} (h : isWord x = true) : isCap (cb x 0) = false := by
  unfold isWord at h
  have hm := List.contains_iff_mem.1 h
  rw [ByteArray.toList_eq] at hm
  have key : ∀ l ∈ wordsL, ∃ c, l[0]? = some c ∧ isCap (c.toNat : Int) = false := by decide
  obtain ⟨c, h0, h1⟩ := key _ hm
  have := cb_get h0
  rw [this.2.1]
  exact h1
theorem run_sl (t : ByteArray) (a n : Nat) (h : a + n ≤ t.size) (W : World) : (Instr.slice 9 (.string t) (some (.int .i64 a)) (some (.int .i64 ((a + n : Nat) : Int))) none).run Tryd.prog W = .ok (.string (t.extract a (a + n))) W := by
  have := run_slice_string (P := Tryd.prog) W 9 t .i64 .i64 a ((a + n : Nat) : Int) Tryd.underlying9 (by omega) (by omega) (by omega)
  rw [Int.toNat_natCast, Int.toNat_natCast] at this
  exact this
theorem pK0 : pK 0 = isIn := rfl
theorem pK1 : pK 1 = isSym := rfl
theorem pK2 : pK 2 = isDig := rfl
theorem grow_made1 (w : World) (c : UInt8) : Grow w.heap.size (w.alloc (.cells #[.int .u8 c.toNat] 5)) (.slice (some ⟨w.heap.size, 0, none⟩) 1 1) 5 1 (bD [c]) :=
  ⟨[.int .u8 c.toNat], [], ⟨by simp [bD], .inr ⟨w.heap.size, 1, #[.int .u8 c.toNat], rfl, Nat.le_refl _, heap_alloc_new w _, Nat.le_refl _, by decide, by simp, by simp [bD]⟩⟩, by simp only [bD, List.map_cons, List.map_nil, D.Fields, D.K]; exact ⟨[_], [], [], [], rfl, rfl, ⟨rfl, rfl⟩, rfl, rfl⟩, by simp [bD, D.n], by simp [Value.ownBlock], fun k hk => by
    obtain rfl : k = w.heap.size := by simpa [Value.ownBlock] using hk
    exact ⟨Nat.le_refl _, #[.int .u8 c.toNat], _, blk_new w _⟩⟩
/-- What one step of the reference ends in. -/
def TokR (W0 : World) (t : ByteArray) (R : LexR) (a : Nat) (x : Ending) (w' : World) : Prop := (x = .returned (.bool true) ∧ ∃ a', a < a' ∧ Mid W0 t R a' w') ∨ (x = .returned (.bool false) ∧ Fin_ W0 t R w')
theorem step_name {t : ByteArray} {a : Nat} (h : NB t a) (h1 : (isSm (cb t a) || isCap (cb t a)) = true) : stepL t a = .tok (if isCap (cb t a) then 2 else if isWord (t.extract a (a + runL isIn t a)) then 8 else 1) (t.extract a (a + runL isIn t a)) (runL isIn t a) := by
  unfold stepL
  rw [if_neg h.1, if_neg (by simp [h.2.1]), if_pos h1]
theorem step_num {t : ByteArray} {a : Nat} (h : NB t a) (h1 : isSm (cb t a) = false) (h2 : isCap (cb t a) = false) (h3 : isDig (cb t a) = true) : stepL t a = if 300 < runL isDig t a ∨ (1 < runL isDig t a ∧ cb t a = 48) then .bad 3 else .tok 5 (t.extract a (a + runL isDig t a)) (runL isDig t a) := by
  unfold stepL
  rw [if_neg h.1, if_neg (by simp [h.2.1]), if_neg (by simp [h1, h2]), if_pos h3]
theorem step_quo {t : ByteArray} {a : Nat} (h : NB t a) (h1 : isSm (cb t a) = false) (h2 : isCap (cb t a) = false) (h3 : isDig (cb t a) = false) (h4 : cb t a = 39 ∨ cb t a = 34) :
    stepL t a = match quoL t (cb t a) (a + 1) with | none => .bad 4 | some (x, e) => if cb t a = 39 ∧ x.length ≠ 1 then .bad 4 else .tok (if cb t a = 39 then 6 else 7) ⟨x.toArray⟩ (e + 1 - a) := by
  unfold stepL
  rw [if_neg h.1, if_neg (by simp [h.2.1]), if_neg (by simp [h1, h2]), if_neg (by simp [h3]), if_pos h4]
  generalize quoL t (cb t a) (a + 1) = z
  cases z <;> rfl
theorem step_sym {t : ByteArray} {a : Nat} (h : NB t a) (h1 : isSm (cb t a) = false) (h2 : isCap (cb t a) = false) (h3 : isDig (cb t a) = false) (h4 : ¬ (cb t a = 39 ∨ cb t a = 34)) (h5 : isSym (cb t a) = true) :
    stepL t a = .tok (if isMark (t.extract a (a + runL isSym t a)) then 9 else if cb t a = 58 then 4 else 3) (t.extract a (a + runL isSym t a)) (runL isSym t a) := by
  unfold stepL
  rw [if_neg h.1, if_neg (by simp [h.2.1]), if_neg (by simp [h1, h2]), if_neg (by simp [h3]), if_neg h4, if_pos h5, if_neg h.2.2]
theorem step_spc {t : ByteArray} {a : Nat} (h : NB t a) (h1 : isSm (cb t a) = false) (h2 : isCap (cb t a) = false) (h3 : isDig (cb t a) = false) (h4 : ¬ (cb t a = 39 ∨ cb t a = 34)) (h5 : isSym (cb t a) = false) :
    stepL t a = if isSpc (cb t a) then .tok 10 (t.extract a (a + 1)) 1 else .bad 1 := by
  unfold stepL
  rw [if_neg h.1, if_neg (by simp [h.2.1]), if_neg (by simp [h1, h2]), if_neg (by simp [h3]), if_neg h4, if_neg (by simp [h5])]

set_option maxRecDepth 100000 in
set_option maxHeartbeats 8000000 in
theorem specToken (W0 : World) (t : ByteArray) (ht : t.size ≤ 1048576) (R : LexR) (q : Nat) (w : World) (h : Mid W0 t R q w) (hlt : q < t.size) (hnb : NB t q) :
    Calls Tryd.prog 24 #[.pointer (some ⟨W0.heap.size, 0, none⟩)] w fun x w' => TokR W0 t R q x w' := by
  obtain ⟨p, v, ts, hx, htl⟩ := h
  have HX := Lib.hid hx
  have HT := Lib.hid htl
  have NB_ := Lib.hid hnb
  have z0 := hx.c0
  have z1 := hx.c1
  have i0 : (0 : Int) ≤ (q : Int) := by omega
  have i1 : (q : Int) < (t.size : Int) := by omega
  have hc := cb_at hlt
  clear hx htl hnb
  go_enter Tryd.func24, Tryd.ntmps24
  go_wp2
  go_quiet (fail)
  have H1 := Lib.hid (HX.out.mv (drewN_below (Below.refl _ _) nq))
  generalize w.drewN nq = w1 at *
  clear z0 z1 HX
  have z0 := H1.out.c0
  have z1 := H1.out.c1
  cases hS : isSm (cb t q)
  · cases hC : isCap (cb t q)
    · cases hD : isDig (cb t q)
      · skip
        by_cases hq2 : cb t q = 39 ∨ cb t q = 34
        · have hst := step_quo NB_.out hS hC hD hq2
          have HQ2 := Lib.hid (show cb t q = 39 ∨ (¬ cb t q = 39 ∧ cb t q = 34) by omega)
          have CQ := Lib.hid (specQuoted t ht W0.heap.size q hlt (cb t q) w1 z0 z1)
          cases hqu : quoL t (cb t q) (q + 1) with
          | none =>
            rw [hqu] at hst
            have HR := Lib.hid (HT.out.bad hst hlt)
            rw [quoI_none hqu] at CQ
            clear hst hqu
            clear hq2
            rcases HQ2.out with h39 | ⟨h39, h34⟩
            · skip
              have e39 : (cb t q == 39) = true := by simp [h39]
              clear h39
              go_wp2_with (first | (go_at_call 39; refine (specSmall _ _).mono ?_; rintro e w1 ⟨rfl, hw⟩; obtain rfl := hw.symm) | (go_at_call 40; refine (specCapital _ _).mono ?_; rintro e w1 ⟨rfl, hw⟩; obtain rfl := hw.symm) | (go_at_call 43; refine (specDigit _ _).mono ?_; rintro e w1 ⟨rfl, hw⟩; obtain rfl := hw.symm) | (go_at_call 44; refine CQ.out.mono ?_; rintro e w2 ⟨rfl, hbw⟩; have H2 := Lib.hid (H1.out.mv hbw); clear hbw))
              refine (specFail W0 t q p (0, 0, 0) v ts 4 _ H2.out).mono ?_
              rintro z w9 ⟨rfl, h9⟩
              have H9 := Lib.hid h9
              clear h9
              go_wp2
              go_ret
              refine .inr ⟨rfl, q, p, .slice none 0 0, ?_⟩
              rw [HR.out]
              exact H9.out
            · skip
              have e39 : (cb t q == 39) = false := by simpa using h39
              have e34 : (cb t q == 34) = true := by simp [h34]
              clear h39 h34
              go_wp2_with (first | (go_at_call 39; refine (specSmall _ _).mono ?_; rintro e w1 ⟨rfl, hw⟩; obtain rfl := hw.symm) | (go_at_call 40; refine (specCapital _ _).mono ?_; rintro e w1 ⟨rfl, hw⟩; obtain rfl := hw.symm) | (go_at_call 43; refine (specDigit _ _).mono ?_; rintro e w1 ⟨rfl, hw⟩; obtain rfl := hw.symm) | (go_at_call 44; refine CQ.out.mono ?_; rintro e w2 ⟨rfl, hbw⟩; have H2 := Lib.hid (H1.out.mv hbw); clear hbw))
              refine (specFail W0 t q p (0, 0, 0) v ts 4 _ H2.out).mono ?_
              rintro z w9 ⟨rfl, h9⟩
              have H9 := Lib.hid h9
              clear h9
              go_wp2
              go_ret
              refine .inr ⟨rfl, q, p, .slice none 0 0, ?_⟩
              rw [HR.out]
              exact H9.out
          | some r =>
            obtain ⟨y, e⟩ := r
            rw [hqu] at hst
            have hge := quoL_ge _ _ _ _ _ hqu
            obtain ⟨n, hn⟩ : ∃ n, e + 1 - q = n := ⟨_, rfl⟩
            rw [quoI_some hqu, show (e : Int) + 1 - (q : Int) = (n : Int) by omega] at CQ
            have hn0 : ¬ (n : Int) < 0 := by omega
            have hst : stepL t q = if cb t q = 39 ∧ y.length ≠ 1 then .bad 4 else .tok (if cb t q = 39 then 6 else 7) ⟨y.toArray⟩ n := by rw [← hn]; exact hst
            have HST := Lib.hid hst
            have hys : (⟨y.toArray⟩ : ByteArray).size = y.length := by simp [ByteArray.size]
            obtain ⟨x, hx⟩ : ∃ x, (⟨y.toArray⟩ : ByteArray) = x := ⟨_, rfl⟩
            rw [hx] at CQ hys
            clear hst hqu hn hge hq2
            have HY := Lib.hid hys
            have HXX := Lib.hid hx
            clear hys hx
            rcases HQ2.out with h39 | ⟨h39, h34⟩
            · skip
              have e39 : (cb t q == 39) = true := by simp [h39]
              by_cases hl1 : y.length = 1
              · have hst := HST.out
                rw [if_neg (by simp [hl1]), if_pos h39, HXX.out] at hst
                have SK := HT.out.tok hst hlt
                have ex1 : ((x.size : Nat) : Int) = 1 := by rw [HY.out, hl1]; rfl
                have ex2 : (((x.size : Nat) : Int) != 1) = false := by rw [ex1]; rfl
                clear hst h39 ex1
                go_wp2_with (first | (go_at_call 39; refine (specSmall _ _).mono ?_; rintro e w1 ⟨rfl, hw⟩; obtain rfl := hw.symm) | (go_at_call 40; refine (specCapital _ _).mono ?_; rintro e w1 ⟨rfl, hw⟩; obtain rfl := hw.symm) | (go_at_call 43; refine (specDigit _ _).mono ?_; rintro e w1 ⟨rfl, hw⟩; obtain rfl := hw.symm) | (go_at_call 44; refine CQ.out.mono ?_; rintro e w2 ⟨rfl, hbw⟩; have H2 := Lib.hid (H1.out.mv hbw); clear hbw))
                refine (specPut W0 t ht q n p (0, 0, 0) v ts 6 x _ H2.out (by have := SK.2.1; omega) HT.out.len HT.out.l0 (by have := HT.out.l1; omega) HT.out.c0 (by have := HT.out.c1; omega)).mono ?_
                rintro z w9 ⟨rfl, v9, h9⟩
                have H9 := Lib.hid h9
                clear h9
                go_wp2
                go_ret
                exact .inl ⟨rfl, q + n, by have := SK.1; omega, _, v9, _, H9.out, SK.2.2⟩
              · have hst := HST.out
                rw [if_pos ⟨h39, hl1⟩] at hst
                have HR := Lib.hid (HT.out.bad hst hlt)
                have ex2 : (((x.size : Nat) : Int) != 1) = true := by rw [HY.out]; simp; omega
                clear hst h39 hl1
                go_wp2_with (first | (go_at_call 39; refine (specSmall _ _).mono ?_; rintro e w1 ⟨rfl, hw⟩; obtain rfl := hw.symm) | (go_at_call 40; refine (specCapital _ _).mono ?_; rintro e w1 ⟨rfl, hw⟩; obtain rfl := hw.symm) | (go_at_call 43; refine (specDigit _ _).mono ?_; rintro e w1 ⟨rfl, hw⟩; obtain rfl := hw.symm) | (go_at_call 44; refine CQ.out.mono ?_; rintro e w2 ⟨rfl, hbw⟩; have H2 := Lib.hid (H1.out.mv hbw); clear hbw))
                refine (specFail W0 t q p (0, 0, 0) v ts 4 _ H2.out).mono ?_
                rintro z w9 ⟨rfl, h9⟩
                have H9 := Lib.hid h9
                clear h9
                go_wp2
                go_ret
                refine .inr ⟨rfl, q, p, .slice none 0 0, ?_⟩
                rw [HR.out]
                exact H9.out
            · skip
              have e39 : (cb t q == 39) = false := by simpa using h39
              have e34 : (cb t q == 34) = true := by simp [h34]
              have hst := HST.out
              rw [if_neg (by intro h; exact h39 h.1), if_neg h39, HXX.out] at hst
              have SK := HT.out.tok hst hlt
              clear hst h39 h34
              go_wp2_with (first | (go_at_call 39; refine (specSmall _ _).mono ?_; rintro e w1 ⟨rfl, hw⟩; obtain rfl := hw.symm) | (go_at_call 40; refine (specCapital _ _).mono ?_; rintro e w1 ⟨rfl, hw⟩; obtain rfl := hw.symm) | (go_at_call 43; refine (specDigit _ _).mono ?_; rintro e w1 ⟨rfl, hw⟩; obtain rfl := hw.symm) | (go_at_call 44; refine CQ.out.mono ?_; rintro e w2 ⟨rfl, hbw⟩; have H2 := Lib.hid (H1.out.mv hbw); clear hbw))
              refine (specPut W0 t ht q n p (0, 0, 0) v ts 7 x _ H2.out (by have := SK.2.1; omega) HT.out.len HT.out.l0 (by have := HT.out.l1; omega) HT.out.c0 (by have := HT.out.c1; omega)).mono ?_
              rintro z w9 ⟨rfl, v9, h9⟩
              have H9 := Lib.hid h9
              clear h9
              go_wp2
              go_ret
              exact .inl ⟨rfl, q + n, by have := SK.1; omega, _, v9, _, H9.out, SK.2.2⟩
        · have e39 : (cb t q == 39) = false := by simp; omega
          have e34 : (cb t q == 34) = false := by simp; omega
          cases hY : isSym (cb t q)
          · have hst := step_spc NB_.out hS hC hD hq2 hY
            clear hq2
            cases hP : isSpc (cb t q)
            · rw [hP] at hst
              have HR := Lib.hid (HT.out.bad hst hlt)
              clear hst
              go_wp2_with (first | (go_at_call 39; refine (specSmall _ _).mono ?_; rintro e w1 ⟨rfl, hw⟩; obtain rfl := hw.symm) | (go_at_call 40; refine (specCapital _ _).mono ?_; rintro e w1 ⟨rfl, hw⟩; obtain rfl := hw.symm) | (go_at_call 43; refine (specDigit _ _).mono ?_; rintro e w1 ⟨rfl, hw⟩; obtain rfl := hw.symm) | (go_at_call 45; refine (specSymbol _ _).mono ?_; rintro e w1 ⟨rfl, hw⟩; obtain rfl := hw.symm) | (go_at_call 47; refine (specSpecial _ _).mono ?_; rintro e w1 ⟨rfl, hw⟩; obtain rfl := hw.symm))
              refine (specFail W0 t q p (0, 0, 0) v ts 1 _ H1.out).mono ?_
              rintro z w9 ⟨rfl, h9⟩
              have H9 := Lib.hid h9
              clear h9
              go_wp2
              go_ret
              refine .inr ⟨rfl, q, p, .slice none 0 0, ?_⟩
              rw [HR.out]
              exact H9.out
            · rw [hP, ext_one t q hlt] at hst
              have SK := HT.out.tok hst hlt
              have HG := grow_made1 w1 (t[q]'hlt)
              rw [cb_at hlt] at HG
              have H2 := Lib.hid (H1.out.mv (below_alloc1 w1 (.cells #[.int .u8 (cb t q)] 5)))
              have cv := run_conv HG (Below.refl _ _)
              clear hst HG
              go_wp2_with (first | (go_at_call 39; refine (specSmall _ _).mono ?_; rintro e w1 ⟨rfl, hw⟩; obtain rfl := hw.symm) | (go_at_call 40; refine (specCapital _ _).mono ?_; rintro e w1 ⟨rfl, hw⟩; obtain rfl := hw.symm) | (go_at_call 43; refine (specDigit _ _).mono ?_; rintro e w1 ⟨rfl, hw⟩; obtain rfl := hw.symm) | (go_at_call 45; refine (specSymbol _ _).mono ?_; rintro e w1 ⟨rfl, hw⟩; obtain rfl := hw.symm) | (go_at_call 47; refine (specSpecial _ _).mono ?_; rintro e w1 ⟨rfl, hw⟩; obtain rfl := hw.symm))
              refine (specPut W0 t ht q 1 p (0, 0, 0) v ts 10 ⟨#[t[q]]⟩ _ H2.out (by have := SK.2.1; omega) HT.out.len HT.out.l0 (by have := HT.out.l1; omega) HT.out.c0 (by have := HT.out.c1; omega)).mono ?_
              rintro z w9 ⟨rfl, v9, h9⟩
              have H9 := Lib.hid h9
              clear h9
              go_wp2
              go_ret
              exact .inl ⟨rfl, q + 1, by have := SK.1; omega, _, v9, _, H9.out, SK.2.2⟩
          · have hst := step_sym NB_.out hS hC hD hq2 hY
            clear hq2
            go_wp2_with (first | (go_at_call 39; refine (specSmall _ _).mono ?_; rintro e w1 ⟨rfl, hw⟩; obtain rfl := hw.symm) | (go_at_call 40; refine (specCapital _ _).mono ?_; rintro e w1 ⟨rfl, hw⟩; obtain rfl := hw.symm) | (go_at_call 43; refine (specDigit _ _).mono ?_; rintro e w1 ⟨rfl, hw⟩; obtain rfl := hw.symm) | (go_at_call 45; refine (specSymbol _ _).mono ?_; rintro e w1 ⟨rfl, hw⟩; obtain rfl := hw.symm) | (go_at_call 47; refine (specSpecial _ _).mono ?_; rintro e w1 ⟨rfl, hw⟩; obtain rfl := hw.symm))
            obtain ⟨n, hn⟩ : ∃ n, runL isSym t q = n := ⟨_, rfl⟩
            have hnl := runL_le isSym t q (by omega)
            rw [hn] at hnl hst
            have CR : ∀ W, Hid (Calls Tryd.prog 38 #[.string t, .int .i64 q, .int .i64 1] W fun e w' => e = .returned (.int .i64 n) ∧ w' = W) := fun W => by
              have := specRun t ht q (by omega) 1 (by omega) W
              rw [pK1, hn] at this
              exact Lib.hid this
            have HST := Lib.hid hst
            clear hst hn
            go_quiet (first | (go_at_call 38; refine Calls.quiet_of_same (CR _).out))
            have H3 := Lib.hid (H1.out.mv (drewN_below (Below.refl _ _) nq))
            generalize World.drewN w1 nq = w3 at *
            clear z0 z1 H1 CR
            have z0 := H3.out.c0
            have z1 := H3.out.c1
            go_wp2
            have hwn : IntKind.i64.wrap ((q : Int) + (n : Int)) = ((q + n : Nat) : Int) := (i64_in (by omega) (by omega)).trans (by omega)
            obtain ⟨s, hs⟩ : ∃ s, q + n = s := ⟨_, rfl⟩
            have hsl := fun W => run_sl t q n hnl W
            rw [hs] at hwn hsl
            have HS := Lib.hid hs
            clear hs
            go_quiet (fail)
            have H2 := Lib.hid (H3.out.mv (drewN_below (Below.refl _ _) nq))
            generalize World.drewN w3 nq = w2 at *
            clear z0 z1 H3 hsl hwn
            obtain ⟨x, hx⟩ : ∃ x, t.extract q s = x := ⟨_, rfl⟩
            have hst := HST.out
            rw [HS.out, hx] at hst
            rw [hx]
            clear hx
            by_cases h58 : cb t q = 58
            · have e58 : (cb t q == 58) = true := by simp [h58]
              cases hw : isMark x
              · rw [hw, if_neg (by simp), if_pos h58] at hst
                have SK := HT.out.tok hst hlt
                clear hst h58
                go_wp2_with (first | (go_at_call 46; refine (specMark _ _).mono ?_; rintro e w1 ⟨rfl, hbw⟩; have H4 := Lib.hid (H2.out.mv hbw); clear hbw))
                refine (specPut W0 t ht q n p (0, 0, 0) v ts 4 x _ H4.out (by have := SK.2.1; omega) HT.out.len HT.out.l0 (by have := HT.out.l1; omega) HT.out.c0 (by have := HT.out.c1; omega)).mono ?_
                rintro z w9 ⟨rfl, v9, h9⟩
                have H9 := Lib.hid h9
                clear h9
                go_wp2
                go_ret
                exact .inl ⟨rfl, q + n, by have := SK.1; omega, _, v9, _, H9.out, SK.2.2⟩
              · rw [hw, if_pos rfl] at hst
                have SK := HT.out.tok hst hlt
                clear hst h58
                go_wp2_with (first | (go_at_call 46; refine (specMark _ _).mono ?_; rintro e w1 ⟨rfl, hbw⟩; have H4 := Lib.hid (H2.out.mv hbw); clear hbw))
                refine (specPut W0 t ht q n p (0, 0, 0) v ts 9 x _ H4.out (by have := SK.2.1; omega) HT.out.len HT.out.l0 (by have := HT.out.l1; omega) HT.out.c0 (by have := HT.out.c1; omega)).mono ?_
                rintro z w9 ⟨rfl, v9, h9⟩
                have H9 := Lib.hid h9
                clear h9
                go_wp2
                go_ret
                exact .inl ⟨rfl, q + n, by have := SK.1; omega, _, v9, _, H9.out, SK.2.2⟩
            · have e58 : (cb t q == 58) = false := by simpa using h58
              cases hw : isMark x
              · rw [hw, if_neg (by simp), if_neg h58] at hst
                have SK := HT.out.tok hst hlt
                clear hst h58
                go_wp2_with (first | (go_at_call 46; refine (specMark _ _).mono ?_; rintro e w1 ⟨rfl, hbw⟩; have H4 := Lib.hid (H2.out.mv hbw); clear hbw))
                refine (specPut W0 t ht q n p (0, 0, 0) v ts 3 x _ H4.out (by have := SK.2.1; omega) HT.out.len HT.out.l0 (by have := HT.out.l1; omega) HT.out.c0 (by have := HT.out.c1; omega)).mono ?_
                rintro z w9 ⟨rfl, v9, h9⟩
                have H9 := Lib.hid h9
                clear h9
                go_wp2
                go_ret
                exact .inl ⟨rfl, q + n, by have := SK.1; omega, _, v9, _, H9.out, SK.2.2⟩
              · rw [hw, if_pos rfl] at hst
                have SK := HT.out.tok hst hlt
                clear hst h58
                go_wp2_with (first | (go_at_call 46; refine (specMark _ _).mono ?_; rintro e w1 ⟨rfl, hbw⟩; have H4 := Lib.hid (H2.out.mv hbw); clear hbw))
                refine (specPut W0 t ht q n p (0, 0, 0) v ts 9 x _ H4.out (by have := SK.2.1; omega) HT.out.len HT.out.l0 (by have := HT.out.l1; omega) HT.out.c0 (by have := HT.out.c1; omega)).mono ?_
                rintro z w9 ⟨rfl, v9, h9⟩
                have H9 := Lib.hid h9
                clear h9
                go_wp2
                go_ret
                exact .inl ⟨rfl, q + n, by have := SK.1; omega, _, v9, _, H9.out, SK.2.2⟩
      · have hst := step_num NB_.out hS hC hD
        go_wp2_with (first | (go_at_call 39; refine (specSmall _ _).mono ?_; rintro e w1 ⟨rfl, hw⟩; obtain rfl := hw.symm) | (go_at_call 40; refine (specCapital _ _).mono ?_; rintro e w1 ⟨rfl, hw⟩; obtain rfl := hw.symm) | (go_at_call 43; refine (specDigit _ _).mono ?_; rintro e w1 ⟨rfl, hw⟩; obtain rfl := hw.symm))
        obtain ⟨n, hn⟩ : ∃ n, runL isDig t q = n := ⟨_, rfl⟩
        have hnl := runL_le isDig t q (by omega)
        rw [hn] at hnl hst
        have CR : ∀ W, Hid (Calls Tryd.prog 38 #[.string t, .int .i64 q, .int .i64 2] W fun e w' => e = .returned (.int .i64 n) ∧ w' = W) := fun W => by
          have := specRun t ht q (by omega) 2 (by omega) W
          rw [pK2, hn] at this
          exact Lib.hid this
        have HST := Lib.hid hst
        clear hst hn
        go_quiet (first | (go_at_call 38; refine Calls.quiet_of_same (CR _).out))
        have H2 := Lib.hid (H1.out.mv (drewN_below (Below.refl _ _) nq))
        generalize World.drewN w1 nq = w2 at *
        clear z0 z1 H1 CR
        have z0 := H2.out.c0
        have z1 := H2.out.c1
        by_cases hbig : 300 < n ∨ (1 < n ∧ cb t q = 48)
        · have HR := Lib.hid (HT.out.bad (HST.out.trans (if_pos hbig)) hlt)
          rcases (show 300 < n ∨ (¬ 300 < n ∧ 1 < n ∧ cb t q = 48) by omega) with hb1 | ⟨hb1, hb2, hb3⟩
          · have hb1' : (300 : Int) < (n : Int) := by omega
            clear hbig
            go_wp2_with fail
            refine (specFail W0 t q p (0, 0, 0) v ts 3 _ H2.out).mono ?_
            rintro z w9 ⟨rfl, h9⟩
            have H9 := Lib.hid h9
            clear h9
            go_wp2
            go_ret
            refine .inr ⟨rfl, q, p, .slice none 0 0, ?_⟩
            rw [HR.out]
            exact H9.out
          · have hb1' : ¬ (300 : Int) < (n : Int) := by omega
            have hb2' : (1 : Int) < (n : Int) := by omega
            have hb4 : (cb t q == 48) = true := by simp [hb3]
            clear hbig hb3
            go_wp2_with fail
            refine (specFail W0 t q p (0, 0, 0) v ts 3 _ H2.out).mono ?_
            rintro z w9 ⟨rfl, h9⟩
            have H9 := Lib.hid h9
            clear h9
            go_wp2
            go_ret
            refine .inr ⟨rfl, q, p, .slice none 0 0, ?_⟩
            rw [HR.out]
            exact H9.out
        · have hst := HST.out.trans (if_neg hbig)
          have hb1 : ¬ (300 : Int) < (n : Int) := by omega
          have SK := HT.out.tok hst hlt
          have hwn : IntKind.i64.wrap ((q : Int) + (n : Int)) = ((q + n : Nat) : Int) := (i64_in (by omega) (by omega)).trans (by omega)
          obtain ⟨s, hs⟩ : ∃ s, q + n = s := ⟨_, rfl⟩
          have hsl := fun W => run_sl t q n hnl W
          rw [hs] at hwn hsl
          have HS := Lib.hid hs
          clear hs
          have SKH := Lib.hid SK
          obtain ⟨x, hx⟩ : ∃ x, t.extract q s = x := ⟨_, rfl⟩
          rw [HS.out, hx] at hst
          clear SK
          have SK := HT.out.tok hst hlt
          have HP := fun W (hW : Lx W0 t q p (0, 0, 0) v ts W) => Lib.hid (specPut W0 t ht q n p (0, 0, 0) v ts 5 x W hW (by have := SK.2.1; omega) HT.out.len HT.out.l0 (by have := HT.out.l1; omega) HT.out.c0 (by have := HT.out.c1; omega))
          have HBIG := Lib.hid (show (1 < n ∧ ¬ cb t q = 48) ∨ ¬ 1 < n from by by_cases h1 : 1 < n; (· exact .inl ⟨h1, fun h2 => hbig (.inr ⟨h1, h2⟩)⟩); exact .inr h1)
          clear hst hbig
          rcases (show (1 < n ∧ ¬ cb t q = 48) ∨ ¬ 1 < n from HBIG.out) with ⟨hb2, hb3⟩ | hb2
          · have hb2' : (1 : Int) < (n : Int) := by omega
            have hb4 : (cb t q == 48) = false := by simpa using hb3
            clear hb3
            go_wp2
            go_still_tail 17, (by kernel_rfl)
            go_wp2_with fail
            refine (HP _ (H2.out.mv (Below.refl _ _).drew)).out.mono ?_
            rintro z w9 ⟨rfl, v9, h9⟩
            have H9 := Lib.hid h9
            clear h9
            go_wp2
            go_ret
            exact .inl ⟨rfl, q + n, by have := SK.1; omega, _, v9, _, H9.out, SK.2.2⟩
          · have hb2' : ¬ (1 : Int) < (n : Int) := by omega
            go_wp2
            go_still_tail 17, (by kernel_rfl)
            go_wp2_with fail
            refine (HP _ (H2.out.mv (Below.refl _ _).drew)).out.mono ?_
            rintro z w9 ⟨rfl, v9, h9⟩
            have H9 := Lib.hid h9
            clear h9
            go_wp2
            go_ret
            exact .inl ⟨rfl, q + n, by have := SK.1; omega, _, v9, _, H9.out, SK.2.2⟩
    · skip
      have hst := step_name NB_.out (by rw [hS, hC]; rfl)
      go_wp2_with (first | (go_at_call 39; refine (specSmall _ _).mono ?_; rintro e w1 ⟨rfl, hw⟩; obtain rfl := hw.symm) | (go_at_call 40; refine (specCapital _ _).mono ?_; rintro e w1 ⟨rfl, hw⟩; obtain rfl := hw.symm))
      obtain ⟨n, hn⟩ : ∃ n, runL isIn t q = n := ⟨_, rfl⟩
      have hnl := runL_le isIn t q (by omega)
      rw [hn] at hnl hst
      have CR : ∀ W, Hid (Calls Tryd.prog 38 #[.string t, .int .i64 q, .int .i64 0] W fun e w' => e = .returned (.int .i64 n) ∧ w' = W) := fun W => by
        have := specRun t ht q (by omega) 0 (by omega) W
        rw [pK0, hn] at this
        exact Lib.hid this
      have HST := Lib.hid hst
      clear hst hn
      go_quiet (first | (go_at_call 38; refine Calls.quiet_of_same (CR _).out))
      have H3 := Lib.hid (H1.out.mv (drewN_below (Below.refl _ _) nq))
      generalize World.drewN w1 nq = w3 at *
      clear z0 z1 H1 CR
      have z0 := H3.out.c0
      have z1 := H3.out.c1
      go_wp2
      have hwn : IntKind.i64.wrap ((q : Int) + (n : Int)) = ((q + n : Nat) : Int) := (i64_in (by omega) (by omega)).trans (by omega)
      obtain ⟨s, hs⟩ : ∃ s, q + n = s := ⟨_, rfl⟩
      have hsl := fun W => run_sl t q n hnl W
      rw [hs] at hwn hsl
      have HS := Lib.hid hs
      clear hs
      go_quiet (fail)
      have H2 := Lib.hid (H3.out.mv (drewN_below (Below.refl _ _) nq))
      generalize World.drewN w3 nq = w2 at *
      clear z0 z1 H3 hsl hwn
      obtain ⟨x, hx⟩ : ∃ x, t.extract q s = x := ⟨_, rfl⟩
      have hst := HST.out
      rw [HS.out, hx, hC] at hst
      rw [hx]
      have hw : isWord x = false := by
        cases hw : isWord x
        · rfl
        · have h1 := word_cap hw
          rw [← hx, ← HS.out, ext_cb t q n hnl (by have h2 := runL_pos (p := isIn) hlt (by simp [isIn, hC]); have h3 := HST.out; have := (stepL_tok h3 hlt).1; omega), hC] at h1
          cases h1
      have SK := HT.out.tok hst hlt
      clear hx hst
      go_wp2_with (first | (go_at_call 40; refine (specCapital _ _).mono ?_; rintro e w1 ⟨rfl, hw⟩; obtain rfl := hw.symm) | (go_at_call 41; refine (specWord _ _).mono ?_; rintro e w1 ⟨rfl, hbw⟩; have H4 := Lib.hid (H2.out.mv hbw); clear hbw))
      refine (specPut W0 t ht q n p (0, 0, 0) v ts 2 x _ H4.out (by have := SK.2.1; omega) HT.out.len HT.out.l0 (by have := HT.out.l1; omega) HT.out.c0 (by have := HT.out.c1; omega)).mono ?_
      rintro z w9 ⟨rfl, v9, h9⟩
      have H9 := Lib.hid h9
      clear h9
      go_wp2
      go_ret
      exact .inl ⟨rfl, q + n, by have := SK.1; omega, _, v9, _, H9.out, SK.2.2⟩
  · have hC := sm_cap hS
    have hst := step_name NB_.out (by rw [hS, hC]; rfl)
    go_wp2_with (first | (go_at_call 39; refine (specSmall _ _).mono ?_; rintro e w1 ⟨rfl, hw⟩; obtain rfl := hw.symm) | (go_at_call 40; refine (specCapital _ _).mono ?_; rintro e w1 ⟨rfl, hw⟩; obtain rfl := hw.symm))
    obtain ⟨n, hn⟩ : ∃ n, runL isIn t q = n := ⟨_, rfl⟩
    have hnl := runL_le isIn t q (by omega)
    rw [hn] at hnl hst
    have CR : ∀ W, Hid (Calls Tryd.prog 38 #[.string t, .int .i64 q, .int .i64 0] W fun e w' => e = .returned (.int .i64 n) ∧ w' = W) := fun W => by
      have := specRun t ht q (by omega) 0 (by omega) W
      rw [pK0, hn] at this
      exact Lib.hid this
    have HST := Lib.hid hst
    clear hst hn
    go_quiet (first | (go_at_call 38; refine Calls.quiet_of_same (CR _).out))
    have H3 := Lib.hid (H1.out.mv (drewN_below (Below.refl _ _) nq))
    generalize World.drewN w1 nq = w3 at *
    clear z0 z1 H1 CR
    have z0 := H3.out.c0
    have z1 := H3.out.c1
    go_wp2
    have hwn : IntKind.i64.wrap ((q : Int) + (n : Int)) = ((q + n : Nat) : Int) := (i64_in (by omega) (by omega)).trans (by omega)
    obtain ⟨s, hs⟩ : ∃ s, q + n = s := ⟨_, rfl⟩
    have hsl := fun W => run_sl t q n hnl W
    rw [hs] at hwn hsl
    have HS := Lib.hid hs
    clear hs
    go_quiet (fail)
    have H2 := Lib.hid (H3.out.mv (drewN_below (Below.refl _ _) nq))
    generalize World.drewN w3 nq = w2 at *
    clear z0 z1 H3 hsl hwn
    obtain ⟨x, hx⟩ : ∃ x, t.extract q s = x := ⟨_, rfl⟩
    have hst := HST.out
    rw [HS.out, hx, hC] at hst
    rw [hx]
    clear hx
    cases hw : isWord x
    · rw [hw] at hst
      have SK := HT.out.tok hst hlt
      clear hst
      go_wp2_with (first | (go_at_call 40; refine (specCapital _ _).mono ?_; rintro e w1 ⟨rfl, hw⟩; obtain rfl := hw.symm) | (go_at_call 41; refine (specWord _ _).mono ?_; rintro e w1 ⟨rfl, hbw⟩; have H4 := Lib.hid (H2.out.mv hbw); clear hbw))
      refine (specPut W0 t ht q n p (0, 0, 0) v ts 1 x _ H4.out (by have := SK.2.1; omega) HT.out.len HT.out.l0 (by have := HT.out.l1; omega) HT.out.c0 (by have := HT.out.c1; omega)).mono ?_
      rintro z w9 ⟨rfl, v9, h9⟩
      have H9 := Lib.hid h9
      clear h9
      go_wp2
      go_ret
      exact .inl ⟨rfl, q + n, by have := SK.1; omega, _, v9, _, H9.out, SK.2.2⟩
    · rw [hw] at hst
      have SK := HT.out.tok hst hlt
      clear hst
      go_wp2_with (first | (go_at_call 40; refine (specCapital _ _).mono ?_; rintro e w1 ⟨rfl, hw⟩; obtain rfl := hw.symm) | (go_at_call 41; refine (specWord _ _).mono ?_; rintro e w1 ⟨rfl, hbw⟩; have H4 := Lib.hid (H2.out.mv hbw); clear hbw))
      refine (specPut W0 t ht q n p (0, 0, 0) v ts 8 x _ H4.out (by have := SK.2.1; omega) HT.out.len HT.out.l0 (by have := HT.out.l1; omega) HT.out.c0 (by have := HT.out.c1; omega)).mono ?_
      rintro z w9 ⟨rfl, v9, h9⟩
      have H9 := Lib.hid h9
      clear h9
      go_wp2
      go_ret
      exact .inl ⟨rfl, q + n, by have := SK.1; omega, _, v9, _, H9.out, SK.2.2⟩

end Go.Proofs.YtifmnijdaboenaaDoor
