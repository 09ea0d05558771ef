/- The program's 'unlike' and 'PrimCount'; a set of texts as a map; no condition. -/
import Derived.Test.YthidbmjdphfddaaCfI1
namespace Go.Proofs.Ythidbmjdphfddaa
open Go Go.RowKit
set_option linter.unusedVariables false
set_option linter.unusedSimpArgs false

noncomputable def keyT : KeyK Try.prog 9 ByteArray := strKey Try.underlying9
theorem mapStrBool : Try.prog.underlying 97 = some (.map 9 4) := by kernel_rfl
def seenB (l : List ByteArray) : List (ByteArray × Value) := l.map fun d => (d, .bool true)
theorem seenB_get (l : List ByteArray) (d : ByteArray) : mget (seenB l) d = if isIn l d = true then some (.bool true) else none := by
  induction l with
  | nil => simp [seenB, mget, isIn]
  | cons z l ih =>
    simp only [seenB, List.map_cons, mget] at ih ⊢
    by_cases h : z = d
    · subst h
      rw [if_pos rfl, if_pos]
      simp [isIn]
    · have hne : (z.toList == d.toList) = false := by
        cases hc : (z.toList == d.toList) with
        | false => rfl
        | true => exact absurd (str_eq.1 hc) h
      rw [if_neg h, ih]
      have e : isIn (z :: l) d = isIn l d := by simp only [isIn, List.any_cons, hne, Bool.false_or]
      rw [e]
theorem seenB_put {l : List ByteArray} {d : ByteArray} (h : isIn l d = false) : mput (seenB l) d (.bool true) = seenB (l ++ [d]) := by
  rw [mput_new (by rw [seenB_get, if_neg (by rw [h]; decide)])]
  simp [seenB]
theorem seenB_len (l : List ByteArray) : (seenB l).length = l.length := by simp [seenB]
theorem maxLen_big {n : Nat} (h : n ≤ 140737488355328) : n < maxLen := by simp only [maxLen]; omega
theorem maxLen_le {n : Nat} (h : n ≤ 140737488355328) : n ≤ maxLen := by simp only [maxLen]; omega

set_option maxRecDepth 100000 in
theorem implUnlike (l : List ByteArray) (hn : l.length ≤ 140737488351232) (hl : ∀ x ∈ l, x.size ≤ 140737488351232) (w : World) (v : Value) (h : Rd w (.slice 1 (strs l)) [v]) :
    Calls Try.prog 224 #[v] w (Ret (okNames l) w) := by
  obtain ⟨A, c, rfl, _, _, hr⟩ := open_strs h
  have H := Lib.hid hr
  clear h hr
  obtain ⟨R, hR⟩ : ∃ R, R = okNames l := ⟨_, rfl⟩
  rw [← hR]
  have HR : Hid (R = unlF [] l) := by show _ = _; rw [hR, unlF_eq]; rfl
  clear hR
  have HL := Lib.hid hl
  have B0 := Lib.hid (below_alloc1 w (.map #[] 0))
  have M0 := Lib.hid (hasMap_new w keyT)
  clear hl
  go_enter Try.func224, Try.ntmps224
  have hmm := @run_makeMap Try.prog
  go_wp2_with fail
  go_loopw [9] (fun i wr => ∃ j : Nat, j ≤ l.length ∧ i = .int .i64 j ∧ Hid (R = unlF (l.take j) (l.drop j) ∧ HasMap keyT w.heap.size (seenB (l.take j)) wr ∧ Below w.heap.size w wr)) (fun i _ => l.length - (intOf i).toNat)
  case atStart => exact ⟨0, Nat.zero_le _, rfl, Lib.hid ⟨by simpa using HR.out, by simpa [seenB] using M0.out, B0.out⟩⟩
  case round =>
    obtain ⟨j, hj, rfl, hrel⟩ := hrel
    have RL := Lib.hid hrel.out
    clear hrel
    by_cases hlt : j < l.length
    · obtain ⟨b, off, rfl, e0⟩ := strs_get (H.out.below (by omega) RL.out.2.2) hlt
      have ST := Lib.hid (unlF_step hlt)
      have TK := Lib.hid (List.take_succ_eq_append_getElem hlt)
      have SZ := Lib.hid (HL.out _ (List.getElem_mem hlt))
      obtain ⟨x, hx⟩ : ∃ x, x = l[j] := ⟨_, rfl⟩
      rw [← hx] at e0 SZ
      have HX := Lib.hid hx
      have OK : Hid (keyT.ok x) := maxLen_le (by have := SZ.out; omega)
      clear hx
      have i0 : (0 : Int) ≤ (j : Int) := Int.natCast_nonneg _
      have i1 : (j : Int) < (l.length : Int) := by omega
      cases he : x.toList.isEmpty
      rotate_left
      · have HE := Lib.hid he
        go_wp2_with fail
        go_ret
        refine ⟨congrArg Ending.returned (congrArg Value.bool ?_), RL.out.2.2⟩
        rw [RL.out.1, ST.out, ← HX.out, HE.out]
        rfl
      · have HE := Lib.hid he
        cases hi : isIn (l.take j) x
        · have G1 : Hid ((mget (seenB (l.take j)) x).getD (.bool false) = .bool false) := by show _ = _; rw [seenB_get, if_neg (by rw [hi]; decide)]; rfl
          have PUT := Lib.hid (seenB_put hi)
          have HI := Lib.hid hi
          clear hi
          go_wp2_with (first
            | (at_lookup; refine wpl_map_get_g rfl _ _ rfl (Try.zeroValue4 _) mapStrBool rfl RL.out.2.1 x rfl OK.out _ G1.out ?_)
            | (at_mapUpdate; refine wpl_map_put rfl _ _ _ rfl mapStrBool rfl RL.out.2.1 (maxLen_big (by rw [seenB_len, List.length_take]; omega)) x rfl OK.out (.bool true) rfl ?_; intro w1 hm1 hg1; rw [PUT.out] at hm1; have HM1 := Lib.hid hm1; have GB := Lib.hid hg1; clear hm1 hg1))
          go_roundw
          case rel => exact ⟨j + 1, by omega, by go_num, Lib.hid ⟨by rw [RL.out.1, ST.out, ← HX.out, HI.out, HE.out]; rfl, by rw [TK.out, ← HX.out]; exact HM1.out, RL.out.2.2.grown GB.out RL.out.2.2.size (fun g hg => by injection hg with hg; omega)⟩⟩
          case measure => simp [intOf]; omega
        · have G1 : Hid ((mget (seenB (l.take j)) x).getD (.bool false) = .bool true) := by show _ = _; rw [seenB_get, if_pos hi]; rfl
          have HI := Lib.hid hi
          clear hi
          go_wp2_with (at_lookup; refine wpl_map_get_g rfl _ _ rfl (Try.zeroValue4 _) mapStrBool rfl RL.out.2.1 x rfl OK.out _ G1.out ?_)
          go_ret
          refine ⟨congrArg Ending.returned (congrArg Value.bool ?_), RL.out.2.2⟩
          rw [RL.out.1, ST.out, ← HX.out, HI.out, HE.out]
          rfl
    · obtain rfl : j = l.length := by omega
      go_wp2_with fail
      go_ret
      refine ⟨congrArg Ending.returned (congrArg Value.bool ?_), RL.out.2.2⟩
      rw [RL.out.1, List.drop_length, unlF]

set_option maxRecDepth 100000 in
theorem implPrim (s : ByteArray) (w : World) : Calls Try.prog 228 #[.string s] w fun e w' => e = .returned (.int .i64 (primN s)) ∧ w' = w := by
  obtain ⟨R, hR⟩ : ∃ R, R = primN s := ⟨_, rfl⟩
  rw [← hR]
  have HR := Lib.hid hR
  clear hR
  go_enter Try.func228, Try.ntmps228
  go_wp2_with fail
  all_goals go_ret
  all_goals have hr := HR.out
  all_goals (simp_all [primN, primTwo, primOne]; done)

end Go.Proofs.Ythidbmjdphfddaa
