/- Bytes gathered in a row of this call's own; the reference's spelling of a text between marks; no condition. -/
import Derived.Test.YtifmnijdaboenaaDoorLxD
import Derived.Test.YtifmnijdaboenaaDoorLexT
import Derived.Lib.AppendStr
import Derived.Lib.UnsafeStr
namespace Go.Proofs.YtifmnijdaboenaaDoor
open Go.RowKit
set_option linter.unusedVariables false
set_option linter.unusedSimpArgs false

/-- Bytes in an own row. -/
structure By (B : Nat) (w0 w : World) (v : Value) (l : List UInt8) : Prop where
  below : Below B w0 w
  row : w.ownsRow B 5 1 v l.length (Lib.byteCells l)
theorem bD_fieldsOf (w : World) : ∀ (l : List UInt8), D.Fields w (bD l) (Lib.byteCells l) []
  | [] => by simp [bD, Lib.byteCells, D.Fields]
  | c :: l => by
    have ih := bD_fieldsOf w l
    simp only [bD, Lib.byteCells, List.map_cons, D.Fields] at ih ⊢
    exact ⟨[.int .u8 c.toNat], _, [], [], rfl, rfl, ⟨rfl, rfl⟩, ih⟩
theorem By.grow {B : Nat} {w0 w : World} {v : Value} {l : List UInt8} (h : By B w0 w v l) : Grow B w v 5 1 (bD l) := by
  refine ⟨Lib.byteCells l, [], by rw [bD_len]; exact h.row, bD_fieldsOf w l, fun y hy => ?_, ?_⟩
  · obtain ⟨s, _, rfl⟩ := List.mem_map.1 hy
    rfl
  · rw [List.append_nil]
    refine ⟨by cases v.ownBlock <;> simp, fun k hk => ?_⟩
    have hk' : v.ownBlock = some k := by simpa using hk
    obtain ⟨h1, cur, h2⟩ := ownsRow_block h.row hk'
    exact ⟨h1, cur, _, h2⟩
theorem By.conv {B : Nat} {w0 w : World} {v : Value} {l : List UInt8} (h : By B w0 w v l) : (convert 54 9 v).run Tryd.prog w = .ok (.string ⟨l.toArray⟩) w := run_conv h.grow (Below.refl _ _)
theorem byteCells_one (l : List UInt8) : ∀ u ∈ Lib.byteCells l, u.oneCell' = true := by
  intro u hu
  obtain ⟨s, _, rfl⟩ := List.mem_map.1 hu
  rfl
theorem by_new (w : World) (l : List UInt8) (hl : l.length ≤ maxLen) : By w.heap.size w (w.alloc (.cells (Lib.byteCells l).toArray 5)) (.slice (some ⟨w.heap.size, 0, none⟩) l.length l.length) l := by
  have e1 : (Lib.byteCells l).toArray.size = l.length := by simp [Lib.byteCells_length]
  refine ⟨below_alloc1 _ _, by rw [Lib.byteCells_length]; simp, .inr ⟨w.heap.size, l.length, _, rfl, Nat.le_refl _, blk_new w _, Nat.le_refl _, hl, by rw [e1]; simp, ?_⟩⟩
  rw [Nat.mul_one]
  show (Lib.byteCells l).take l.length = _
  rw [List.take_of_length_le (by rw [Lib.byteCells_length]; exact Nat.le_refl _)]
/-- A new slice of bytes is appended. -/
theorem wpl_by {ops : Array Oper} {rest : List Oper} {o : Oper} {a : Act} {w0 w : World} {Q : Exit → Act → World → Prop} (hgd : o.guard = none) (s x : Operand)
    (ho : o.op = .call { callee := .builtin .append, args := #[s, x], argTypes := #[54, 54] })
    (B : Nat) (v : Value) (l : List UInt8) (hs : a.eval s = v) (hv : By B w0 w v l) (hB : B ≤ w0.heap.size) (m : List UInt8) (c : Nat)
    (hx : a.eval x = .slice (some ⟨w.heap.size, 0, none⟩) m.length c) (hlen : l.length + m.length ≤ 140737488355328)
    {cs : Array Value} (hcs : cs = (Lib.byteCells m).toArray)
    (h : ∀ v' w', By B w0 w' v' (l ++ m) → wpList Tryd.prog ops Q rest (a.put o.dst v') w') :
    wpList Tryd.prog ops Q (o :: rest) a (w.alloc (.cells cs 5)) := by
  subst hcs
  have hBw : B ≤ w.heap.size := Nat.le_trans hB hv.below.size
  have hb : Below w.heap.size w (w.alloc (.cells (Lib.byteCells m).toArray 5)) := below_alloc1 _ _
  have hrow := hv.row.kept (grownBy_below hb none) (by cases v.ownBlock <;> simp)
  obtain ⟨i0, hi, hz0, hz1, hz2⟩ := info_parts infoU8
  have hnews : ∀ j u, (Lib.byteCells m)[j]? = some u → (w.alloc (.cells (Lib.byteCells m).toArray 5)).cell? ((⟨w.heap.size, 0, none⟩ : Addr).add j) = some u := fun j u hu => by
    have := cellsAt_new w (Lib.byteCells m) 5 j u hu
    unfold Addr.add
    by_cases hj : j = 0
    · subst hj; simpa using this
    · simpa [hj] using this
  obtain ⟨v', w', hr, q1, q2, q3⟩ := run_append_own (P := Tryd.prog) (w.alloc (.cells (Lib.byteCells m).toArray 5)) B 54 o.type 5 i0 (.int .u8 0) 1 1 Tryd.underlying54 hi hz0 hz1 hz2 rfl (by decide) v l.length (Lib.byteCells l) hrow ⟨w.heap.size, 0, none⟩ m.length c (Lib.byteCells m) (by rw [Lib.byteCells_length]; simp) hnews (byteCells_one m) (by simp only [maxLen]; omega) (by omega) (by simp; omega)
  refine wpList_plain hgd fun K hK => ?_
  unfold Oper.wp execOp
  simp only [ho, resolve, invoke, builtin, Sem.run_bind, Sem.run_pure, Result.andThen_ok, List.map_toArray, List.map_cons, List.map_nil, hs, hx, hr]
  refine hK _ _ (h v' w' ⟨?_, ?_⟩)
  · exact (hv.below.alloc hBw _).grown q2 (by simp; omega) fun q hq => (ownsRow_block hv.row hq).1
  · rw [List.length_append, Lib.byteCells_append]; exact q1
/-- A text's bytes are appended. -/
theorem wpl_byS {ops : Array Oper} {rest : List Oper} {o : Oper} {a : Act} {w0 w : World} {Q : Exit → Act → World → Prop} (hgd : o.guard = none) (s x : Operand)
    (ho : o.op = .call { callee := .builtin .append, args := #[s, x], argTypes := #[54, 9] })
    (B : Nat) (v : Value) (l : List UInt8) (hs : a.eval s = v) (hv : By B w0 w v l) (hB : B ≤ w0.heap.size) (y : ByteArray)
    (hx : a.eval x = .string y) (hlen : l.length + y.size ≤ 140737488355328)
    (h : ∀ v' w', By B w0 w' v' (l ++ y.data.toList) → wpList Tryd.prog ops Q rest (a.put o.dst v') w') :
    wpList Tryd.prog ops Q (o :: rest) a w := by
  have hBw : B ≤ w.heap.size := Nat.le_trans hB hv.below.size
  obtain ⟨i0, hi, hz0, hz1, hz2⟩ := info_parts infoU8
  obtain ⟨v', w', hr, q1, q2, q3⟩ := Lib.run_append_own_string (P := Tryd.prog) w B 54 9 o.type 5 i0 Tryd.underlying54 Tryd.underlying9 hi hz0 hz1 hz2 v l.length (Lib.byteCells l) hv.row y (by simp only [maxLen]; omega) (by omega) hBw
  refine wpList_plain hgd fun K hK => ?_
  unfold Oper.wp execOp
  simp only [ho, resolve, invoke, builtin, Sem.run_bind, Sem.run_pure, Result.andThen_ok, List.map_toArray, List.map_cons, List.map_nil, hs, hx, hr]
  refine hK _ _ (h v' w' ⟨?_, ?_⟩)
  · exact hv.below.grown q2 hBw fun q hq => (ownsRow_block hv.row hq).1
  · rw [List.length_append, size_data, Lib.byteCells_append]; exact q1

def escP (m : UInt8) (t : ByteArray) (j : Nat) : List UInt8 := m :: (t.data.toList.take j).flatMap (esc1 m)
theorem escP_zero (m : UInt8) (t : ByteArray) : escP m t 0 = [m] := rfl
theorem get_list {t : ByteArray} {j : Nat} (h : j < t.size) : t.data.toList[j]? = some (t[j]'h) := by
  rw [List.getElem?_eq_getElem (show j < t.data.toList.length from h)]
  rfl
theorem escP_succ (m : UInt8) (t : ByteArray) (j : Nat) (h : j < t.size) : escP m t (j + 1) = escP m t j ++ esc1 m (t[j]'h) := by
  unfold escP
  rw [List.take_add_one, get_list h]
  simp
theorem escP_all (m : UInt8) (t : ByteArray) (j : Nat) (h : ¬ j < t.size) : escP m t j ++ [m] = escL m t.data.toList := by
  unfold escP escL
  rw [List.take_of_length_le (by rw [size_data]; omega)]
  simp
theorem esc1_len (m c : UInt8) : (esc1 m c).length ≤ 2 := by
  unfold esc1; split <;> (try split) <;> simp
theorem flat_len (m : UInt8) : ∀ (l : List UInt8), (l.flatMap (esc1 m)).length ≤ 2 * l.length
  | [] => by simp
  | c :: l => by
    have := flat_len m l
    have h2 := esc1_len m c
    simp only [List.flatMap_cons, List.length_append, List.length_cons]
    omega
theorem escP_len (m : UInt8) (t : ByteArray) (j : Nat) : (escP m t j).length ≤ 2 * t.size + 1 := by
  have := flat_len m (t.data.toList.take j)
  have h2 : (t.data.toList.take j).length ≤ t.size := by rw [List.length_take, size_data]; omega
  unfold escP
  rw [List.length_cons]
  omega
theorem u8_lit {c : UInt8} {n : Int} (k : Nat) (hk : k < 256) (h : ((c.toNat : Nat) : Int) = n) (hn : n = k) : c = UInt8.ofNat k := by
  subst hn
  exact (u8_eq hk).1 h
theorem esc1_ten (m : UInt8) {t : ByteArray} {j : Nat} (h : j < t.size) (hc : cb t j = 10) : esc1 m (t[j]'h) = [92, 110] := by
  have : (t[j]'h) = 10 := u8_lit 10 (by decide) ((cb_at h).trans hc) rfl
  rw [this]; rfl
theorem esc1_two (m : UInt8) {t : ByteArray} {j : Nat} (h : j < t.size) (h1 : ¬ cb t j = 10) (h2 : cb t j = 92 ∨ cb t j = (m.toNat : Int)) : esc1 m (t[j]'h) = [92, t[j]'h] := by
  unfold esc1
  rw [if_neg (fun e => h1 ((cb_at h).symm.trans (by rw [e]; rfl))), if_pos]
  rcases h2 with h2 | h2
  · exact .inl (u8_lit 92 (by decide) ((cb_at h).trans h2) rfl)
  · refine .inr ?_
    have h3 := (cb_at h).trans h2
    exact UInt8.toNat_inj.1 (by omega)
theorem esc1_one (m : UInt8) {t : ByteArray} {j : Nat} (h : j < t.size) (h1 : ¬ cb t j = 10) (h2 : ¬ cb t j = 92) (h3 : ¬ cb t j = (m.toNat : Int)) : esc1 m (t[j]'h) = [t[j]'h] := by
  unfold esc1
  rw [if_neg (fun e => h1 ((cb_at h).symm.trans (by rw [e]; rfl))), if_neg]
  rintro (e | e)
  · exact h2 ((cb_at h).symm.trans (by rw [e]; rfl))
  · exact h3 ((cb_at h).symm.trans (by rw [e]))

set_option maxRecDepth 100000 in
set_option maxHeartbeats 2000000 in
theorem specBytes (t : ByteArray) (ht : t.size ≤ 1048576) (w : World) :
    Calls Tryd.prog 29 #[.string t] w fun e w' => e = .returned (.bool (okB t.data.toList)) ∧ w' = w := by
  have OKS : Hid (∀ j (h : j < t.size), okB (t.data.toList.drop j) = (okC (t[j]'h) && okB (t.data.toList.drop (j + 1)))) := fun j h => by
    rw [List.drop_eq_getElem_cons (show j < t.data.toList.length from h)]
    rfl
  have OKE : Hid (∀ j, ¬ j < t.size → okB (t.data.toList.drop j) = true) := fun j h => by
    rw [List.drop_of_length_le (by rw [size_data]; omega)]
    rfl
  go_enter Tryd.func29, Tryd.ntmps29
  go_wp2
  go_loop [3] (fun i => ∃ j : Nat, i = .int .i64 j ∧ j ≤ t.size ∧ Hid (okB t.data.toList = okB (t.data.toList.drop j))) (fun i => t.size - (intOf i).toNat)
  case atStart => exact ⟨0, rfl, Nat.zero_le _, Lib.hid rfl⟩
  case round =>
    obtain ⟨j, rfl, hj, hrel⟩ := hrel
    have HR := Lib.hid hrel.out
    clear hrel
    by_cases hlt : j < t.size
    · have hc := cb_at hlt
      have hwj : IntKind.i64.wrap ((j : Int) + 1) = (j : Int) + 1 := i64_in (by omega) (by omega)
      have HC : Hid (okC (t[j]'hlt) = (decide (cb t j = 10) || (decide (32 ≤ cb t j) && decide (cb t j ≤ 126)))) := by
        show _ = _
        rw [← hc, Bool.eq_iff_iff]
        simp only [okC, Bool.or_eq_true, Bool.and_eq_true, decide_eq_true_eq, beq_iff_eq]
        have h10 : (t[j]'hlt) = 10 ↔ (((t[j]'hlt).toNat : Nat) : Int) = 10 := ⟨fun e => by rw [e]; rfl, fun e => u8_lit 10 (by decide) e rfl⟩
        rw [h10]
        omega
      have HS := Lib.hid (HR.out.trans (OKS.out j hlt))
      clear hc
      have hc := cb_at hlt
      by_cases h10 : cb t j = 10
      · go_wp2
        go_roundw
        case rel => exact ⟨j + 1, by go_num, by omega, Lib.hid (by have h1 := HS.out; have h2 := HC.out; rw [h2] at h1; simpa [h10] using h1)⟩
        case measure => simp [intOf]; omega
      · by_cases h32 : cb t j < 32
        · go_wp2
          go_ret
          exact ⟨ret_bool (by have h1 := HS.out; have h2 := HC.out; rw [h2] at h1; simp [h10, show ¬ 32 ≤ cb t j by omega] at h1; simp [h1]), rfl⟩
        · by_cases h126 : 126 < cb t j
          · go_wp2
            go_ret
            exact ⟨ret_bool (by have h1 := HS.out; have h2 := HC.out; rw [h2] at h1; simp [h10, show ¬ cb t j ≤ 126 by omega] at h1; simp [h1]), rfl⟩
          · go_wp2
            go_roundw
            case rel => exact ⟨j + 1, by go_num, by omega, Lib.hid (by have h1 := HS.out; have h2 := HC.out; rw [h2] at h1; simpa [h10, show 32 ≤ cb t j by omega, show cb t j ≤ 126 by omega] using h1)⟩
            case measure => simp [intOf]; omega
    · have HE := Lib.hid (HR.out.trans (OKE.out j hlt))
      go_wp2
      go_ret
      exact ⟨ret_bool (by simp [HE.out]), rfl⟩

set_option maxRecDepth 100000 in
set_option maxHeartbeats 4000000 in
theorem specEscape (t : ByteArray) (ht : t.size ≤ 1048576) (m : UInt8) (w : World) :
    Calls Tryd.prog 65 #[.string t, .int .u8 m.toNat] w fun e w' => e = .returned (.string ⟨(escL m t.data.toList).toArray⟩) ∧ Below w.heap.size w w' := by
  have B0 : Hid (By w.heap.size w (w.alloc (.cells #[.int .u8 m.toNat] 5)) (.slice (some ⟨w.heap.size, 0, none⟩) 1 1) (escP m t 0)) := by_new w [m] (by simp [maxLen])
  obtain ⟨mi, hmi⟩ : ∃ mi : Int, mi = (m.toNat : Int) := ⟨_, rfl⟩
  have HM := Lib.hid hmi
  rw [← hmi] at B0 ⊢
  clear hmi
  go_enter Tryd.func65, Tryd.ntmps65
  go_wp2_with fail
  go_loopw [5, 6] (fun o i wr => ∃ j : Nat, i = .int .i64 j ∧ j ≤ t.size ∧ Hid (By w.heap.size w wr o (escP m t j))) (fun _ i _ => t.size - (intOf i).toNat)
  case atStart => exact ⟨0, rfl, Nat.zero_le _, B0⟩
  case round =>
    obtain ⟨j, rfl, hj, hb⟩ := hrel
    clear B0
    have HL := Lib.hid (escP_len m t j)
    by_cases hlt : j < t.size
    · have hc := cb_at hlt
      have hwj : IntKind.i64.wrap ((j : Int) + 1) = (j : Int) + 1 := i64_in (by omega) (by omega)
      have HS := Lib.hid (escP_succ m t j hlt)
      by_cases h10 : cb t j = 10
      · have HE := Lib.hid (HS.out.trans (by rw [esc1_ten m hlt h10]))
        go_wp2_with (at_builtin; refine wpl_by rfl _ _ rfl w.heap.size _ _ rfl hb.out (Nat.le_refl _) [92, 110] _ rfl (by have := HL.out; simp; omega) rfl ?_; intro v' w2 hb2; have HB2 := Lib.hid hb2; clear hb2; rw [← HE.out] at HB2)
        go_roundw
        case rel => exact ⟨j + 1, by go_num, by omega, HB2⟩
        case measure => simp [intOf]; omega
      · by_cases h92 : cb t j = 92 ∨ cb t j = mi
        · have HE := Lib.hid (HS.out.trans (by rw [esc1_two m hlt h10 (by rw [← HM.out]; exact h92)]))
          have CE : Hid ((#[.int .u8 92, .int .u8 (cb t j)] : Array Value) = (Lib.byteCells [92, t[j]'hlt]).toArray) := by
            show _ = _
            rw [← hc]; rfl
          rcases (show cb t j = 92 ∨ (¬ cb t j = 92 ∧ cb t j = mi) by omega) with h92 | ⟨h92, hm⟩
          · go_wp2_with (at_builtin; refine wpl_by rfl _ _ rfl w.heap.size _ _ rfl hb.out (Nat.le_refl _) [92, t[j]'hlt] _ rfl (by have := HL.out; simp; omega) (by have := CE.out; rw [h92] at this; exact this) ?_; intro v' w2 hb2; have HB2 := Lib.hid hb2; clear hb2; rw [← HE.out] at HB2)
            go_roundw
            case rel => exact ⟨j + 1, by go_num, by omega, HB2⟩
            case measure => simp [intOf]; omega
          · have b1 : (cb t j == 92) = false := by simpa using h92
            go_wp2_with (at_builtin; refine wpl_by rfl _ _ rfl w.heap.size _ _ rfl hb.out (Nat.le_refl _) [92, t[j]'hlt] _ rfl (by have := HL.out; simp; omega) (by have := CE.out; rw [hm] at this; exact this) ?_; intro v' w2 hb2; have HB2 := Lib.hid hb2; clear hb2; rw [← HE.out] at HB2)
            go_roundw
            case rel => exact ⟨j + 1, by go_num, by omega, HB2⟩
            case measure => simp [intOf]; omega
        · have h1 : ¬ cb t j = 92 := fun h => h92 (.inl h)
          have h2 : ¬ cb t j = mi := fun h => h92 (.inr h)
          clear h92
          have b1 : (cb t j == 92) = false := by simpa using h1
          have b2 : (cb t j == mi) = false := by simpa using h2
          have CE : Hid ((#[.int .u8 (cb t j)] : Array Value) = (Lib.byteCells [t[j]'hlt]).toArray) := by
            show _ = _
            rw [← hc]; rfl
          have HE := Lib.hid (HS.out.trans (by rw [esc1_one m hlt h10 h1 (by rw [← HM.out]; exact h2)]))
          go_wp2_with (at_builtin; refine wpl_by rfl _ _ rfl w.heap.size _ _ rfl hb.out (Nat.le_refl _) [t[j]'hlt] _ rfl (by have := HL.out; simp; omega) CE.out ?_; intro v' w2 hb2; have HB2 := Lib.hid hb2; clear hb2; rw [← HE.out] at HB2)
          go_roundw
          case rel => exact ⟨j + 1, by go_num, by omega, HB2⟩
          case measure => simp [intOf]; omega
    · have HE := Lib.hid (escP_all m t j hlt)
      go_wp2_with (at_builtin; refine wpl_by rfl _ _ rfl w.heap.size _ _ rfl hb.out (Nat.le_refl _) [m] _ rfl (by have := HL.out; simp; omega) (by rw [HM.out]; rfl) ?_; intro v' w2 hb2; have hcv := hb2.conv; rw [HE.out] at hcv; have HB2 := Lib.hid hb2.below; clear hb2)
      go_ret
      exact ⟨rfl, HB2.out⟩

end Go.Proofs.YtifmnijdaboenaaDoor
