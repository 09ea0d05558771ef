/- Texts of great numbers and small ones: the contracts of the functions over numbers without fault; no condition. -/
import Derived.Test.YtajmeeppigdjnaaRingB
import Derived.Test.YtajmeeppigdjnaaOBT
import Derived.Test.YtajmeeppigdjnaaOBof
namespace Go.Proofs.Ytajmeeppigdjnaa
open Go.RowKit Go.Proofs.Ytajmeeppigdjnaa.Own Go.Proofs.YtajmeeppigdjnaaW.PrintWords Go.Proofs.YtajmeeppigdjnaaW.PrintMore Go.Proofs.Ytajmeeppigdjnaa.PFnBigText
set_option linter.unusedVariables false
set_option linter.unusedSimpArgs false

theorem hm_dig {l : List UInt8} (h : 0 < l.length) (hx : l[0].toNat ≠ 45) : hm (strB l) = false := by
  have e := bt_strB (l := l) (i := 0) h
  unfold hm
  rw [show ((0 : Nat) : Int) = 0 from rfl] at e
  rw [e]
  have : (((l[0].toNat : Nat) : Int) == 45) = false := by simp; omega
  rw [this, Bool.and_false]
theorem hm_minus (l : List UInt8) : hm (strB (45 :: l)) = true := by
  have e := bt_strB (l := 45 :: l) (i := 0) (by simp)
  unfold hm
  rw [show ((0 : Nat) : Int) = 0 from rfl] at e
  rw [e, strB_size]
  simp
theorem tl_minus (l : List UInt8) : tl (strB (45 :: l)) = strB l := by
  unfold tl
  rw [if_pos (hm_minus l)]
  apply ByteArray.ext
  simp [strB, ByteArray.size]
theorem tl_dig {l : List UInt8} (h : 0 < l.length) (hx : l[0].toNat ≠ 45) : tl (strB l) = strB l := by
  unfold tl
  rw [hm_dig h hx]
  simp
theorem decD_first (n : Nat) (h : 0 < (decD n).length) : 48 ≤ (decD n)[0].toNat := (decD_digs n _ (List.getElem_mem h)).1
/-- A number's text, as a list. -/
def textL (m : Bool) (l : List Int) : List UInt8 := if m = true then 45 :: decD (val l).toNat else decD (val l).toNat
theorem bgText_L {m : Bool} {l : List Int} (g : Good m l) : bgText m l = strB (textL m l) := by
  unfold bgText textL bgDec
  rw [g.2]
  cases m with
  | false => rfl
  | true => exact (strB_append [45] _).symm
theorem textL_pos (m : Bool) (l : List Int) : 0 < (textL m l).length := by
  have := decD_pos (val l).toNat
  unfold textL
  split <;> simp <;> omega
theorem text_read {m : Bool} {l : List Int} (g : Good m l) : readR (hm (bgText m l)) (tl (bgText m l)) = (0, m, l) := by
  rw [bgText_L g, ← bgRes_big g]
  have h0 := val_nonneg g.1
  have hz : (val l).toNat = 0 → m = false := fun h => by
    refine (bgFault_no g.2).2.2 ?_
    refine Classical.byContradiction fun hl => ?_
    have := g.pos hl
    omega
  have hr := readR_dec m (val l).toNat hz
  unfold textL big
  cases m with
  | false =>
    have hp := decD_pos (val l).toNat
    have hx := decD_first (val l).toNat hp
    simp only [Bool.false_eq_true, if_false] at hr ⊢
    rw [hm_dig hp (by omega), tl_dig hp (by omega), hr, Int.toNat_of_nonneg h0]
  | true =>
    simp only [if_true] at hr ⊢
    rw [hm_minus, tl_minus, hr, Int.toNat_of_nonneg h0]
theorem text_nought {m : Bool} {l : List Int} (g : Good m l) : readR (hm ((⟨#[48]⟩ : ByteArray) ++ bgText m l)) (tl ((⟨#[48]⟩ : ByteArray) ++ bgText m l)) = (1, false, []) := by
  rw [bgText_L g, show (⟨#[48]⟩ : ByteArray) = strB [48] from rfl, ← strB_append]
  have hx : (([48] ++ textL m l)[0]'(by simp)).toNat ≠ 45 := by simp
  rw [hm_dig (l := [48] ++ textL m l) (by simp) hx, tl_dig (l := [48] ++ textL m l) (by simp) hx]
  exact readR_nought false _ (textL_pos m l)
theorem text_blank {m : Bool} {l : List Int} (g : Good m l) : readR (hm (bgText m l ++ (⟨#[32]⟩ : ByteArray))) (tl (bgText m l ++ (⟨#[32]⟩ : ByteArray))) = (1, false, []) := by
  rw [bgText_L g, show (⟨#[32]⟩ : ByteArray) = strB [32] from rfl, ← strB_append]
  unfold textL
  cases m with
  | false =>
    have hp := decD_pos (val l).toNat
    have hx := decD_first (val l).toNat hp
    simp only [Bool.false_eq_true, if_false]
    have hx2 : ((decD (val l).toNat ++ [32])[0]'(by simp)).toNat ≠ 45 := by rw [List.getElem_append_left hp]; omega
    rw [hm_dig (by simp) hx2, tl_dig (by simp) hx2]
    exact readR_blank false _
  | true =>
    simp only [if_true]
    rw [List.cons_append, hm_minus, tl_minus]
    exact readR_blank true _
theorem text_size {m : Bool} {l : List Int} (g : Good m l) : (bgText m l).size ≤ 401 := by
  have h0 := val_nonneg g.1
  have hlt : val l < PW 40 := by have h1 := val_lt g.1; have h2 := PW_mono g.len; omega
  have := decD_len40 (n := (val l).toNat) (by omega)
  rw [bgText_L g, strB_size]
  unfold textL
  split <;> simp <;> omega
theorem text_ne {m : Bool} {l : List Int} (g : Good m l) : 0 < (bgText m l).size := by rw [bgText_L g, strB_size]; exact textL_pos m l
theorem readR_good {m m2 : Bool} {t : ByteArray} {r : Int} {l2 : List Int} (h : readR m t = (r, m2, l2)) : Good m2 l2 := by
  unfold readR at h
  split at h
  · cases h; exact good_nil
  · exact bgRes_good h
/-- Small numbers. -/
theorem small_big {m : Bool} {l : List Int} {v : Int} (g : Good m l) (h : bgSmall m l = (true, v)) : v = big m l ∧ -9223372036854775808 ≤ v ∧ v < 9223372036854775808 := by
  have h0 := val_nonneg g.1
  unfold bgSmall at h
  rw [g.2] at h
  split at h
  · cases h
  · unfold smallOf at h
    unfold big
    cases m with
    | false =>
      simp only [Bool.false_eq_true, if_false] at h ⊢
      split at h
      · rw [w64_in (by omega) (by omega)] at h
        cases h
        exact ⟨rfl, by omega, by omega⟩
      · cases h
    | true =>
      simp only [if_true] at h ⊢
      split at h
      · rename_i hv
        have e : wrap64 (IntKind.u64.wrap (-val l)) = -val l := by
          simp [IntKind.wrap, IntKind.signed, IntKind.bits, wrap64]
          omega
        rw [e] at h
        cases h
        exact ⟨rfl, by omega, by omega⟩
      · cases h
theorem lims_two {z : Int} (h1 : -18446744073709551616 < z) (h2 : z < 18446744073709551616) : (lims z).length ≤ 2 := by
  unfold lims
  exact lim_len_le (n := 2) (by split <;> omega) (by simp only [PW]; split <;> omega)
theorem small_lims {z : Int} (h1 : -9223372036854775808 < z) (h2 : z < 9223372036854775808) : bgSmall (sgn z) (lims z) = (true, z) := by
  have hl := lims_two (z := z) (by omega) (by omega)
  have g := good_lims (z := z) (by omega)
  unfold bgSmall
  rw [g.2, if_neg (by simp; omega)]
  unfold smallOf sgn lims
  by_cases hz : z < 0
  · rw [decide_eq_true hz, if_pos rfl, if_pos hz, val_lim (by omega), if_pos (by omega)]
    congr 1
    simp [IntKind.wrap, IntKind.signed, IntKind.bits, wrap64]
    omega
  · rw [decide_eq_false hz, if_neg (by decide), if_neg hz, val_lim (by omega), if_pos (by omega), w64_in (by omega) (by omega)]
theorem small_res {z : Int} (h1 : -18446744073709551616 < z) (h2 : z < 18446744073709551616) : bgRes z = (0, sgn z, lims z) := bgRes_fit (by have := lims_two h1 h2; omega)
theorem prod_small {x y : Int} (x0 : -50000 ≤ x) (x1 : x ≤ 50000) (y0 : -50000 ≤ y) (y1 : y ≤ 50000) : -2500000000 ≤ x * y ∧ x * y ≤ 2500000000 := by
  have h1 : 0 ≤ (50000 - x) * (50000 + y) := Int.mul_nonneg (by omega) (by omega)
  have h2 : 0 ≤ (50000 + x) * (50000 - y) := Int.mul_nonneg (by omega) (by omega)
  have h3 : 0 ≤ (50000 - x) * (50000 - y) := Int.mul_nonneg (by omega) (by omega)
  have h4 : 0 ≤ (50000 + x) * (50000 + y) := Int.mul_nonneg (by omega) (by omega)
  simp only [Int.sub_mul, Int.add_mul, Int.mul_sub, Int.mul_add] at h1 h2 h3 h4
  omega
theorem run_fieldS (b : Bool) (v : Int) (W : World) : (Instr.field 32 (.agg #[.bool b, .int .i64 v]) 0).run Try.prog W = .ok (.bool b) W := by
  kernel_rfl
theorem i64_in {x : Int} (h : -9223372036854775808 ≤ x) (h2 : x ≤ 9223372036854775807) : IntKind.i64.wrap x = x := by
  simp [IntKind.wrap, IntKind.signed, IntKind.bits]
  omega
theorem run_field0 (r : Int) (m : Bool) (A : Option Addr) (n c : Nat) (W : World) : (Instr.field 41 (.agg #[.int .i64 r, .bool m, .slice A n c]) 0).run Try.prog W = .ok (.int .i64 r) W := by
  kernel_rfl

section
variable {W : World} {m m' m2 : Bool} {A A' : Option Addr} {l l' l2 : List Int} {c c' : Nat} {r : Int}
theorem ringText (h : Num W m A l c) :
    Calls Try.prog 28 #[.agg #[.bool m, .slice A l.length c]] W fun e w' => e = .returned (.string (bgText m l)) ∧ Below W.heap.size W w' :=
  implBigText m l h.good.1 (by have := h.len; omega) A c h.cap W h.row
theorem ringRead (W : World) (a : ByteArray) (hsz : a.size ≤ 1048576) (hr : readR (hm a) (tl a) = (r, m2, l2)) :
    Calls Try.prog 35 #[.string a] W fun e w' => ∃ A2 c2, e = .returned (.agg #[.int .i64 r, .bool m2, .slice A2 l2.length c2]) ∧ Num w' m2 A2 l2 c2 ∧ Below W.heap.size W w' := by
  obtain ⟨k, hk⟩ := (impl_BigRead_is a hsz).rounds
  rw [hr] at hk
  refine (impl_BigRead.calls k a r m2 l2 W hk).mono ?_
  rintro e w' ⟨v, rfl, hv, hb⟩
  obtain ⟨A2, c2, rfl, hn⟩ := num_of_R hv (readR_good hr)
  exact ⟨A2, c2, rfl, hn, hb⟩
theorem ringOf (W : World) (v : Int) (h1 : -9223372036854775808 ≤ v) (h2 : v < 9223372036854775808) :
    Calls Try.prog 16 #[.int .i64 v] W fun e w' => ∃ A2 c2, e = .returned (.agg #[.bool (sgn v), .slice A2 (lims v).length c2]) ∧ Num w' (sgn v) A2 (lims v) c2 ∧ Below W.heap.size W w' := by
  refine (implBigOf v h1 h2 W).mono ?_
  rintro e w' ⟨u, rfl, hv, hb⟩
  obtain ⟨A2, c2, rfl, hn⟩ := num_of_R hv (good_lims (by have := lims_two (z := v) (by omega) (by omega); omega))
  exact ⟨A2, c2, rfl, hn, hb⟩
theorem ringSmall (h : Num W m A l c) :
    Calls Try.prog 23 #[.agg #[.bool m, .slice A l.length c]] W fun e w' => e = .returned (.agg #[.bool (bgSmall m l).1, .int .i64 (bgSmall m l).2]) ∧ Below W.heap.size W w' := by
  obtain ⟨k, hk⟩ := (impl_BigSmall_is m l h.good.1 (by have := h.len; omega)).rounds
  exact impl_BigSmall.calls k m A c l _ _ W h.row h.cap hk
theorem ringSmallS (h : Num W m A l c) :
    Calls Try.prog 21 #[.agg #[.bool m, .slice A l.length c]] W fun e w' => e = .returned (.agg #[.bool (bgSmall m l).1, .int .i64 (bgSmall m l).2]) ∧ Below W.heap.size W w' := by
  obtain ⟨k, hk⟩ := (spec_BigSmall_is m l h.good.1 (by have := h.len; omega)).rounds
  exact spec_BigSmall.calls k m A c l _ _ W h.row h.cap hk
end

theorem ringSmallV {W : World} {m : Bool} {A : Option Addr} {l : List Int} {c : Nat} {b : Bool} {v : Int} (h : Num W m A l c) (hv : bgSmall m l = (b, v)) :
    Calls Try.prog 23 #[.agg #[.bool m, .slice A l.length c]] W fun e w' => e = .returned (.agg #[.bool b, .int .i64 v]) ∧ Below W.heap.size W w' := by
  have := ringSmall h
  rw [hv] at this
  exact this
theorem ringSmallSV {W : World} {m : Bool} {A : Option Addr} {l : List Int} {c : Nat} {b : Bool} {v : Int} (h : Num W m A l c) (hv : bgSmall m l = (b, v)) :
    Calls Try.prog 21 #[.agg #[.bool m, .slice A l.length c]] W fun e w' => e = .returned (.agg #[.bool b, .int .i64 v]) ∧ Below W.heap.size W w' := by
  have := ringSmallS h
  rw [hv] at this
  exact this
/-- A variable that holds what is told of a number's smallness. -/
structure SmallAt (W : World) (g : Nat) (b : Bool) (v : Int) : Prop where
  blk : W.heap[g]? = some (.cells #[.bool b, .int .i64 v] 32 (0, 0))
section
variable {W W' : World} {g : Nat} {b : Bool} {v : Int}
theorem SmallAt.below (h : SmallAt W g b v) (hb : Below W.heap.size W W') : SmallAt W' g b v := ⟨blk_below h.blk hb⟩
theorem SmallAt.old (h : SmallAt W g b v) (o : Obj) : SmallAt (W.alloc o) g b v := h.below (below_old W o)
theorem SmallAt.new (W : World) (b : Bool) (v : Int) : SmallAt (W.alloc (.cells #[.bool b, .int .i64 v] 32)) W.heap.size b v := ⟨blk_new W _⟩
theorem SmallAt.c0 (h : SmallAt W g b v) : W.cell? ⟨g, 0, none⟩ = some (.bool b) := (blk_cell h.blk 0).trans rfl
theorem SmallAt.c1 (h : SmallAt W g b v) : W.cell? ⟨g, 1, none⟩ = some (.int .i64 v) := (blk_cell h.blk 1).trans rfl
end

end Go.Proofs.Ytajmeeppigdjnaa
