/- Great numbers without a fault in memory, and what the functions of great numbers do with them; no condition. -/
import Derived.Test.YtajmeeppigdjnaaPuBT
import Derived.Test.YtajmeeppigdjnaaDrawBT
import Derived.Test.YtajmeeppigdjnaaOBTm
namespace Go.Proofs.Ytajmeeppigdjnaa
open Go.RowKit Go.Proofs.Ytajmeeppigdjnaa.Own Go.Proofs.YtajmeeppigdjnaaW.PrintWords Go.Proofs.YtajmeeppigdjnaaW.PrintMore Go.Proofs.Ytajmeeppigdjnaa.PFnBigText
set_option linter.unusedVariables false
set_option linter.unusedSimpArgs false

/-- A number in memory. -/
structure Num (W : World) (m : Bool) (A : Option Addr) (l : List Int) (c : Nat) : Prop where
  row : Kd.C (Kd.int .u32) W A l.length l
  cap : l.length ≤ c
  good : Good m l
theorem Num.below {W W' : World} {m : Bool} {A : Option Addr} {l : List Int} {c : Nat} (h : Num W m A l c) (hb : Below W.heap.size W W') : Num W' m A l c := ⟨Kd.C_below h.row hb, h.cap, h.good⟩
theorem Num.len {W : World} {m : Bool} {A : Option Addr} {l : List Int} {c : Nat} (h : Num W m A l c) : l.length ≤ 40 := h.good.len
theorem num_of_R {W : World} {base e : Nat} {ok : Nat → Prop} {v : Value} {m : Bool} {l : List Int} (h : Kd.R (Kd.int .u32) e W base ok v l) (g : Good m l) : ∃ A c, v = .slice A l.length c ∧ Num W m A l c := by
  obtain ⟨A, c, rfl, h1, h2⟩ := Kd.R_reads h
  exact ⟨A, c, rfl, h2, h1, g⟩
theorem bgRes_good {z r : Int} {m : Bool} {l : List Int} (h : bgRes z = (r, m, l)) : Good m l := by
  by_cases hz : 40 < (lims z).length
  · rw [bgRes_over hz] at h
    cases h
    exact good_nil
  · rw [bgRes_fit (by omega)] at h
    cases h
    exact good_lims (by omega)
/-- An answer fits, or it is told that it does not. -/
theorem res_cases (z : Int) : (40 < (lims z).length ∧ bgRes z = (2, false, [])) ∨ ((lims z).length ≤ 40 ∧ ∃ m l, bgRes z = (0, m, l) ∧ Good m l ∧ big m l = z ∧ m = sgn z ∧ l = lims z) := by
  by_cases hz : 40 < (lims z).length
  · exact .inl ⟨hz, bgRes_over hz⟩
  · exact .inr ⟨by omega, sgn z, lims z, bgRes_fit (by omega), good_lims (by omega), big_lims z, rfl, rfl⟩

section
variable {W : World} {m m' m2 : Bool} {A A' : Option Addr} {l l' l2 : List Int} {c c' : Nat} {r : Int}
theorem ringAdd (h : Num W m A l c) (h' : Num W m' A' l' c') (hr : bgRes (big m l + big m' l') = (r, m2, l2)) :
    Calls Try.prog 37 #[.agg #[.bool m, .slice A l.length c], .agg #[.bool m', .slice A' l'.length c']] W fun e w' => ∃ A2 c2, e = .returned (.agg #[.int .i64 r, .bool m2, .slice A2 l2.length c2]) ∧ Num w' m2 A2 l2 c2 ∧ Below W.heap.size W w' := by
  obtain ⟨k, hk⟩ := (impl_BigAdd_is m m' l l' h.good.1 h'.good.1 (by have := h.len; omega) (by have := h'.len; omega)).rounds
  rw [bgAdd_good h.good h'.good, hr] at hk
  refine (impl_BigAdd.calls k m A c l m' A' c' l' r m2 l2 W h.row h.cap h'.row h'.cap hk).mono ?_
  rintro e w' ⟨v, rfl, hv, hb⟩
  obtain ⟨A2, c2, rfl, hn⟩ := num_of_R hv (bgRes_good hr)
  exact ⟨A2, c2, rfl, hn, hb⟩
theorem ringMul (h : Num W m A l c) (h' : Num W m' A' l' c') (hr : bgRes (big m l * big m' l') = (r, m2, l2)) :
    Calls Try.prog 30 #[.agg #[.bool m, .slice A l.length c], .agg #[.bool m', .slice A' l'.length c']] W fun e w' => ∃ A2 c2, e = .returned (.agg #[.int .i64 r, .bool m2, .slice A2 l2.length c2]) ∧ Num w' m2 A2 l2 c2 ∧ Below W.heap.size W w' := by
  have CT := implBigMul m m' l l' h.good.1 h'.good.1 (by have := h.len; omega) (by have := h'.len; omega) A A' c c' h.cap h'.cap W h.row h'.row
  rw [bgMul_good h.good h'.good, hr] at CT
  refine CT.mono ?_
  rintro e w' ⟨v, rfl, hv, hb⟩
  obtain ⟨A2, c2, rfl, hn⟩ := num_of_R hv (bgRes_good hr)
  exact ⟨A2, c2, rfl, hn, hb⟩
theorem ringFault (h : Num W m A l c) :
    Calls Try.prog 46 #[.agg #[.bool m, .slice A l.length c]] W fun e w' => e = .returned (.bool false) ∧ Below W.heap.size W w' := by
  have hk := impl_BigFault_is m l (by have := h.len; omega)
  rw [h.good.2] at hk
  exact impl_BigFault.calls m A c l _ W h.row h.cap hk
/-- A number is the same as itself. -/
theorem ringSame (h : Num W m A l c) (h' : Num W m A' l c') :
    Calls Try.prog 47 #[.agg #[.bool m, .slice A l.length c], .agg #[.bool m, .slice A' l.length c']] W fun e w' => e = .returned (.bool true) ∧ Below W.heap.size W w' := by
  obtain ⟨k, hk⟩ := (same_is m m l l h.good.1 h.good.1 (by have := h.len; omega) (by have := h.len; omega)).rounds
  rw [bgCmp_self h.good, h.good.2] at hk
  exact laws_lwSameBig.calls k m A c l m A' c' l _ W h.row h.cap h'.row h'.cap hk
end
/-- A variable that holds a number. -/
structure BigAt (W : World) (g : Nat) (m : Bool) (A : Option Addr) (l : List Int) (c : Nat) : Prop where
  blk : W.heap[g]? = some (.cells #[.bool m, .slice A l.length c] 24 (0, 0))
  num : Num W m A l c
/-- A variable that holds an answer. -/
structure ResAt (W : World) (g : Nat) (r : Int) (m : Bool) (A : Option Addr) (l : List Int) (c : Nat) : Prop where
  blk : W.heap[g]? = some (.cells #[.int .i64 r, .bool m, .slice A l.length c] 41 (0, 0))
  num : Num W m A l c
theorem run_field1 (r : Int) (m : Bool) (A : Option Addr) (n c : Nat) (W : World) : (Instr.field 41 (.agg #[.int .i64 r, .bool m, .slice A n c]) 1).run Try.prog W = .ok (.agg #[.bool m, .slice A n c]) W := by
  kernel_rfl
theorem below_old (W : World) (o : Obj) : Below W.heap.size W (W.alloc o) := (Below.refl W.heap.size W).alloc (Nat.le_refl _) o
section
variable {W W' : World} {g : Nat} {r : Int} {m : Bool} {A : Option Addr} {l : List Int} {c : Nat}
theorem BigAt.below (h : BigAt W g m A l c) (hb : Below W.heap.size W W') : BigAt W' g m A l c := ⟨blk_below h.blk hb, h.num.below hb⟩
theorem ResAt.below (h : ResAt W g r m A l c) (hb : Below W.heap.size W W') : ResAt W' g r m A l c := ⟨blk_below h.blk hb, h.num.below hb⟩
theorem BigAt.old (h : BigAt W g m A l c) (o : Obj) : BigAt (W.alloc o) g m A l c := h.below (below_old W o)
theorem ResAt.old (h : ResAt W g r m A l c) (o : Obj) : ResAt (W.alloc o) g r m A l c := h.below (below_old W o)
theorem BigAt.new (h : Num W m A l c) : BigAt (W.alloc (.cells #[.bool m, .slice A l.length c] 24)) W.heap.size m A l c := ⟨blk_new W _, h.below (below_old W _)⟩
theorem ResAt.new (r : Int) (h : Num W m A l c) : ResAt (W.alloc (.cells #[.int .i64 r, .bool m, .slice A l.length c] 41)) W.heap.size r m A l c := ⟨blk_new W _, h.below (below_old W _)⟩
theorem BigAt.c0 (h : BigAt W g m A l c) : W.cell? ⟨g, 0, none⟩ = some (.bool m) := (blk_cell h.blk 0).trans rfl
theorem BigAt.c1 (h : BigAt W g m A l c) : W.cell? ⟨g, 1, none⟩ = some (.slice A l.length c) := (blk_cell h.blk 1).trans rfl
theorem ResAt.c0 (h : ResAt W g r m A l c) : W.cell? ⟨g, 0, none⟩ = some (.int .i64 r) := (blk_cell h.blk 0).trans rfl
theorem ResAt.c1 (h : ResAt W g r m A l c) : W.cell? ⟨g, 1, none⟩ = some (.bool m) := (blk_cell h.blk 1).trans rfl
theorem ResAt.c2 (h : ResAt W g r m A l c) : W.cell? ⟨g, 2, none⟩ = some (.slice A l.length c) := (blk_cell h.blk 2).trans rfl
end

end Go.Proofs.Ytajmeeppigdjnaa
