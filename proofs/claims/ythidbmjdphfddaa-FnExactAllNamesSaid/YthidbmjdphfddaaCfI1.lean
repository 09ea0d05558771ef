/- The program's shape of a core term: the small methods, 'unlike', 'PrimCount'; no condition. -/
import Derived.Test.YthidbmjdphfddaaCfS6
import Derived.Test.YthidbmjdphfddaaSet
import Derived.Laws.EntriesVeiled
namespace Go.Proofs.Ythidbmjdphfddaa
open Go Go.RowKit
set_option linter.unusedVariables false
set_option linter.unusedSimpArgs false

/-- A term's cells as they lie at an address, in all worlds that have grown out of W0. -/
structure At (W0 : World) (b off : Nat) (k : Int) (n : ByteArray) (m : Bool) (nl nn nk nq : Nat) (AL AN AK AA : Option Addr) (cL cN cK cA : Nat) : Prop where
  c0 : ∀ w', Below W0.heap.size W0 w' → w'.cell? ⟨b, off, none⟩ = some (.int .i64 k)
  c1 : ∀ w', Below W0.heap.size W0 w' → w'.cell? ⟨b, off + 1, none⟩ = some (.string n)
  c2 : ∀ w', Below W0.heap.size W0 w' → w'.cell? ⟨b, off + 2, none⟩ = some (.bool m)
  c3 : ∀ w', Below W0.heap.size W0 w' → w'.cell? ⟨b, off + 3, none⟩ = some (.slice AL nl cL)
  c4 : ∀ w', Below W0.heap.size W0 w' → w'.cell? ⟨b, off + 4, none⟩ = some (.slice AN nn cN)
  c5 : ∀ w', Below W0.heap.size W0 w' → w'.cell? ⟨b, off + 5, none⟩ = some (.slice AK nk cK)
  c6 : ∀ w', Below W0.heap.size W0 w' → w'.cell? ⟨b, off + 6, none⟩ = some (.slice AA nq cA)
theorem At.mk' {W0 : World} {b off : Nat} {k : Int} {n : ByteArray} {m : Bool} {nl nn nk nq : Nat} {AL AN AK AA : Option Addr} {cL cN cK cA : Nat} (hc : CellsAt W0 b off [.int .i64 k, .string n, .bool m, .slice AL nl cL, .slice AN nn cN, .slice AK nk cK, .slice AA nq cA]) : At W0 b off k n m nl nn nk nq AL AN AK AA cL cN cK cA :=
  ⟨fun w' hb => cell_below hb (by simpa using hc 0 _ rfl), fun w' hb => cell_below hb (hc 1 _ rfl), fun w' hb => cell_below hb (hc 2 _ rfl), fun w' hb => cell_below hb (hc 3 _ rfl), fun w' hb => cell_below hb (hc 4 _ rfl), fun w' hb => cell_below hb (hc 5 _ rfl), fun w' hb => cell_below hb (hc 6 _ rfl)⟩
theorem below_al {n : Nat} {W0 w : World} (h : Below n W0 w) (hs : n ≤ w.heap.size) (o : Obj) : Below n W0 (w.alloc o) := h.alloc hs o

section
variable {W0 w : World} {b off : Nat} {k : Int} {n : ByteArray} {m : Bool} {nl nn nk nq : Nat} {AL AN AK AA : Option Addr} {cL cN cK cA : Nat}
/-- What a method answers. -/
def Ret (z : Bool) (w : World) (e : Ending) (w' : World) : Prop := e = .returned (.bool z) ∧ Below w.heap.size w w'
set_option maxRecDepth 100000 in
theorem cNoNames (A : At W0 b off k n m nl nn nk nq AL AN AK AA cL cN cK cA) (hb : Below W0.heap.size W0 w) (z : Bool) (hz : (nn == 0) = z) :
    Calls Try.prog 216 #[.agg #[.pointer (some ⟨b, off, none⟩)]] w (Ret z w) := by
  have y4 := A.c4 _ (below_al hb hb.size (.cells #[.pointer (some ⟨b, off, none⟩)] 232))
  have B1 := Lib.hid (below_alloc1 w (.cells #[.pointer (some ⟨b, off, none⟩)] 232))
  clear hb A
  by_cases h0 : nn = 0
  · subst h0
    obtain rfl : z = true := by rw [← hz]; rfl
    clear hz
    go_enter Try.func216, Try.ntmps216
    go_wp2
    go_ret
    exact ⟨rfl, B1.out⟩
  · obtain rfl : z = false := by rw [← hz]; simpa using h0
    have h1 : ((nn : Int) == 0) = false := by rw [beq_eq_false_iff_ne]; omega
    have h2 : (nn == 0) = false := hz
    clear h0 hz
    go_enter Try.func216, Try.ntmps216
    go_wp2
    go_ret
    exact ⟨by first | rfl | simp_all, B1.out⟩
set_option maxRecDepth 100000 in
theorem cNoAlts (A : At W0 b off k n m nl nn nk nq AL AN AK AA cL cN cK cA) (hb : Below W0.heap.size W0 w) (z : Bool) (hz : (nq == 0) = z) :
    Calls Try.prog 217 #[.agg #[.pointer (some ⟨b, off, none⟩)]] w (Ret z w) := by
  have y4 := A.c6 _ (below_al hb hb.size (.cells #[.pointer (some ⟨b, off, none⟩)] 232))
  have B1 := Lib.hid (below_alloc1 w (.cells #[.pointer (some ⟨b, off, none⟩)] 232))
  clear hb A
  by_cases h0 : nq = 0
  · subst h0
    obtain rfl : z = true := by rw [← hz]; rfl
    clear hz
    go_enter Try.func217, Try.ntmps217
    go_wp2
    go_ret
    exact ⟨rfl, B1.out⟩
  · obtain rfl : z = false := by rw [← hz]; simpa using h0
    have h1 : ((nq : Int) == 0) = false := by rw [beq_eq_false_iff_ne]; omega
    have h2 : (nq == 0) = false := hz
    clear h0 hz
    go_enter Try.func217, Try.ntmps217
    go_wp2
    go_ret
    exact ⟨by first | rfl | simp_all, B1.out⟩
set_option maxRecDepth 100000 in
theorem cNoNumber (A : At W0 b off k n m nl nn nk nq AL AN AK AA cL cN cK cA) (hb : Below W0.heap.size W0 w) (z : Bool) (hz : (!m && nl == 0) = z) :
    Calls Try.prog 215 #[.agg #[.pointer (some ⟨b, off, none⟩)]] w (Ret z w) := by
  have y2 := A.c2 _ (below_al hb hb.size (.cells #[.pointer (some ⟨b, off, none⟩)] 232))
  have y3 := A.c3 _ (below_al hb hb.size (.cells #[.pointer (some ⟨b, off, none⟩)] 232))
  have B1 := Lib.hid (below_alloc1 w (.cells #[.pointer (some ⟨b, off, none⟩)] 232))
  clear hb A
  cases m
  · by_cases h0 : nl = 0
    · subst h0
      obtain rfl : z = true := by rw [← hz]; rfl
      clear hz
      go_enter Try.func215, Try.ntmps215
      go_wp2
      go_ret
      exact ⟨rfl, B1.out⟩
    · obtain rfl : z = false := by rw [← hz]; simpa using h0
      have h1 : ((nl : Int) == 0) = false := by rw [beq_eq_false_iff_ne]; omega
      have h2 : (nl == 0) = false := by simpa using h0
      clear h0 hz
      go_enter Try.func215, Try.ntmps215
      go_wp2
      go_ret
      exact ⟨by first | rfl | simp_all, B1.out⟩
  · obtain rfl : z = false := by rw [← hz]; rfl
    clear hz
    go_enter Try.func215, Try.ntmps215
    go_wp2
    go_ret
    exact ⟨rfl, B1.out⟩
set_option maxRecDepth 100000 in
theorem cLeaf (A : At W0 b off k n m nl nn nk nq AL AN AK AA cL cN cK cA) (hb : Below W0.heap.size W0 w) (z : Bool) (hz : (nn == 0 && (nq == 0 && nk == 0)) = z) :
    Calls Try.prog 213 #[.agg #[.pointer (some ⟨b, off, none⟩)]] w (Ret z w) := by
  have AA' := Lib.hid A
  have HB := Lib.hid (below_al hb hb.size (.cells #[.pointer (some ⟨b, off, none⟩)] 232))
  have HS := Lib.hid hb.size
  have B1 := Lib.hid (below_alloc1 w (.cells #[.pointer (some ⟨b, off, none⟩)] 232))
  have BX := Lib.hid (blk_new w (.cells #[.pointer (some ⟨b, off, none⟩)] 232))
  clear hb A
  generalize h1 : (nn == 0) = z1 at *
  generalize h2 : (nq == 0) = z2 at *
  have Z1 := Lib.hid h1
  have Z2 := Lib.hid h2
  have HZ := Lib.hid hz
  clear h1 h2 hz
  cases z1
  · obtain rfl : z = false := by have := HZ.out; simpa using this.symm
    have CN := fun w h => cNoNames (w := w) AA'.out h false Z1.out
    have CN := Lib.hid CN
    go_enter Try.func213, Try.ntmps213
    go_wp2_with fail
    refine (CN.out _ HB.out).mono ?_
    rintro e w1 ⟨rfl, hb1⟩
    have HB1 := Lib.hid (B1.out.trans (hb1.mono B1.out.size))
    clear hb1
    go_wp2
    go_ret
    exact ⟨rfl, HB1.out⟩
  · have CN := Lib.hid (fun w h => cNoNames (w := w) AA'.out h true Z1.out)
    cases z2
    · obtain rfl : z = false := by have := HZ.out; simpa using this.symm
      have CQ := Lib.hid (fun w h => cNoAlts (w := w) AA'.out h false Z2.out)
      go_enter Try.func213, Try.ntmps213
      go_wp2_with fail
      refine (CN.out _ HB.out).mono ?_
      rintro e w1 ⟨rfl, hb1⟩
      have HB1 := Lib.hid (B1.out.trans (hb1.mono B1.out.size))
      have HC1 := Lib.hid (HB.out.trans (hb1.mono HB.out.size))
      have z0 : World.cell? w1 ⟨w.heap.size, 0, none⟩ = some (.pointer (some ⟨b, off, none⟩)) := (blk_cell (blk_below BX.out hb1) 0).trans rfl
      clear hb1
      go_wp2_with fail
      refine (CQ.out _ HC1.out).mono ?_
      rintro e w2 ⟨rfl, hb2⟩
      have HB2 := Lib.hid (HB1.out.trans (hb2.mono HB1.out.size))
      clear hb2 z0
      go_wp2
      go_ret
      exact ⟨rfl, HB2.out⟩
    · have CQ := Lib.hid (fun w h => cNoAlts (w := w) AA'.out h true Z2.out)
      go_enter Try.func213, Try.ntmps213
      go_wp2_with fail
      refine (CN.out _ HB.out).mono ?_
      rintro e w1 ⟨rfl, hb1⟩
      have HB1 := Lib.hid (B1.out.trans (hb1.mono B1.out.size))
      have HC1 := Lib.hid (HB.out.trans (hb1.mono HB.out.size))
      have z0 : World.cell? w1 ⟨w.heap.size, 0, none⟩ = some (.pointer (some ⟨b, off, none⟩)) := (blk_cell (blk_below BX.out hb1) 0).trans rfl
      have BX1 := Lib.hid (blk_below BX.out hb1)
      clear hb1
      go_wp2_with fail
      refine (CQ.out _ HC1.out).mono ?_
      rintro e w2 ⟨rfl, hb2⟩
      have HB2 := Lib.hid (HB1.out.trans (hb2.mono HB1.out.size))
      have y5 := AA'.out.c5 _ (HC1.out.trans (hb2.mono HC1.out.size))
      have z0 : World.cell? w2 ⟨w.heap.size, 0, none⟩ = some (.pointer (some ⟨b, off, none⟩)) := (blk_cell (blk_below BX1.out hb2) 0).trans rfl
      clear hb2
      by_cases h0 : nk = 0
      · subst h0
        obtain rfl : z = true := by have := HZ.out; simpa using this.symm
        go_wp2
        go_ret
        exact ⟨rfl, HB2.out⟩
      · have h3 : (nk == 0) = false := by simpa using h0
        obtain rfl : z = false := by have := HZ.out; rw [h3] at this; simpa using this.symm
        have h1 : ((nk : Int) == 0) = false := by rw [beq_eq_false_iff_ne]; omega
        go_wp2
        go_ret
        exact ⟨by first | rfl | simp_all, HB2.out⟩
end
end Go.Proofs.Ythidbmjdphfddaa
