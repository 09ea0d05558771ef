/- The reference's 'NodeCount' on trees as data; no condition. -/
import Derived.Test.YtgogfloppnhceaaTr
namespace Go.Proofs.Ytgogfloppnhceaa
open Go.RowKit
set_option linter.unusedVariables false
set_option linter.unusedSimpArgs false

def SpecCount (x : Tr) : Prop := x.count ≤ 1048577 → ∀ (w : World) (cs : List Value), Rd w x.enc cs →
  Calls Try.prog 47 #[.agg cs.toArray] w fun e w' => e = .returned (.int .i64 x.count) ∧ Below w.heap.size w w'

set_option maxRecDepth 100000 in
theorem SpecCount_of (k : Int) (n : ByteArray) (ks : List Tr) (hn : ks.length ≤ 140737488351232) (ih : ∀ x ∈ ks, SpecCount x) : SpecCount (.mk k n ks) := by
  intro hcount w cs h
  simp only [Tr.count] at hcount
  obtain ⟨A, c, rfl, _, _, h4⟩ := Tr.open_ h
  have IH := Lib.hid ih
  have B1 := Lib.hid ((Below.refl w.heap.size w).alloc (Nat.le_refl _) (.cells #[.int .i64 k, .string n, .slice A ks.length c] 68))
  have H4 := Lib.hid (RdRow.below h4 (by omega) B1.out)
  have BK := Lib.hid (blk_new w (.cells #[.int .i64 k, .string n, .slice A ks.length c] 68))
  have HSW : Hid ((w.alloc (.cells #[.int .i64 k, .string n, .slice A ks.length c] 68)).heap.size = w.heap.size + 1) := by simp [Hid]
  clear ih h h4
  go_enter Try.func47, Try.ntmps47
  go_wp2_with fail
  generalize hW : w.alloc (.cells #[.int .i64 k, .string n, .slice A ks.length c] 68) = W at *
  clear hW
  go_loopw [3, 4] (fun s i wr => ∃ j : Nat, j ≤ ks.length ∧ i = .int .i64 j ∧ s = .int .i64 (1 + (Tr.counts (ks.take j) : Int)) ∧ Below W.heap.size W wr) (fun _ i _ => ks.length - (intOf i).toNat)
  case atStart => exact ⟨0, Nat.zero_le _, rfl, by simp [Tr.counts], Below.refl _ _⟩
  case round =>
    obtain ⟨j, hj, rfl, rfl, hb⟩ := hrel
    have z2 := blk_cell (blk_below BK.out hb) 2
    simp at z2
    by_cases hlt : j < ks.length
    · obtain ⟨b, off, es, rfl, hcl, hrd, hc⟩ := (RdRow.below H4.out (by omega) hb).get (i := j) (x := ks[j].enc) (by simp [Tr.encs_map, List.getElem?_eq_getElem hlt])
      obtain ⟨u0, u1, u2, rfl⟩ := cells3 hcl
      have e0 : wr.cell? ⟨b, off + j * 3, none⟩ = some u0 := hc 0 _ rfl
      have e1 : wr.cell? ⟨b, off + j * 3 + 1, none⟩ = some u1 := hc 1 _ rfl
      have e2 : wr.cell? ⟨b, off + j * 3 + 2, none⟩ = some u2 := hc 2 _ rfl
      have t1 := Tr.counts_take hlt
      have t2 := Tr.counts_take_le (xs := ks) (j + 1)
      have CAL := Lib.hid (IH.out _ (List.getElem_mem hlt) (by omega) wr _ hrd)
      have HB := Lib.hid hb
      have T1 := Lib.hid t1
      have t3 : Tr.counts (ks.take j) + ks[j].count ≤ 1048576 := by omega
      clear hrd hcl hc hb t1 t2
      generalize ks[j].count = q at *
      generalize hp : Tr.counts (ks.take j) = p at *
      go_wp2_with fail
      refine CAL.out.mono ?_
      rintro e w1 ⟨rfl, hb1⟩
      have HB1 := Lib.hid (HB.out.trans (hb1.mono HB.out.size))
      clear hb1 CAL
      go_wp2
      go_roundw
      case rel => exact ⟨j + 1, by omega, by go_num, by rw [T1.out]; congr 1; omega, HB1.out⟩
      case measure => simp [intOf]; omega
    · obtain rfl : j = ks.length := by omega
      have HB := Lib.hid (B1.out.trans (hb.mono (by rw [HSW]; omega)))
      clear hb
      go_wp2
      go_ret
      refine ⟨?_, HB.out⟩
      rw [List.take_length, Tr.count]
      congr 2

theorem SpecCount_all : ∀ (x : Tr), x.ok → SpecCount x :=
  Tr.induct fun k n ks ih h => by
    simp only [Tr.ok] at h
    exact SpecCount_of k n ks h.2.2.1 fun x hx => ih x hx (Tr.oks_mem h.2.2.2 x hx)

end Go.Proofs.Ytgogfloppnhceaa
