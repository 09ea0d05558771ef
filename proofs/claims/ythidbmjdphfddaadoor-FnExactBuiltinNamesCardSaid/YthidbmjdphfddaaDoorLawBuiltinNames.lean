/- The law 'FnExactBuiltinNames' walked: over whatever both functions answer alike; no condition. -/
import Derived.Test.YthidbmjdphfddaaDoorFmStr
import Derived.Test.YthidbmjdphfddaaDoorFamStrE
import Derived.Deep.RegionHeld3
import Derived.Deep.RegionWith
import Derived.Deep.DeepCutAuto
import Derived.Deep.CutBlock
namespace Go.Proofs.YthidbmjdphfddaaDoor
open Go.RowKit
set_option linter.unusedVariables false
set_option linter.unusedSimpArgs false

theorem bs1_FnExactBuiltinNames {w : World} {g i : Nat} {q : Addr} {v u : Value} (h : w.cell? q = some v) (hne : q.block ≠ g) : (w.setCell ⟨g, i, none⟩ u).cell? q = some v := (World.cell?_of_block (a := q) (Below.heap_setCell w ⟨g, i, none⟩ u q.block hne)).trans h
theorem net_FnExactBuiltinNames {w : World} {a b : Nat} {c1 c2 : Array Value} {T1 T2 : TypeId} {f1 f2 : Nat × Nat} (h1 : w.heap[a]? = some (.cells c1 T1 f1)) (h2 : w.heap[b]? = some (.cells c2 T2 f2)) (hT : T2 ≠ T1) : a ≠ b := fun e => by
  subst e
  rw [h1] at h2
  injection h2 with h2
  injection h2 with _ h2 _
  exact hT h2.symm
set_option maxRecDepth 100000 in
set_option maxHeartbeats 40000000 in
theorem lawFnExactBuiltinNames (r : D) (EQ_r : EqO Tryd.prog 7 r)
    (MK_r : r.tcnt ≤ 1099511627776 ∧ MkO Tryd.prog 8 r ∧ HdO Tryd.prog 9 r)
    (SP : ∀ (w : World), Calls Tryd.prog 5 #[] w fun e w' => ∃ v', e = .returned v' ∧ Fr w.heap.size w' r [v'] ∧ Below w.heap.size w w')
    (w : World) (IM : ∀ (w1 : World), Below w.heap.size w w1 → Calls Tryd.prog 6 #[] w1 fun e w' => ∃ v', e = .returned v' ∧ Fr w1.heap.size w' r [v'] ∧ Below w1.heap.size w1 w')  :
    Calls Tryd.prog 3 #[] w fun e w' => e = .returned (.bool true) ∧ Below w.heap.size w w' := by
  have HEQ_r := Lib.hid EQ_r
  have HMK_r := Lib.hid MK_r
  have HSP := Lib.hid SP
  have HIM := Lib.hid IM
  clear EQ_r MK_r SP IM
  have HB := Lib.hid (Below.refl w.heap.size w)
  have HS := Lib.hid (Has.nil w)
  have SZ0 := Lib.hid (show w.heap.size = w.heap.size from rfl)
  go_enter Tryd.func3, Tryd.ntmps3
  go_wp2_with fail
  have HSP := Lib.hid (HSP.out)
  have HIM := Lib.hid (HIM.out)
  refine ((HSP.out _)).mono ?_
  rintro e w1 ⟨vq1, rfl, hfr, hb⟩
  have HS := Lib.hid (HS.out.below hb)
  have SZ1 := Lib.hid (show w.heap.size ≤ w1.heap.size from hb.size)
  have HB := Lib.hid (HB.out.trans (hb.mono HB.out.size))
  have HS := Lib.hid (HS.out.add (a := (.dat w.heap.size w1.heap.size r [vq1])) hfr.range)
  clear hb hfr
  go_wp2_with fail
  refine ((HIM.out _ HB.out)).mono ?_
  rintro e w2 ⟨vq2, rfl, hfr, hb⟩
  have HS := Lib.hid (HS.out.below hb)
  have SZ2 := Lib.hid (show w1.heap.size ≤ w2.heap.size from hb.size)
  have HB := Lib.hid (HB.out.trans (hb.mono HB.out.size))
  have HS := Lib.hid (HS.out.add (a := (.dat w1.heap.size w2.heap.size r [vq2])) hfr.range)
  clear hb hfr
  go_wp2_with fail
  refine ((HEQ_r.out _ _ _ (HS.out.dat (x := r) (B := w1.heap.size) (C := w2.heap.size) (cs := [vq2]) List.mem_cons_self).rd (HS.out.dat (x := r) (B := w.heap.size) (C := w1.heap.size) (cs := [vq1]) (List.mem_cons_of_mem _ List.mem_cons_self)).rd)).mono ?_
  rintro e w3 ⟨rfl, hb⟩
  have HS := Lib.hid (HS.out.below hb)
  have SZ3 := Lib.hid (show w2.heap.size ≤ w3.heap.size from hb.size)
  have HB := Lib.hid (HB.out.trans (hb.mono HB.out.size))
  clear hb
  go_wp2_with fail
  have sSZ0 := SZ0.out
  have sSZ1 := SZ1.out
  have sSZ2 := SZ2.out
  have sSZ3 := SZ3.out
  have hcn := HMK_r.out.1
  refine (HMK_r.out.2.1.one (HS.out.dat (x := r) (B := w1.heap.size) (C := w2.heap.size) (cs := [vq2]) List.mem_cons_self) (by omega)).mono ?_
  rintro e w4 ⟨n1, hn1, rfl, hf, ht⟩
  have HS := Lib.hid (Has.touch (Has.mid (l1 := []) (l2 := [(.dat w.heap.size w1.heap.size r [vq1])]) HS.out) ht (ap_cons (show _ ∨ _ by omega) (ap_nil)))
  have SZ4 := Lib.hid (show w3.heap.size ≤ w4.heap.size from ht.size)
  have HS := Lib.hid (HS.out.add (a := (.dat w1.heap.size w2.heap.size (r.top 1) [vq2])) hf)
  have HB := Lib.hid (ht.below HB.out (by omega) HB.out.size)
  have NNn1 : Hid (n1 = 1 + r.tcnt ∧ n1 ≤ 1099511627777) := ⟨hn1, by omega⟩
  clear hf ht hn1 hcn sSZ0 sSZ1 sSZ2 sSZ3
  have hng : decide ((n1 : Int) < 0) = false := decide_eq_false (by omega)
  go_wp2_with fail
  have sSZ0 := SZ0.out
  have sSZ1 := SZ1.out
  have sSZ2 := SZ2.out
  have sSZ3 := SZ3.out
  have sSZ4 := SZ4.out
  have hcn := HMK_r.out.1
  refine (HMK_r.out.2.2.one (HS.out.dat (x := (r.top 1)) (B := w1.heap.size) (C := w2.heap.size) (cs := [vq2]) List.mem_cons_self).rd (by omega)).mono ?_
  rintro e w5 ⟨n2, hn2, rfl, hb⟩
  have HS := Lib.hid (HS.out.below hb)
  have SZ5 := Lib.hid (show w4.heap.size ≤ w5.heap.size from hb.size)
  have HB := Lib.hid (HB.out.trans (hb.mono HB.out.size))
  have NNn2 : Hid (n2 = 1 + r.tcnt ∧ n2 ≤ 1099511627777) := ⟨hn2, by omega⟩
  clear hb hn2 hcn sSZ0 sSZ1 sSZ2 sSZ3 sSZ4
  obtain rfl : n1 = n2 := by have h1 := NNn2.out; have h2 := NNn1.out; omega
  have hng : decide ((n1 : Int) < 0) = false := decide_eq_false (by omega)
  go_wp2_with fail
  refine ((HIM.out _ HB.out)).mono ?_
  rintro e w6 ⟨vq3, rfl, hfr, hb⟩
  have HS := Lib.hid (HS.out.below hb)
  have SZ6 := Lib.hid (show w5.heap.size ≤ w6.heap.size from hb.size)
  have HB := Lib.hid (HB.out.trans (hb.mono HB.out.size))
  have HS := Lib.hid (HS.out.add (a := (.dat w5.heap.size w6.heap.size r [vq3])) hfr.range)
  clear hb hfr
  go_wp2_with fail
  refine ((HEQ_r.out _ _ _ (HS.out.dat (x := r) (B := w5.heap.size) (C := w6.heap.size) (cs := [vq3]) List.mem_cons_self).rd (HS.out.dat (x := r) (B := w.heap.size) (C := w1.heap.size) (cs := [vq1]) (List.mem_cons_of_mem _ (List.mem_cons_of_mem _ List.mem_cons_self))).rd)).mono ?_
  rintro e w7 ⟨rfl, hb⟩
  have HS := Lib.hid (HS.out.below hb)
  have SZ7 := Lib.hid (show w6.heap.size ≤ w7.heap.size from hb.size)
  have HB := Lib.hid (HB.out.trans (hb.mono HB.out.size))
  clear hb
  go_wp2_with fail
  have sSZ0 := SZ0.out
  have sSZ1 := SZ1.out
  have sSZ2 := SZ2.out
  have sSZ3 := SZ3.out
  have sSZ4 := SZ4.out
  have sSZ5 := SZ5.out
  have sSZ6 := SZ6.out
  have sSZ7 := SZ7.out
  have hcn := HMK_r.out.1
  refine (HMK_r.out.2.2.one (HS.out.dat (x := (r.top 1)) (B := w1.heap.size) (C := w2.heap.size) (cs := [vq2]) (List.mem_cons_of_mem _ List.mem_cons_self)).rd (by omega)).mono ?_
  rintro e w8 ⟨n3, hn3, rfl, hb⟩
  have HS := Lib.hid (HS.out.below hb)
  have SZ8 := Lib.hid (show w7.heap.size ≤ w8.heap.size from hb.size)
  have HB := Lib.hid (HB.out.trans (hb.mono HB.out.size))
  have NNn3 : Hid (n3 = 1 + r.tcnt ∧ n3 ≤ 1099511627777) := ⟨hn3, by omega⟩
  clear hb hn3 hcn sSZ0 sSZ1 sSZ2 sSZ3 sSZ4 sSZ5 sSZ6 sSZ7
  obtain rfl : n1 = n3 := by have h1 := NNn3.out; have h2 := NNn1.out; omega
  have hng : decide ((n1 : Int) < 0) = false := decide_eq_false (by omega)
  go_wp2
  go_ret
  exact ⟨rfl, HB.out⟩

end Go.Proofs.YthidbmjdphfddaaDoor
