/- The program's iterator over a tree's nodes: its contract; no condition. -/
import Derived.Test.YtgogfloppnhceaaTr
import Derived.RangeFuncNested
import Derived.RangeFuncBound
import Derived.RangeFuncCalls
import Derived.RangeFuncLeaves
import Derived.Shelf.Abstract
import Derived.Shelf.RegionOpen
import Derived.WalkKit
import Derived.OwnWalkIn
import Derived.TacticsInMore
import Derived.LoopNIn
import Derived.LoopIn
namespace Go.Proofs.Ytgogfloppnhceaa
open Go.RowKit Go.Shelf
set_option linter.unusedVariables false
set_option linter.unusedSimpArgs false
attribute [local go_sem] Oper.semAt_some

theorem roomNone {F : Fence} (hd : F.depth = none) (k : Nat) : F.room k := fun d h => by rw [hd] at h; cases h
theorem roundAny {F : Fence} (hd : F.depth = none) {m m' : Nat} {P : Program} {l : Nat} {f : FuncId} {tmps : Array Value} {assign body : Code} {w : World} {R : Ending → World → Prop}
    (h : RoundIn F m P l f tmps assign body w R) : RoundIn F m' P l f tmps assign body w R := ⟨h.1, fun c cs _ => h.2 c cs (roomNone hd _)⟩
theorem yieldAny {F : Fence} (hd : F.depth = none) {m : Nat} (m' : Nat) {P : Program} {l : Nat} {args : Array Value} {W : World} {R : Ending → World → Prop} (h : YieldAt F m P l args W R) : YieldAt F m' P l args W R := by
  obtain ⟨fn, tmps, assign, body, hy, hR⟩ := h
  exact ⟨fn, tmps, assign, body, hy, roundAny hd hR⟩

abbrev Nv := Int × Nat × Nat
def nvs (x : Nv) : Array Value := #[.int .i64 x.1, .pointer (some ⟨x.2.1, x.2.2, none⟩)]
theorem cellLt {w : World} {p : Addr} {v : Value} (h : w.cell? p = some v) : p.block < w.heap.size := by
  apply Classical.byContradiction
  intro hn
  have : w.heap[p.block]? = none := Array.getElem?_eq_none (by omega)
  simp [World.cell?, this] at h
theorem cellBelow {w w1 : World} {p : Addr} {v : Value} (hb : Below w.heap.size w w1) (h : w.cell? p = some v) : w1.cell? p = some v := (hb.cell (cellLt h)).trans h

def WalkIn (F : Fence) (l N : Nat) (Kp : World → World → Prop) (W0 Wa : World) (J Jx : List Nv → World → Prop) (x : Tr) : Prop :=
  ∀ (n : Nat) (deep : Int) (b off : Nat) (cs : List Value) (pre : List Nv) (W : World), Rd W0 x.enc cs → (∀ W', Kp Wa W' → CellsAt W' b off cs) → Kp Wa W → J pre W → pre.length + x.count ≤ N →
    CallsIn F n Try.prog 77 #[.pointer (some ⟨b, off, none⟩), .int .i64 deep, .func (.yield l) #[] #[]] W fun e W' =>
      (e = .returned (.bool true) ∧ (∃ ys : List Nv, ys.length = x.count ∧ J (pre ++ ys) W') ∧ Kp W W') ∨ (e = .returned (.bool false) ∧ ∃ q : List Nv, q.length ≤ x.count ∧ Jx (pre ++ q) W')

set_option maxRecDepth 100000 in
set_option maxHeartbeats 2000000 in
theorem WalkIn_of (F : Fence) (hd : F.depth = none) (hf : F.fn 77) (hro : F.round = none) (l N : Nat) (Kp : World → World → Prop) (W0 Wa : World) (hKt : ∀ {A B C : World}, Kp A B → Kp B C → Kp A C) (hKd : ∀ W', Kp Wa W' → Below W0.heap.size W0 W') (J Jx : List Nv → World → Prop)
    (hY : ∀ m pre x W, J pre W → pre.length < N → YieldAt F m Try.prog l (nvs x) W fun e W' =>
      (e = .returned (.bool true) ∧ J (pre ++ [x]) W' ∧ Kp W W') ∨ (e = .returned (.bool false) ∧ Jx (pre ++ [x]) W'))
    (k : Int) (nm : ByteArray) (ks : List Tr) (hn : ks.length ≤ 140737488351232) (ih : ∀ x ∈ ks, WalkIn F l N Kp W0 Wa J Jx x) : WalkIn F l N Kp W0 Wa J Jx (.mk k nm ks) := by
  intro n deep b off cs pre W h hc hW hJ hN
  obtain ⟨A, c, rfl, _, _, h4⟩ := Tr.open_ h
  have hdd : ∀ k : Nat, (F.depth.isSome = true → 1 ≤ k) := fun k h => by rw [hd] at h; cases h
  simp only [Tr.count] at hN
  have c2 : ∀ w', Kp Wa w' → w'.cell? ⟨b, off + 2, none⟩ = some (.slice A ks.length c) := fun w' hb => hc w' hb 2 _ rfl
  have hy : YieldAt F (n - 1) Try.prog l #[.int .i64 deep, .pointer (some ⟨b, off, none⟩)] W fun e W' =>
      (e = .returned (.bool true) ∧ J (pre ++ [(deep, b, off)]) W' ∧ Kp W W' ∧ W'.cell? ⟨b, off + 2, none⟩ = some (.slice A ks.length c)) ∨ (e = .returned (.bool false) ∧ Jx (pre ++ [(deep, b, off)]) W') :=
    YieldAt.mono (hY (n - 1) pre (deep, b, off) W hJ (by omega)) fun e W2 h => h.elim (fun ⟨he, hj, hb2⟩ => .inl ⟨he, hj, hb2, c2 _ (hKt hW hb2)⟩) .inr
  have IH := Lib.hid ih
  have H4 := Lib.hid h4
  have C2 := Lib.hid c2
  have HW := Lib.hid hW
  have HN := Lib.hid hN
  obtain ⟨fn, tmps, assign, body, hyy, hR⟩ := hy
  clear hY ih h hc c2 h4 hJ hN hW
  refine callsIn_of_wp Try.func77 rfl hf ?_ hro
  simp only [Try.ntmps77, List.size_toArray, List.length_cons, List.length_nil, Nat.reduceAdd, Nat.reduceSub, Array.replicate_succ, Array.replicate_zero, List.push_toArray, List.append_toArray, List.nil_append, List.cons_append]
  gi_wp2_with ((try refine ⟨hdd _, ?_⟩); refine hR.mono ?_; clear hR; rintro e W2 (⟨rfl, hJ2, hb2, c2'⟩ | ⟨rfl, hx2⟩))
  · gi_loopw [18] (fun i wr => ∃ j : Nat, j ≤ ks.length ∧ i = .int .i64 j ∧ Hid (∃ ys : List Nv, ys.length = 1 + Tr.counts (ks.take j) ∧ J (pre ++ ys) wr ∧ Kp W wr)) (fun i _ => ks.length - (intOf i).toNat)
    case atStart => exact ⟨0, Nat.zero_le _, rfl, Lib.hid ⟨[(deep, b, off)], by simp [Tr.counts], hJ2, hb2⟩⟩
    case round =>
      obtain ⟨j, hj, rfl, hrel⟩ := hrel
      obtain ⟨ys, hys, hJr, hbr⟩ := hrel.out
      have c2r := C2.out wr (hKt HW.out hbr)
      clear hrel
      by_cases hlt : j < ks.length
      · obtain ⟨b', off', es, rfl, hcl, hrd, hc⟩ := H4.out.get (i := j) (x := ks[j].enc) (by simp [Tr.encs_map, List.getElem?_eq_getElem hlt])
        have t1 := Tr.counts_take hlt
        have t2 := Tr.counts_take_le (xs := ks) (j + 1)
        have hN := HN.out
        have CAL := IH.out _ (List.getElem_mem hlt) (n - 1) (wrap64 (deep + 1)) b' (off' + j * 3) es (pre ++ ys) wr hrd (fun W' hk i u hi => cellBelow (hKd W' hk) (hc i u hi)) (hKt HW.out hbr) hJr (by simp; omega)
        have YS := Lib.hid hys
        have T1 := Lib.hid t1
        have T2 := Lib.hid t2
        have BR := Lib.hid hbr
        clear hrd hcl hc t1 t2 hN hys hbr hJr
        gi_wp2_with ((try refine ⟨hdd _, ?_⟩); gi_at_call 77; refine CAL.mono ?_; clear CAL; rintro e w3 (⟨rfl, ⟨zs, hzs, hJ3⟩, hb3⟩ | ⟨rfl, q, hq, hx⟩))
        · go_roundw
          case rel => exact ⟨j + 1, by omega, by go_num, Lib.hid ⟨ys ++ zs, by rw [T1.out, List.length_append, YS.out, hzs]; omega, by rw [← List.append_assoc]; exact hJ3, hKt BR.out hb3⟩⟩
          case measure => simp [intOf]; omega
        · go_ret
          exact .inr ⟨rfl, ys ++ q, by have h1 := T1.out; have h2 := T2.out; have h3 := YS.out; simp only [Tr.count, List.length_append]; omega, by rw [← List.append_assoc]; exact hx⟩
      · obtain rfl : j = ks.length := by omega
        have YS := Lib.hid hys
        have BR := Lib.hid hbr
        have JR := Lib.hid hJr
        clear hys hbr hJr
        gi_wp2
        go_ret
        exact .inl ⟨rfl, ⟨ys, by rw [Tr.count, YS.out, List.take_length], JR.out⟩, BR.out⟩
  · go_ret
    exact .inr ⟨rfl, [(deep, b, off)], by simp [Tr.count], hx2⟩

theorem WalkIn_all (F : Fence) (hd : F.depth = none) (hf : F.fn 77) (hro : F.round = none) (l N : Nat) (Kp : World → World → Prop) (W0 Wa : World) (hKt : ∀ {A B C : World}, Kp A B → Kp B C → Kp A C) (hKd : ∀ W', Kp Wa W' → Below W0.heap.size W0 W') (J Jx : List Nv → World → Prop)
    (hY : ∀ m pre x W, J pre W → pre.length < N → YieldAt F m Try.prog l (nvs x) W fun e W' =>
      (e = .returned (.bool true) ∧ J (pre ++ [x]) W' ∧ Kp W W') ∨ (e = .returned (.bool false) ∧ Jx (pre ++ [x]) W')) :
    ∀ x : Tr, x.ok → WalkIn F l N Kp W0 Wa J Jx x :=
  Tr.induct fun k n ks ih h => by
    simp only [Tr.ok] at h
    exact WalkIn_of F hd hf hro l N Kp W0 Wa hKt hKd J Jx hY k n ks h.2.2.1 fun x hx => ih x hx (Tr.oks_mem h.2.2.2 x hx)

end Go.Proofs.Ytgogfloppnhceaa
