/- Core terms: both 'SameCore' tell whether two terms are the same; no condition. -/
import Derived.Test.YtjemcaokiifomaaCr
import Derived.Lib.QuietBelow
import Derived.BigQuiet
import Derived.StillTailTactics
namespace Go.Proofs.Ytjemcaokiifomaa
open Go.RowKit
set_option linter.unusedVariables false
set_option linter.unusedSimpArgs false

def all2 {α : Type} (f : α → α → Bool) : List α → List α → Bool
  | [], [] => true
  | x :: xs, y :: ys => f x y && all2 f xs ys
  | _, _ => false
theorem all2_len {α : Type} {f : α → α → Bool} : ∀ {xs ys : List α}, xs.length ≠ ys.length → all2 f xs ys = false
  | [], [], h => by simp at h
  | x :: xs, y :: ys, h => by simp only [all2, all2_len (xs := xs) (ys := ys) (by simpa using h), Bool.and_false]
  | [], _ :: _, _ => rfl
  | _ :: _, [], _ => rfl
theorem all2_drop {α : Type} {f : α → α → Bool} {xs ys : List α} {j : Nat} (h1 : j < xs.length) (h2 : j < ys.length) : all2 f (xs.drop j) (ys.drop j) = (f xs[j] ys[j] && all2 f (xs.drop (j + 1)) (ys.drop (j + 1))) := by
  rw [List.drop_eq_getElem_cons h1, List.drop_eq_getElem_cons h2, all2]
def sameTx (a b : ByteArray) : Bool := a.toList == b.toList
def sameStrs (a b : List ByteArray) : Bool := all2 sameTx a b
def sameInts (a b : List Int) : Bool := all2 (fun x y => x == y) a b
mutual
def Cr.same : Cr → Cr → Bool
  | .mk k n m l ns ks qs, .mk k' n' m' l' ns' ks' qs' => (k == k') && (sameTx n n' && ((m == m') && (sameInts l l' && (sameStrs ns ns' && (Cr.sames ks ks' && Ca.sames qs qs')))))
def Cr.sames : List Cr → List Cr → Bool
  | [], [] => true
  | x :: xs, y :: ys => x.same y && Cr.sames xs ys
  | [], _ :: _ => false
  | _ :: _, [] => false
def Ca.same : Ca → Ca → Bool
  | .mk c ns b, .mk c' ns' b' => sameTx c c' && (sameStrs ns ns' && b.same b')
def Ca.sames : List Ca → List Ca → Bool
  | [], [] => true
  | x :: xs, y :: ys => x.same y && Ca.sames xs ys
  | [], _ :: _ => false
  | _ :: _, [] => false
end
theorem Cr.sames_all2 : ∀ (xs ys : List Cr), Cr.sames xs ys = all2 Cr.same xs ys
  | [], [] => by simp only [Cr.sames, all2]
  | x :: xs, y :: ys => by simp only [Cr.sames, all2, Cr.sames_all2 xs ys]
  | [], _ :: _ => by simp only [Cr.sames, all2]
  | _ :: _, [] => by simp only [Cr.sames, all2]
theorem Ca.sames_all2 : ∀ (xs ys : List Ca), Ca.sames xs ys = all2 Ca.same xs ys
  | [], [] => by simp only [Ca.sames, all2]
  | x :: xs, y :: ys => by simp only [Ca.sames, all2, Ca.sames_all2 xs ys]
  | [], _ :: _ => by simp only [Ca.sames, all2]
  | _ :: _, [] => by simp only [Ca.sames, all2]
def Cr.cmp (k k' : Int) (n n' : ByteArray) (m m' : Bool) (l l' : List Int) (ns ns' : List ByteArray) (ks ks' : List Cr) (qs qs' : List Ca) : Bool :=
  (k == k') && (sameTx n n' && ((m == m') && (sameInts l l' && (sameStrs ns ns' && (all2 Cr.same ks ks' && all2 Ca.same qs qs')))))
theorem Cr.same_cmp (k k' : Int) (n n' : ByteArray) (m m' : Bool) (l l' : List Int) (ns ns' : List ByteArray) (ks ks' : List Cr) (qs qs' : List Ca) :
    (Cr.mk k n m l ns ks qs).same (.mk k' n' m' l' ns' ks' qs') = Cr.cmp k k' n n' m m' l l' ns ns' ks ks' qs qs' := by
  simp only [Cr.same, Cr.cmp, Cr.sames_all2, Ca.sames_all2]
theorem Ca.same_parts (a a' : Ca) : a.same a' = (sameTx a.con a'.con && (sameStrs a.names a'.names && a.body.same a'.body)) := by
  cases a; cases a'; simp only [Ca.same, Ca.con, Ca.names, Ca.body]
theorem Ca.open_ {w : World} {a : Ca} {cs : List Value} (h : Rd w a.enc cs) : ∃ v bs, cs = .string a.con :: v :: bs ∧ bs.length = 7 ∧ Rd w (.slice 1 (strs a.names)) [v] ∧ Rd w a.body.enc bs := by
  cases a with
  | mk c ns b =>
    simp only [Ca.enc] at h
    rw [rd_struct] at h
    simp only [rdF_cons, rdF_nil, rd_str] at h
    obtain ⟨e0, r0, rfl, rfl, e1, r1, rfl, h1, e2, r2, rfl, h2, rfl⟩ := h
    obtain ⟨v, rfl⟩ : ∃ v, e1 = [v] := by
      obtain ⟨A, c, rfl, _⟩ := rd_slice h1
      exact ⟨_, rfl⟩
    exact ⟨v, e2, by simp [Ca.con], by rw [h2.len]; exact b.n, h1, h2⟩

set_option maxRecDepth 100000 in
theorem namesS (ns ns' : List ByteArray) (hn : ns.length ≤ 140737488351232) (w : World) (v v' : Value) (h : Rd w (.slice 1 (strs ns)) [v]) (h' : Rd w (.slice 1 (strs ns')) [v']) :
    Calls Try.prog 59 #[v, v'] w fun e w' => e = .returned (.bool (sameStrs ns ns')) ∧ Below w.heap.size w w' := by
  obtain ⟨A, c, rfl, _, _, hr⟩ := open_strs h
  obtain ⟨A', c', rfl, _, _, hr'⟩ := open_strs h'
  have H := Lib.hid hr
  have H' := Lib.hid hr'
  clear h h' hr hr'
  by_cases hl : ns.length = ns'.length
  · have u3 : ((ns.length : Int) != (ns'.length : Int)) = false := by rw [bne_eq_false_iff_eq]; omega
    have HL := Lib.hid hl
    clear hl
    go_enter Try.func59, Try.ntmps59
    go_wp2_with fail
    go_loopw [5] (fun i wr => ∃ j : Nat, j ≤ ns.length ∧ i = .int .i64 j ∧ Below w.heap.size w wr ∧ Hid (sameStrs ns ns' = sameStrs (ns.drop j) (ns'.drop j))) (fun i _ => ns.length - (intOf i).toNat)
    case atStart => exact ⟨0, Nat.zero_le _, rfl, Below.refl _ _, rfl⟩
    case round =>
      obtain ⟨j, hj, rfl, hb, hsm⟩ := hrel
      by_cases hlt : j < ns.length
      · have hlt' : j < ns'.length := by have := HL.out; omega
        obtain ⟨b, off, rfl, c0⟩ := strs_get (RdRow.below H.out (by omega) hb) hlt
        obtain ⟨b', off', rfl, c1⟩ := strs_get (RdRow.below H'.out (by omega) hb) hlt'
        have HB := Lib.hid hb
        have SM := Lib.hid (hsm.out.trans (all2_drop hlt hlt'))
        have i0 : (0 : Int) ≤ (j : Int) := Int.natCast_nonneg _
        have i1 : (j : Int) < (ns.length : Int) := by omega
        have i2 : (j : Int) < (ns'.length : Int) := by omega
        clear hb hsm
        by_cases hq : ns[j].toList = ns'[j].toList
        · have u2 : (ns[j].toList == ns'[j].toList) = true := by rw [beq_iff_eq]; exact hq
          have SQ := Lib.hid (show sameTx ns[j] ns'[j] = true by simp [sameTx, hq])
          clear hq
          go_wp2_with fail
          go_quiet (fail)
          go_wp2
          go_roundw
          case rel => exact ⟨j + 1, by omega, by go_num, drewN_below HB.out _, Lib.hid (by rw [SM.out, SQ.out, Bool.true_and]; rfl)⟩
          case measure => simp [intOf]; omega
        · have u2 : (ns[j].toList == ns'[j].toList) = false := by rw [beq_eq_false_iff_ne]; exact hq
          have SQ := Lib.hid (show sameTx ns[j] ns'[j] = false by simp [sameTx, hq])
          clear hq
          go_wp2_with fail
          go_quiet (fail)
          go_wp2
          go_ret
          exact ⟨by rw [SM.out, SQ.out, Bool.false_and]; rfl, drewN_below HB.out _⟩
      · obtain rfl : j = ns.length := by omega
        have HB := Lib.hid hb
        have SM := hsm.out
        rw [List.drop_length, HL.out, List.drop_length] at SM
        have SN := Lib.hid SM
        clear hb hsm SM
        go_wp2
        go_ret
        exact ⟨by rw [SN.out]; rfl, HB.out⟩
  · have hf : sameStrs ns ns' = false := all2_len hl
    have HF := Lib.hid hf
    have t1 : ((ns.length : Int) != (ns'.length : Int)) = true := by rw [bne_iff_ne]; omega
    clear hf hl
    go_enter Try.func59, Try.ntmps59
    go_wp2_with fail
    go_ret
    exact ⟨by rw [HF.out]; rfl, Below.refl _ _⟩

set_option maxRecDepth 100000 in
theorem namesI (ns ns' : List ByteArray) (hn : ns.length ≤ 140737488351232) (w : World) (v v' : Value) (h : Rd w (.slice 1 (strs ns)) [v]) (h' : Rd w (.slice 1 (strs ns')) [v']) :
    Calls Try.prog 61 #[v, v'] w fun e w' => e = .returned (.bool (sameStrs ns ns')) ∧ Below w.heap.size w w' := by
  obtain ⟨A, c, rfl, _, _, hr⟩ := open_strs h
  obtain ⟨A', c', rfl, _, _, hr'⟩ := open_strs h'
  have H := Lib.hid hr
  have H' := Lib.hid hr'
  clear h h' hr hr'
  by_cases hl : ns.length = ns'.length
  · have u3 : ((ns.length : Int) != (ns'.length : Int)) = false := by rw [bne_eq_false_iff_eq]; omega
    have HL := Lib.hid hl
    clear hl
    go_enter Try.func61, Try.ntmps61
    go_wp2_with fail
    go_loopw [13] (fun i wr => ∃ j : Nat, j ≤ ns.length ∧ i = .int .i64 j ∧ Below w.heap.size w wr ∧ Hid (sameStrs ns ns' = sameStrs (ns.drop j) (ns'.drop j))) (fun i _ => ns.length - (intOf i).toNat)
    case atStart => exact ⟨0, Nat.zero_le _, rfl, Below.refl _ _, rfl⟩
    case round =>
      obtain ⟨j, hj, rfl, hb, hsm⟩ := hrel
      by_cases hlt : j < ns.length
      · have hlt' : j < ns'.length := by have := HL.out; omega
        obtain ⟨b, off, rfl, c0⟩ := strs_get (RdRow.below H.out (by omega) hb) hlt
        obtain ⟨b', off', rfl, c1⟩ := strs_get (RdRow.below H'.out (by omega) hb) hlt'
        have HB := Lib.hid hb
        have SM := Lib.hid (hsm.out.trans (all2_drop hlt hlt'))
        have i0 : (0 : Int) ≤ (j : Int) := Int.natCast_nonneg _
        have i1 : (j : Int) < (ns.length : Int) := by omega
        have i2 : (j : Int) < (ns'.length : Int) := by omega
        clear hb hsm
        by_cases hq : ns[j].toList = ns'[j].toList
        · have u2 : (ns[j].toList == ns'[j].toList) = true := by rw [beq_iff_eq]; exact hq
          have SQ := Lib.hid (show sameTx ns[j] ns'[j] = true by simp [sameTx, hq])
          clear hq
          go_wp2_with fail
          go_quiet (fail)
          go_wp2
          go_roundw
          case rel => exact ⟨j + 1, by omega, by go_num, drewN_below HB.out _, Lib.hid (by rw [SM.out, SQ.out, Bool.true_and]; rfl)⟩
          case measure => simp [intOf]; omega
        · have u2 : (ns[j].toList == ns'[j].toList) = false := by rw [beq_eq_false_iff_ne]; exact hq
          have SQ := Lib.hid (show sameTx ns[j] ns'[j] = false by simp [sameTx, hq])
          clear hq
          go_wp2_with fail
          go_quiet (fail)
          go_wp2
          go_ret
          exact ⟨by rw [SM.out, SQ.out, Bool.false_and]; rfl, drewN_below HB.out _⟩
      · obtain rfl : j = ns.length := by omega
        have HB := Lib.hid hb
        have SM := hsm.out
        rw [List.drop_length, HL.out, List.drop_length] at SM
        have SN := Lib.hid SM
        clear hb hsm SM
        go_wp2
        go_ret
        exact ⟨by rw [SN.out]; rfl, HB.out⟩
  · have hf : sameStrs ns ns' = false := all2_len hl
    have HF := Lib.hid hf
    have t1 : ((ns.length : Int) != (ns'.length : Int)) = true := by rw [bne_iff_ne]; omega
    clear hf hl
    go_enter Try.func61, Try.ntmps61
    go_wp2_with fail
    go_ret
    exact ⟨by rw [HF.out]; rfl, Below.refl _ _⟩

theorem u32s_get {w : World} {A : Option Addr} {l : List Int} (h : RdRow w 1 A (u32s l)) {j : Nat} (hj : j < l.length) : ∃ b off, A = some ⟨b, off, none⟩ ∧ w.cell? ⟨b, off + j, none⟩ = some (.int .u32 l[j]) := by
  obtain ⟨b, off, cs, rfl, hcl, hrd, hc⟩ := h.get (i := j) (x := .int .u32 l[j]) (by simp [u32s, List.getElem?_eq_getElem hj])
  obtain rfl := rd_int.1 hrd
  exact ⟨b, off, rfl, by simpa using hc 0 _ rfl⟩
set_option maxRecDepth 100000 in
theorem bigI_eq (m : Bool) (l l' : List Int) (hn : l.length ≤ 140737488351232) (w : World) (cs cs' : List Value) (h : Rd w (bigD m l) cs) (h' : Rd w (bigD m l') cs') :
    Calls Try.prog 60 #[.agg cs.toArray, .agg cs'.toArray] w fun e w' => e = .returned (.bool ((m == m) && sameInts l l')) ∧ Below w.heap.size w w' := by
  obtain ⟨A, c, rfl, _, _, hr⟩ := openBg h
  obtain ⟨A', c', rfl, _, _, hr'⟩ := openBg h'
  have B2 := Lib.hid (((Below.refl w.heap.size w).alloc (Nat.le_refl _) (.cells #[.bool m, .slice A l.length c] 32)).alloc (by simp) (.cells #[.bool m, .slice A' l'.length c'] 32))
  have H := Lib.hid (RdRow.below hr (by omega) B2.out)
  have H' := Lib.hid (RdRow.below hr' (by omega) B2.out)
  have hbo := Lib.hid (blk_old (blk_new w (.cells #[.bool m, .slice A l.length c] 32)) (.cells #[.bool m, .slice A' l'.length c'] 32))
  have hbr := Lib.hid (blk_new (w.alloc (.cells #[.bool m, .slice A l.length c] 32)) (.cells #[.bool m, .slice A' l'.length c'] 32))
  have hsW : ((w.alloc (.cells #[.bool m, .slice A l.length c] 32)).alloc (.cells #[.bool m, .slice A' l'.length c'] 32)).heap.size = w.heap.size + 2 := by simp
  have HSW := Lib.hid hsW
  clear h h' hr hr' hsW
  have M := Lib.hid (show (m == m) = true by rw [beq_iff_eq])
  by_cases hl : l.length = l'.length
  · have u3 : ((l.length : Int) != (l'.length : Int)) = false := by rw [bne_eq_false_iff_eq]; omega
    have HL := Lib.hid hl
    clear hl
    go_enter Try.func60, Try.ntmps60
    go_wp2_with fail
    generalize hW : ((w.alloc (.cells #[.bool m, .slice A l.length c] 32)).alloc (.cells #[.bool m, .slice A' l'.length c'] 32)) = W at *
    clear hW
    go_loopw [23] (fun i wr => ∃ j : Nat, j ≤ l.length ∧ i = .int .i64 j ∧ Below W.heap.size W wr ∧ Hid (sameInts l l' = sameInts (l.drop j) (l'.drop j))) (fun i _ => l.length - (intOf i).toNat)
    case atStart => exact ⟨0, Nat.zero_le _, rfl, Below.refl _ _, rfl⟩
    case round =>
      obtain ⟨j, hj, rfl, hb, hsm⟩ := hrel
      have y0 := blk_cell (blk_below hbo.out hb) 1
      have y1 := blk_cell (blk_below hbr.out hb) 1
      simp at y0 y1
      by_cases hlt : j < l.length
      · have hlt' : j < l'.length := by have := HL.out; omega
        obtain ⟨b, off, rfl, c0⟩ := u32s_get (RdRow.below H.out (by omega) hb) hlt
        obtain ⟨b', off', rfl, c1⟩ := u32s_get (RdRow.below H'.out (by omega) hb) hlt'
        have HB := Lib.hid hb
        have SM := Lib.hid (hsm.out.trans (all2_drop hlt hlt'))
        have i0 : (0 : Int) ≤ (j : Int) := Int.natCast_nonneg _
        have i1 : (j : Int) < (l.length : Int) := by omega
        have i2 : (j : Int) < (l'.length : Int) := by omega
        clear hb hsm
        by_cases hq : l[j] = l'[j]
        · have u2 : (l[j] != l'[j]) = false := by rw [bne_eq_false_iff_eq]; exact hq
          have SQ := Lib.hid (show (l[j] == l'[j]) = true by rw [beq_iff_eq]; exact hq)
          clear hq
          go_wp2_with fail
          go_quiet (fail)
          go_wp2
          go_roundw
          case rel => exact ⟨j + 1, by omega, by go_num, drewN_below HB.out _, Lib.hid (by rw [SM.out, SQ.out, Bool.true_and]; rfl)⟩
          case measure => simp [intOf]; omega
        · have u2 : (l[j] != l'[j]) = true := by rw [bne_iff_ne]; exact hq
          have SQ := Lib.hid (show (l[j] == l'[j]) = false by rw [beq_eq_false_iff_ne]; exact hq)
          clear hq
          go_wp2_with fail
          go_quiet (fail)
          go_wp2
          go_ret
          exact ⟨by rw [SM.out, SQ.out, Bool.false_and, Bool.and_false]; rfl, B2.out.trans ((drewN_below HB.out _).mono (by rw [HSW.out]; omega))⟩
      · obtain rfl : j = l.length := by omega
        have HB := Lib.hid (B2.out.trans (hb.mono (by rw [HSW.out]; omega)))
        have SM := hsm.out
        rw [List.drop_length, HL.out, List.drop_length] at SM
        have SN := Lib.hid SM
        clear hb hsm SM
        go_wp2
        go_ret
        exact ⟨by rw [SN.out, M.out]; rfl, HB.out⟩
  · have hf : ((m == m) && sameInts l l') = false := by rw [show sameInts l l' = false from all2_len hl, Bool.and_false]
    have HF := Lib.hid hf
    have t1 : ((l.length : Int) != (l'.length : Int)) = true := by rw [bne_iff_ne]; omega
    clear hf hl
    go_enter Try.func60, Try.ntmps60
    go_wp2_with fail
    go_ret
    exact ⟨by rw [HF.out]; rfl, B2.out⟩
set_option maxRecDepth 100000 in
theorem bigI_ne (m : Bool) (l l' : List Int) (hn : l.length ≤ 140737488351232) (w : World) (cs cs' : List Value) (h : Rd w (bigD m l) cs) (h' : Rd w (bigD (!m) l') cs') :
    Calls Try.prog 60 #[.agg cs.toArray, .agg cs'.toArray] w fun e w' => e = .returned (.bool ((m == (!m)) && sameInts l l')) ∧ Below w.heap.size w w' := by
  obtain ⟨A, c, rfl, _, _, hr⟩ := openBg h
  obtain ⟨A', c', rfl, _, _, hr'⟩ := openBg h'
  have B2 := Lib.hid (((Below.refl w.heap.size w).alloc (Nat.le_refl _) (.cells #[.bool m, .slice A l.length c] 32)).alloc (by simp) (.cells #[.bool (!m), .slice A' l'.length c'] 32))
  have H := Lib.hid (RdRow.below hr (by omega) B2.out)
  have H' := Lib.hid (RdRow.below hr' (by omega) B2.out)
  have hbo := Lib.hid (blk_old (blk_new w (.cells #[.bool m, .slice A l.length c] 32)) (.cells #[.bool (!m), .slice A' l'.length c'] 32))
  have hbr := Lib.hid (blk_new (w.alloc (.cells #[.bool m, .slice A l.length c] 32)) (.cells #[.bool (!m), .slice A' l'.length c'] 32))
  have hsW : ((w.alloc (.cells #[.bool m, .slice A l.length c] 32)).alloc (.cells #[.bool (!m), .slice A' l'.length c'] 32)).heap.size = w.heap.size + 2 := by simp
  have HSW := Lib.hid hsW
  clear h h' hr hr' hsW
  have hf : ((m == !m) && sameInts l l') = false := by cases m <;> rfl
  have HF := Lib.hid hf
  clear hf
  go_enter Try.func60, Try.ntmps60
  go_wp2_with fail
  go_ret
  exact ⟨by rw [HF.out]; rfl, B2.out⟩
theorem bigI (m m' : Bool) (l l' : List Int) (hn : l.length ≤ 140737488351232) (w : World) (cs cs' : List Value) (h : Rd w (bigD m l) cs) (h' : Rd w (bigD m' l') cs') :
    Calls Try.prog 60 #[.agg cs.toArray, .agg cs'.toArray] w fun e w' => e = .returned (.bool ((m == m') && sameInts l l')) ∧ Below w.heap.size w w' := by
  by_cases hm : m = m'
  · subst hm
    exact bigI_eq m l l' hn w cs cs' h h'
  · obtain rfl : m' = !m := by cases m <;> cases m' <;> simp_all
    exact bigI_ne m l l' hn w cs cs' h h'

end Go.Proofs.Ytjemcaokiifomaa
