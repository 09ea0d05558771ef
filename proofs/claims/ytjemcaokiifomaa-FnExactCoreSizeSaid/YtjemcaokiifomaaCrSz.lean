/- Core terms: how many terms one holds; the reference's 'CoreSize'; no condition. -/
import Derived.Test.YtjemcaokiifomaaCr
namespace Go.Proofs.Ytjemcaokiifomaa
open Go.RowKit
set_option linter.unusedVariables false
set_option linter.unusedSimpArgs false

mutual
def Cr.count : Cr → Nat
  | .mk _ _ _ _ _ ks qs => 1 + (Cr.counts ks + Ca.counts qs)
def Cr.counts : List Cr → Nat
  | [] => 0
  | x :: xs => x.count + Cr.counts xs
def Ca.count : Ca → Nat
  | .mk _ _ b => b.count
def Ca.counts : List Ca → Nat
  | [] => 0
  | x :: xs => x.count + Ca.counts xs
end
theorem Ca.count_body (a : Ca) : a.count = a.body.count := by cases a; simp only [Ca.count, Ca.body]
theorem Cr.counts_take : ∀ {xs : List Cr} {j : Nat} (h : j < xs.length), Cr.counts (xs.take (j + 1)) = Cr.counts (xs.take j) + xs[j].count
  | x :: xs, 0, _ => by simp [Cr.counts]
  | x :: xs, j + 1, h => by
    have := Cr.counts_take (xs := xs) (j := j) (by simpa using h)
    simp only [List.take_succ_cons, Cr.counts, List.getElem_cons_succ, this]
    omega
theorem Cr.counts_take_le : ∀ {xs : List Cr} (j : Nat), Cr.counts (xs.take j) ≤ Cr.counts xs
  | [], j => by simp
  | x :: xs, 0 => by simp [Cr.counts]
  | x :: xs, j + 1 => by
    have := Cr.counts_take_le (xs := xs) j
    simp only [List.take_succ_cons, Cr.counts]
    omega
theorem Ca.counts_take : ∀ {xs : List Ca} {j : Nat} (h : j < xs.length), Ca.counts (xs.take (j + 1)) = Ca.counts (xs.take j) + xs[j].body.count
  | x :: xs, 0, _ => by simp [Ca.counts, Ca.count_body]
  | x :: xs, j + 1, h => by
    have := Ca.counts_take (xs := xs) (j := j) (by simpa using h)
    simp only [List.take_succ_cons, Ca.counts, List.getElem_cons_succ, this]
    omega
theorem Ca.counts_take_le : ∀ {xs : List Ca} (j : Nat), Ca.counts (xs.take j) ≤ Ca.counts xs
  | [], j => by simp
  | x :: xs, 0 => by simp [Ca.counts]
  | x :: xs, j + 1 => by
    have := Ca.counts_take_le (xs := xs) j
    simp only [List.take_succ_cons, Ca.counts]
    omega
mutual
theorem Cr.count_bulk : ∀ x : Cr, x.count ≤ 1 + x.enc.bulk
  | .mk k n m l ns ks qs => by
    have h1 := Cr.counts_bulk ks
    have h2 := Ca.counts_bulk qs
    simp only [Cr.count, Cr.enc, D.bulk, D.bulks, Cr.encs_length, Ca.encs_length]
    omega
theorem Cr.counts_bulk : ∀ xs : List Cr, Cr.counts xs ≤ xs.length + D.bulks (Cr.encs xs)
  | [] => by simp [Cr.counts]
  | x :: xs => by
    have h1 := Cr.count_bulk x
    have h2 := Cr.counts_bulk xs
    simp only [Cr.counts, Cr.encs, D.bulks, List.length_cons]
    omega
theorem Ca.count_bulk : ∀ x : Ca, x.count ≤ 1 + x.enc.bulk
  | .mk c ns b => by
    have h1 := Cr.count_bulk b
    simp only [Ca.count, Ca.enc, D.bulk, D.bulks]
    omega
theorem Ca.counts_bulk : ∀ xs : List Ca, Ca.counts xs ≤ xs.length + D.bulks (Ca.encs xs)
  | [] => by simp [Ca.counts]
  | x :: xs => by
    have h1 := Ca.count_bulk x
    have h2 := Ca.counts_bulk xs
    simp only [Ca.counts, Ca.encs, D.bulks, List.length_cons]
    omega
end

/-- An alternative's cells: name, names, body. -/
theorem Ca.openB {w : World} {a : Ca} {cs : List Value} (h : Rd w a.enc cs) : ∃ v bs, cs = .string a.con :: v :: bs ∧ bs.length = 7 ∧ Rd w (.slice 1 (strs a.names)) [v] ∧ Rd w a.body.enc bs := by
  cases a with
  | mk c ns b =>
    simp only [Ca.enc] at h
    rw [rd_struct] at h
    simp only [rdF_cons, rdF_nil, rd_str] at h
    obtain ⟨e0, r0, rfl, rfl, e1, r1, rfl, h1, e2, r2, rfl, h2, rfl⟩ := h
    obtain ⟨v, rfl⟩ : ∃ v, e1 = [v] := by
      obtain ⟨A, c, rfl, _⟩ := rd_slice h1
      exact ⟨_, rfl⟩
    exact ⟨v, e2, by simp [Ca.con], by rw [h2.len]; exact b.n, h1, h2⟩

def SpecCount (x : Cr) : Prop := x.count ≤ 1048577 → ∀ (w : World) (cs : List Value), Rd w x.enc cs →
  Calls Try.prog 22 #[.agg cs.toArray] w fun e w' => e = .returned (.int .i64 x.count) ∧ Below w.heap.size w w'

set_option maxRecDepth 100000 in
set_option maxHeartbeats 1000000 in
theorem SpecCount_of (k : Int) (n : ByteArray) (m : Bool) (l : List Int) (ns : List ByteArray) (ks : List Cr) (qs : List Ca) (hkn : ks.length ≤ 140737488351232) (han : qs.length ≤ 140737488351232) (ih : ∀ x ∈ ks, SpecCount x) (ia : ∀ a ∈ qs, SpecCount a.body) : SpecCount (.mk k n m l ns ks qs) := by
  intro hcount w cs h
  simp only [Cr.count] at hcount
  obtain ⟨AL, cL, AN, cN, AK, cK, AA, cA, rfl, _, _, rK, rA, _, _, _, _⟩ := Cr.open_ h
  have IH := Lib.hid ih
  have IA := Lib.hid ia
  have B1 := Lib.hid ((Below.refl w.heap.size w).alloc (Nat.le_refl _) (.cells #[.int .i64 k, .string n, .bool m, .slice AL l.length cL, .slice AN ns.length cN, .slice AK ks.length cK, .slice AA qs.length cA] 36))
  have RK := Lib.hid (RdRow.below rK (by omega) B1.out)
  have RA := Lib.hid (RdRow.below rA (by omega) B1.out)
  have BK := Lib.hid (blk_new w (.cells #[.int .i64 k, .string n, .bool m, .slice AL l.length cL, .slice AN ns.length cN, .slice AK ks.length cK, .slice AA qs.length cA] 36))
  have HSW : Hid ((w.alloc (.cells #[.int .i64 k, .string n, .bool m, .slice AL l.length cL, .slice AN ns.length cN, .slice AK ks.length cK, .slice AA qs.length cA] 36)).heap.size = w.heap.size + 1) := by simp [Hid]
  clear ih ia h rK rA
  go_enter Try.func22, Try.ntmps22
  go_wp2_with fail
  generalize hW : w.alloc (.cells #[.int .i64 k, .string n, .bool m, .slice AL l.length cL, .slice AN ns.length cN, .slice AK ks.length cK, .slice AA qs.length cA] 36) = W at *
  clear hW
  go_loopw [3, 4] (fun s i wr => ∃ j : Nat, j ≤ ks.length ∧ i = .int .i64 j ∧ s = .int .i64 (1 + (Cr.counts (ks.take j) : Int)) ∧ Below W.heap.size W wr) (fun _ i _ => ks.length - (intOf i).toNat)
  case atStart => exact ⟨0, Nat.zero_le _, rfl, by simp [Cr.counts], Below.refl _ _⟩
  case round =>
    obtain ⟨j, hj, rfl, rfl, hb⟩ := hrel
    have z5 : World.cell? wr ⟨w.heap.size, 5, none⟩ = some (.slice AK ks.length cK) := (blk_cell (blk_below BK.out hb) 5).trans rfl
    have z6 : World.cell? wr ⟨w.heap.size, 6, none⟩ = some (.slice AA qs.length cA) := (blk_cell (blk_below BK.out hb) 6).trans rfl
    by_cases hlt : j < ks.length
    · obtain ⟨b, off, es, rfl, hcl, hrd, hc⟩ := (RdRow.below RK.out (by omega) hb).get (i := j) (x := ks[j].enc) (by simp [Cr.encs_map, List.getElem?_eq_getElem hlt])
      obtain ⟨u0, u1, u2, u3, u4, u5, u6, rfl⟩ := cells7 hcl
      have e0 : wr.cell? ⟨b, off + j * 7, none⟩ = some u0 := hc 0 _ rfl
      have e1 : wr.cell? ⟨b, off + j * 7 + 1, none⟩ = some u1 := hc 1 _ rfl
      have e2 : wr.cell? ⟨b, off + j * 7 + 2, none⟩ = some u2 := hc 2 _ rfl
      have e3 : wr.cell? ⟨b, off + j * 7 + 3, none⟩ = some u3 := hc 3 _ rfl
      have e4 : wr.cell? ⟨b, off + j * 7 + 4, none⟩ = some u4 := hc 4 _ rfl
      have e5 : wr.cell? ⟨b, off + j * 7 + 5, none⟩ = some u5 := hc 5 _ rfl
      have e6 : wr.cell? ⟨b, off + j * 7 + 6, none⟩ = some u6 := hc 6 _ rfl
      have t1 := Cr.counts_take hlt
      have t2 := Cr.counts_take_le (xs := ks) (j + 1)
      have CAL := Lib.hid (IH.out _ (List.getElem_mem hlt) (by omega) wr _ hrd)
      have HB := Lib.hid hb
      have T1 := Lib.hid t1
      have t3 : Cr.counts (ks.take j) + ks[j].count ≤ 1048576 := by omega
      clear hrd hcl hc hb t1 t2
      generalize ks[j].count = q at *
      generalize hp : Cr.counts (ks.take j) = p at *
      go_wp2_with fail
      refine CAL.out.mono ?_
      rintro e w1 ⟨rfl, hb1⟩
      have HB1 := Lib.hid (HB.out.trans (hb1.mono HB.out.size))
      clear hb1 CAL
      go_wp2
      go_roundw
      case rel => exact ⟨j + 1, by omega, by go_num, by rw [T1.out]; congr 1; omega, HB1.out⟩
      case measure => simp [intOf]; omega
    · obtain rfl : j = ks.length := by omega
      have HX := Lib.hid hb
      clear hb hj hlt
      rw [List.take_length]
      go_wp2_with fail
      clear z5 z6
      go_loopw [3, 5] (fun s i wr => ∃ j : Nat, j ≤ qs.length ∧ i = .int .i64 j ∧ s = .int .i64 (1 + (Cr.counts ks : Int) + (Ca.counts (qs.take j) : Int)) ∧ Below W.heap.size W wr) (fun _ i _ => qs.length - (intOf i).toNat)
      case atStart => exact ⟨0, Nat.zero_le _, rfl, by simp [Ca.counts], HX.out⟩
      case round =>
        obtain ⟨j, hj, rfl, rfl, hb⟩ := hrel
        clear HX
        have z5 : World.cell? wr ⟨w.heap.size, 5, none⟩ = some (.slice AK ks.length cK) := (blk_cell (blk_below BK.out hb) 5).trans rfl
        have z6 : World.cell? wr ⟨w.heap.size, 6, none⟩ = some (.slice AA qs.length cA) := (blk_cell (blk_below BK.out hb) 6).trans rfl
        by_cases hlt : j < qs.length
        · obtain ⟨b, off, es, rfl, hcl, hrd, hc⟩ := (RdRow.below RA.out (by omega) hb).get (i := j) (x := qs[j].enc) (by simp [Ca.encs_map, List.getElem?_eq_getElem hlt])
          obtain ⟨nv, bs, rfl, hbl, _, hbd⟩ := Ca.openB hrd
          obtain ⟨u0, u1, u2, u3, u4, u5, u6, rfl⟩ := cells7 hbl
          have e0 : wr.cell? ⟨b, off + j * 9 + 2, none⟩ = some u0 := hc 2 _ rfl
          have e1 : wr.cell? ⟨b, off + j * 9 + 2 + 1, none⟩ = some u1 := hc 3 _ rfl
          have e2 : wr.cell? ⟨b, off + j * 9 + 2 + 2, none⟩ = some u2 := hc 4 _ rfl
          have e3 : wr.cell? ⟨b, off + j * 9 + 2 + 3, none⟩ = some u3 := hc 5 _ rfl
          have e4 : wr.cell? ⟨b, off + j * 9 + 2 + 4, none⟩ = some u4 := hc 6 _ rfl
          have e5 : wr.cell? ⟨b, off + j * 9 + 2 + 5, none⟩ = some u5 := hc 7 _ rfl
          have e6 : wr.cell? ⟨b, off + j * 9 + 2 + 6, none⟩ = some u6 := hc 8 _ rfl
          have f1 : wr.cell? ⟨b, off + j * 9 + 3, none⟩ = some u1 := hc 3 _ rfl
          have f2 : wr.cell? ⟨b, off + j * 9 + 4, none⟩ = some u2 := hc 4 _ rfl
          have f3 : wr.cell? ⟨b, off + j * 9 + 5, none⟩ = some u3 := hc 5 _ rfl
          have f4 : wr.cell? ⟨b, off + j * 9 + 6, none⟩ = some u4 := hc 6 _ rfl
          have f5 : wr.cell? ⟨b, off + j * 9 + 7, none⟩ = some u5 := hc 7 _ rfl
          have f6 : wr.cell? ⟨b, off + j * 9 + 8, none⟩ = some u6 := hc 8 _ rfl
          have t1 := Ca.counts_take hlt
          have t2 := Ca.counts_take_le (xs := qs) (j + 1)
          have CAL := Lib.hid (IA.out _ (List.getElem_mem hlt) (by omega) wr _ hbd)
          have HB := Lib.hid hb
          have T1 := Lib.hid t1
          have t3 : Cr.counts ks + Ca.counts (qs.take j) + qs[j].body.count ≤ 1048576 := by omega
          clear hrd hcl hc hb t1 t2 hbd hbl
          generalize qs[j].body.count = q at *
          generalize hp : Ca.counts (qs.take j) = p at *
          generalize hr : Cr.counts ks = r at *
          go_wp2_with fail
          refine CAL.out.mono ?_
          rintro e w1 ⟨rfl, hb1⟩
          have HB1 := Lib.hid (HB.out.trans (hb1.mono HB.out.size))
          clear hb1 CAL
          go_wp2
          go_roundw
          case rel => exact ⟨j + 1, by omega, by go_num, by rw [T1.out]; congr 1; omega, HB1.out⟩
          case measure => simp [intOf]; omega
        · obtain rfl : j = qs.length := by omega
          have HB := Lib.hid (B1.out.trans (hb.mono (by rw [HSW]; omega)))
          clear hb
          rw [List.take_length]
          go_wp2
          go_ret
          refine ⟨?_, HB.out⟩
          have e : ((1 + (Cr.counts ks + Ca.counts qs) : Nat) : Int) = 1 + (Cr.counts ks : Int) + (Ca.counts qs : Int) := by omega
          rw [Cr.count, e]
          rfl

theorem SpecCount_all : ∀ (x : Cr), x.ok → SpecCount x :=
  Cr.induct fun k n m l ns ks qs ih ia h => by
    simp only [Cr.ok] at h
    obtain ⟨_, _, _, _, hk, ha, hks, has⟩ := h
    exact SpecCount_of k n m l ns ks qs hk ha (fun x hx => ih x hx (Cr.oks_mem hks x hx)) (fun a hm => ia a hm (Ca.body_ok (Ca.oks_mem has a hm)))

end Go.Proofs.Ytjemcaokiifomaa
