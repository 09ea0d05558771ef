/- Core terms: as data, read, and what the laws' own helpers do with them; no condition. -/
import Derived.Test.YthidbmjdphfddaaFamCore
import Derived.Test.YthidbmjdphfddaaTBig
import Derived.Test.YthidbmjdphfddaaStrs
namespace Go.Proofs.Ythidbmjdphfddaa
open Go.RowKit
set_option linter.unusedVariables false
set_option linter.unusedSimpArgs false

mutual
inductive Cr where
  | mk (kind : Int) (name : ByteArray) (minus : Bool) (limbs : List Int) (names : List ByteArray) (kids : List Cr) (alts : List Ca)
inductive Ca where
  | mk (con : ByteArray) (names : List ByteArray) (body : Cr)
end
mutual
def Cr.enc : Cr → D
  | .mk k n m l ns ks qs => .struct [.int .i64 k, .str n, bigD m l, .slice 1 (strs ns), .slice 7 (Cr.encs ks), .slice 9 (Ca.encs qs)]
def Cr.encs : List Cr → List D
  | [] => []
  | x :: xs => x.enc :: Cr.encs xs
def Ca.enc : Ca → D
  | .mk c ns b => .struct [.str c, .slice 1 (strs ns), b.enc]
def Ca.encs : List Ca → List D
  | [] => []
  | x :: xs => x.enc :: Ca.encs xs
end
mutual
def Cr.ok : Cr → Prop
  | .mk k n m l ns ks qs => (Lit.int .i64 k).wf = true ∧ n.size ≤ 140737488351232 ∧ (l.length ≤ 140737488351232 ∧ ∀ n ∈ l, (Lit.int .u32 n).wf = true) ∧ (ns.length ≤ 140737488351232 ∧ ∀ x ∈ ns, x.size ≤ 140737488351232) ∧ ks.length ≤ 140737488351232 ∧ qs.length ≤ 140737488351232 ∧ Cr.oks ks ∧ Ca.oks qs
def Cr.oks : List Cr → Prop
  | [] => True
  | x :: xs => x.ok ∧ Cr.oks xs
def Ca.ok : Ca → Prop
  | .mk c ns b => c.size ≤ 140737488351232 ∧ (ns.length ≤ 140737488351232 ∧ ∀ x ∈ ns, x.size ≤ 140737488351232) ∧ b.ok
def Ca.oks : List Ca → Prop
  | [] => True
  | x :: xs => x.ok ∧ Ca.oks xs
end
def Ca.con : Ca → ByteArray | .mk c _ _ => c
def Ca.names : Ca → List ByteArray | .mk _ ns _ => ns
def Ca.body : Ca → Cr | .mk _ _ b => b
mutual
theorem Cr.induct {P : Cr → Prop} (h : ∀ k n m l ns ks qs, (∀ x ∈ ks, P x) → (∀ a ∈ qs, P a.body) → P (.mk k n m l ns ks qs)) : ∀ x, P x
  | .mk k n m l ns ks qs => h k n m l ns ks qs (Cr.inducts h ks) (Ca.inducts h qs)
theorem Cr.inducts {P : Cr → Prop} (h : ∀ k n m l ns ks qs, (∀ x ∈ ks, P x) → (∀ a ∈ qs, P a.body) → P (.mk k n m l ns ks qs)) : ∀ (xs : List Cr), ∀ x ∈ xs, P x
  | [], x, hx => by cases hx
  | y :: ys, x, hx => by
    rcases List.mem_cons.1 hx with e | hx
    · rw [e]
      exact Cr.induct h y
    · exact Cr.inducts h ys x hx
theorem Ca.induct {P : Cr → Prop} (h : ∀ k n m l ns ks qs, (∀ x ∈ ks, P x) → (∀ a ∈ qs, P a.body) → P (.mk k n m l ns ks qs)) : ∀ (a : Ca), P a.body
  | .mk c ns b => Cr.induct h b
theorem Ca.inducts {P : Cr → Prop} (h : ∀ k n m l ns ks qs, (∀ x ∈ ks, P x) → (∀ a ∈ qs, P a.body) → P (.mk k n m l ns ks qs)) : ∀ (qs : List Ca), ∀ a ∈ qs, P a.body
  | [], x, hx => by cases hx
  | y :: ys, x, hx => by
    rcases List.mem_cons.1 hx with e | hx
    · rw [e]
      exact Ca.induct h y
    · exact Ca.inducts h ys x hx
end
theorem Cr.oks_mem : ∀ {xs : List Cr}, Cr.oks xs → ∀ x ∈ xs, x.ok
  | [], _, x, hx => by cases hx
  | y :: xs, h, x, hx => by
    simp only [Cr.oks] at h
    rcases List.mem_cons.1 hx with rfl | hx
    · exact h.1
    · exact Cr.oks_mem h.2 x hx
theorem Ca.oks_mem : ∀ {xs : List Ca}, Ca.oks xs → ∀ x ∈ xs, x.ok
  | [], _, x, hx => by cases hx
  | y :: xs, h, x, hx => by
    simp only [Ca.oks] at h
    rcases List.mem_cons.1 hx with rfl | hx
    · exact h.1
    · exact Ca.oks_mem h.2 x hx
theorem Ca.body_ok {a : Ca} (h : a.ok) : a.body.ok := by cases a; simp only [Ca.ok] at h; exact h.2.2
theorem Cr.encs_map (xs : List Cr) : Cr.encs xs = xs.map Cr.enc := by
  induction xs with
  | nil => simp [Cr.encs]
  | cons x xs ih => simp [Cr.encs, ih]
theorem Ca.encs_map (xs : List Ca) : Ca.encs xs = xs.map Ca.enc := by
  induction xs with
  | nil => simp [Ca.encs]
  | cons x xs ih => simp [Ca.encs, ih]
theorem Cr.encs_length (xs : List Cr) : (Cr.encs xs).length = xs.length := by simp [Cr.encs_map]
theorem Ca.encs_length (xs : List Ca) : (Ca.encs xs).length = xs.length := by simp [Ca.encs_map]
theorem Cr.encs_mem {xs : List Cr} {P : D → Prop} (h : ∀ x ∈ xs, P x.enc) : ∀ y ∈ Cr.encs xs, P y := by
  rw [Cr.encs_map]
  intro y hy
  obtain ⟨x, hx, rfl⟩ := List.mem_map.1 hy
  exact h x hx
theorem Ca.encs_mem {xs : List Ca} {P : D → Prop} (h : ∀ x ∈ xs, P x.enc) : ∀ y ∈ Ca.encs xs, P y := by
  rw [Ca.encs_map]
  intro y hy
  obtain ⟨x, hx, rfl⟩ := List.mem_map.1 hy
  exact h x hx
theorem Cr.n (x : Cr) : x.enc.n = 7 := by cases x; simp only [Cr.enc, bigD]; rfl
theorem Ca.n (x : Ca) : x.enc.n = 9 := by
  cases x with
  | mk c ns b => cases b; simp only [Ca.enc, Cr.enc, bigD]; rfl
theorem Cr.open_ {w : World} {k : Int} {n : ByteArray} {m : Bool} {l : List Int} {ns : List ByteArray} {ks : List Cr} {qs : List Ca} {cs : List Value} (h : Rd w (Cr.mk k n m l ns ks qs).enc cs) :
    ∃ AL cL AN cN AK cK AA cA, cs = [.int .i64 k, .string n, .bool m, .slice AL l.length cL, .slice AN ns.length cN, .slice AK ks.length cK, .slice AA qs.length cA] ∧
      RdRow w 1 AL (u32s l) ∧ RdRow w 1 AN (strs ns) ∧ RdRow w 7 AK (Cr.encs ks) ∧ RdRow w 9 AA (Ca.encs qs) ∧ Rd w (bigD m l) [.bool m, .slice AL l.length cL] ∧ Rd w (.slice 1 (strs ns)) [.slice AN ns.length cN] ∧ Rd w (.slice 7 (Cr.encs ks)) [.slice AK ks.length cK] ∧ Rd w (.slice 9 (Ca.encs qs)) [.slice AA qs.length cA] := by
  simp only [Cr.enc, bigD] at h
  obtain ⟨AL, cL, AN, cN, AK, cK, AA, cA, rfl, h1, h2, h3, h4⟩ := openCore h
  rw [u32s_length, strs_length, Cr.encs_length, Ca.encs_length] at *
  refine ⟨AL, cL, AN, cN, AK, cK, AA, cA, rfl, ?_, ?_, ?_, ?_, h1, h2, h3, h4⟩
  · obtain ⟨A', c', e, _, _, hr⟩ := openBg (m := m) (l := l) h1
    simp only [List.cons.injEq, Value.slice.injEq, and_true, true_and] at e
    rw [e.1]
    exact hr
  · obtain ⟨A', c', e, _, _, hr⟩ := rd_slice h2
    simp only [List.cons.injEq, Value.slice.injEq, and_true] at e
    rw [e.1]
    exact hr
  · obtain ⟨A', c', e, _, _, hr⟩ := rd_slice h3
    simp only [List.cons.injEq, Value.slice.injEq, and_true] at e
    rw [e.1]
    exact hr
  · obtain ⟨A', c', e, _, _, hr⟩ := rd_slice h4
    simp only [List.cons.injEq, Value.slice.injEq, and_true] at e
    rw [e.1]
    exact hr
theorem Cr.sz : ∀ x : Cr, x.ok → SzA Try.prog 10 x.enc :=
  Cr.induct fun k n m l ns ks qs ih ia h => by
    simp only [Cr.ok] at h
    obtain ⟨_, hn, hl, hns, hk, ha, hks, has⟩ := h
    simp only [Cr.enc, bigD]
    refine szCore_of k n m (u32s l) (strs ns) (Cr.encs ks) (Ca.encs qs) hn (szBg m l hl.1) (szStrs ns hns.1 hns.2) (szCoreS_of _ (by rw [Cr.encs_length]; exact hk) (Cr.encs_mem fun x hx => ih x hx (Cr.oks_mem hks x hx))) (szCoreAltS_of _ (by rw [Ca.encs_length]; exact ha) (Ca.encs_mem fun a ham => ?_))
    have hok := Ca.oks_mem has a ham
    have hb := ia a ham (Ca.body_ok hok)
    obtain ⟨c, bns, b⟩ := a
    obtain ⟨bk, bn, bm, bl, bs, bks, bas⟩ := b
    simp only [Ca.ok] at hok
    simp only [Ca.body, Cr.enc, bigD] at hb
    simp only [Ca.enc, Cr.enc, bigD]
    exact szCoreAlt_of c (strs bns) bk bn bm (u32s bl) (strs bs) (Cr.encs bks) (Ca.encs bas) hok.1 (szStrs bns hok.2.1.1 hok.2.1.2) hb
theorem Cr.eq : ∀ x : Cr, x.ok → EqA Try.prog 15 x.enc :=
  Cr.induct fun k n m l ns ks qs ih ia h => by
    simp only [Cr.ok] at h
    obtain ⟨_, hn, hl, hns, hk, ha, hks, has⟩ := h
    simp only [Cr.enc, bigD]
    refine eqCore_of k n m (u32s l) (strs ns) (Cr.encs ks) (Ca.encs qs) (eqBg m l hl.1) (eqStrs ns hns.1) (eqCoreS_of _ (by rw [Cr.encs_length]; exact hk) (Cr.encs_mem fun x hx => ih x hx (Cr.oks_mem hks x hx))) (eqCoreAltS_of _ (by rw [Ca.encs_length]; exact ha) (Ca.encs_mem fun a ham => ?_))
    have hok := Ca.oks_mem has a ham
    have hb := ia a ham (Ca.body_ok hok)
    obtain ⟨c, bns, b⟩ := a
    obtain ⟨bk, bn, bm, bl, bs, bks, bas⟩ := b
    simp only [Ca.ok] at hok
    simp only [Ca.body, Cr.enc, bigD] at hb
    simp only [Ca.enc, Cr.enc, bigD]
    exact eqCoreAlt_of c (strs bns) bk bn bm (u32s bl) (strs bs) (Cr.encs bks) (Ca.encs bas) (eqStrs bns hok.2.1.1) hb
theorem Cr.bulk_parts {k : Int} {n : ByteArray} {m : Bool} {l : List Int} {ns : List ByteArray} {ks : List Cr} {qs : List Ca} (h : (Cr.mk k n m l ns ks qs).enc.bulk ≤ 1048576) :
    n.size ≤ 1048576 ∧ (bigD m l).bulk ≤ 1048576 ∧ (D.slice 1 (strs ns)).bulk ≤ 1048576 ∧ (D.slice 7 (Cr.encs ks)).bulk ≤ 1048576 ∧ (D.slice 9 (Ca.encs qs)).bulk ≤ 1048576 := by
  simp only [Cr.enc, D.bulk, D.bulks] at h ⊢
  omega
theorem Ca.bulk_parts {c : ByteArray} {ns : List ByteArray} {b : Cr} (h : (Ca.mk c ns b).enc.bulk ≤ 1048576) : c.size ≤ 1048576 ∧ (D.slice 1 (strs ns)).bulk ≤ 1048576 ∧ b.enc.bulk ≤ 1048576 := by
  simp only [Ca.enc, D.bulk, D.bulks] at h ⊢
  omega
theorem Cr.kid_bulk {ks : List Cr} (h : (D.slice 7 (Cr.encs ks)).bulk ≤ 1048576) : ks.length ≤ 1048576 ∧ ∀ x ∈ ks, x.enc.bulk ≤ 1048576 := by
  obtain ⟨h1, h2⟩ := D.bulk_slice h
  rw [Cr.encs_length] at h1
  exact ⟨h1, fun x hx => h2 _ (by rw [Cr.encs_map]; exact List.mem_map.2 ⟨x, hx, rfl⟩)⟩
theorem Ca.alt_bulk {qs : List Ca} (h : (D.slice 9 (Ca.encs qs)).bulk ≤ 1048576) : qs.length ≤ 1048576 ∧ ∀ x ∈ qs, x.enc.bulk ≤ 1048576 := by
  obtain ⟨h1, h2⟩ := D.bulk_slice h
  rw [Ca.encs_length] at h1
  exact ⟨h1, fun x hx => h2 _ (by rw [Ca.encs_map]; exact List.mem_map.2 ⟨x, hx, rfl⟩)⟩
theorem Cr.to : ∀ x : Cr, x.enc.bulk ≤ 1048576 → ToA Try.prog 12 x.enc :=
  Cr.induct fun k n m l ns ks qs ih ia h => by
    obtain ⟨_, h1, h2, h3, h4⟩ := Cr.bulk_parts h
    have k1 := Cr.kid_bulk h3
    have k2 := Ca.alt_bulk h4
    simp only [Cr.enc, bigD]
    refine toCore_of k n m (u32s l) (strs ns) (Cr.encs ks) (Ca.encs qs) (toBg m l h1) (toStrs ns h2) (toCoreS_of _ (by rw [Cr.encs_length]; exact k1.1) (Cr.encs_mem fun x _ => x.n) (Cr.encs_mem fun x hx => ih x hx (k1.2 x hx))) (toCoreAltS_of _ (by rw [Ca.encs_length]; exact k2.1) (Ca.encs_mem fun x _ => x.n) (Ca.encs_mem fun a ham => ?_))
    have hbk := k2.2 a ham
    have hb := ia a ham
    obtain ⟨c, bns, b⟩ := a
    have hb := hb (Ca.bulk_parts hbk).2.2
    have hs := (Ca.bulk_parts hbk).2.1
    obtain ⟨bk, bn, bm, bl, bs, bks, bas⟩ := b
    simp only [Ca.body, Cr.enc, bigD] at hb
    simp only [Ca.enc, Cr.enc, bigD]
    exact toCoreAlt_of c (strs bns) bk bn bm (u32s bl) (strs bs) (Cr.encs bks) (Ca.encs bas) (toStrs bns hs) hb
theorem Cr.list_of {xs : List D} (h : ∀ x ∈ xs, ∃ t : Cr, x = t.enc ∧ t.ok) : ∃ ts : List Cr, xs = Cr.encs ts ∧ Cr.oks ts := by
  induction xs with
  | nil => exact ⟨[], by simp [Cr.encs], by simp [Cr.oks]⟩
  | cons x xs ih =>
    obtain ⟨nd, rfl, ho⟩ := h x (by simp)
    obtain ⟨nds, rfl, hos⟩ := ih (fun y hy => h y (by simp [hy]))
    exact ⟨nd :: nds, by simp [Cr.encs], by simp [Cr.oks, ho, hos]⟩
theorem Ca.list_of {xs : List D} (h : ∀ x ∈ xs, ∃ t : Ca, x = t.enc ∧ t.ok) : ∃ ts : List Ca, xs = Ca.encs ts ∧ Ca.oks ts := by
  induction xs with
  | nil => exact ⟨[], by simp [Ca.encs], by simp [Ca.oks]⟩
  | cons x xs ih =>
    obtain ⟨nd, rfl, ho⟩ := h x (by simp)
    obtain ⟨nds, rfl, hos⟩ := ih (fun y hy => h y (by simp [hy]))
    exact ⟨nd :: nds, by simp [Ca.encs], by simp [Ca.oks, ho, hos]⟩
theorem opensLBoth : ∀ N, Opens Try.prog 29 (fun y => ∃ t : Cr, y = t.enc ∧ t.ok) N ∧ Opens Try.prog 166 (fun y => ∃ t : Ca, y = t.enc ∧ t.ok) N
  | 0 => ⟨opens_zero, opens_zero⟩
  | N + 1 => by
    have hr : reachBytes = 140737488351232 := by decide
    refine ⟨?_, ?_⟩
    · have hk : Opens Try.prog 26 _ N := (opens_slice (sz := 7) (B := 128) Try.underlying26 (by kernel_rfl) (by kernel_rfl) (by omega) (by kernel_rfl) (opensLBoth N).1).le (Nat.le_succ N)
      have ha : Opens Try.prog 27 _ N := (opens_slice (sz := 9) (B := 168) Try.underlying27 (by kernel_rfl) (by kernel_rfl) (by omega) (by kernel_rfl) (opensLBoth N).2).le (Nat.le_succ N)
      refine (opens_struct Try.underlying29 (by kernel_rfl) (opensF_cons (c := 1) rfl (by kernel_rfl) (opens_int Try.underlying2 (by kernel_rfl) N) (opensF_cons (c := 1) rfl (by kernel_rfl) (opens_str Try.underlying9 (by kernel_rfl) N) (opensF_cons (c := 2) rfl (by kernel_rfl) (opensBigL N) (opensF_cons (c := 1) rfl (by kernel_rfl) (opensStrs N) (opensF_cons (c := 1) rfl (by kernel_rfl) hk (opensF_cons (c := 1) rfl (by kernel_rfl) ha opensF_nil))))))).imp ?_
      rintro y ⟨ys, rfl, _, _, rfl, ⟨k, rfl, hk⟩, _, _, rfl, ⟨n, rfl, hn⟩, _, _, rfl, ⟨m, l, rfl, hl⟩, _, _, rfl, ⟨ns, rfl, hns⟩, _, _, rfl, ⟨xs, rfl, hxl, hx⟩, _, _, rfl, ⟨zs, rfl, hzl, hz⟩, rfl⟩
      obtain ⟨ks, rfl, hks⟩ := Cr.list_of hx
      obtain ⟨qs, rfl, has⟩ := Ca.list_of hz
      rw [Cr.encs_length] at hxl
      rw [Ca.encs_length] at hzl
      refine ⟨.mk k n m l ns ks qs, by simp only [Cr.enc], ?_⟩
      simp only [Cr.ok]
      exact ⟨hk, by omega, hl, hns, by omega, by omega, hks, has⟩
    · refine (opens_struct Try.underlying166 (by kernel_rfl) (opensF_cons (c := 1) rfl (by kernel_rfl) (opens_str Try.underlying9 (by kernel_rfl) N) (opensF_cons (c := 1) rfl (by kernel_rfl) (opensStrs N) (opensF_cons (c := 7) rfl (by kernel_rfl) (opensLBoth N).1 opensF_nil)))).imp ?_
      rintro y ⟨ys, rfl, _, _, rfl, ⟨n, rfl, hn⟩, _, _, rfl, ⟨ns, rfl, hns⟩, _, _, rfl, ⟨b, rfl, hb⟩, rfl⟩
      refine ⟨.mk n ns b, by simp only [Ca.enc], ?_⟩
      simp only [Ca.ok]
      exact ⟨by omega, hns, hb⟩
theorem opensLCore (N : Nat) : Opens Try.prog 29 (fun y => ∃ t : Cr, y = t.enc ∧ t.ok) N := (opensLBoth N).1

end Go.Proofs.Ythidbmjdphfddaa
