/- Core terms without fault: the shape of one term, how many terms and names it holds, how deep it goes. No function is walked here. -/
import Derived.Test.YthidbmjdphfddaaCr
import Derived.StillTailTactics
namespace Go.Proofs.Ythidbmjdphfddaa
open Go.RowKit
set_option linter.unusedVariables false
set_option linter.unusedSimpArgs false

/-- An alternative's cells: name, names, body. -/
theorem Ca.openB {w : World} {a : Ca} {cs : List Value} (h : Rd w a.enc cs) : ∃ v bs, cs = .string a.con :: v :: bs ∧ bs.length = 7 ∧ Rd w (.slice 1 (strs a.names)) [v] ∧ Rd w a.body.enc bs := by
  cases a with
  | mk c ns b =>
    simp only [Ca.enc] at h
    rw [rd_struct] at h
    simp only [rdF_cons, rdF_nil, rd_str] at h
    obtain ⟨e0, r0, rfl, rfl, e1, r1, rfl, h1, e2, r2, rfl, h2, rfl⟩ := h
    obtain ⟨v, rfl⟩ : ∃ v, e1 = [v] := by
      obtain ⟨A, c, rfl, _⟩ := rd_slice h1
      exact ⟨_, rfl⟩
    exact ⟨v, e2, by simp [Ca.con], by rw [h2.len]; exact b.n, h1, h2⟩

theorem cell_lt {w : World} {p : Addr} {v : Value} (h : w.cell? p = some v) : p.block < w.heap.size := by
  apply Classical.byContradiction
  intro hn
  have : w.heap[p.block]? = none := Array.getElem?_eq_none (by omega)
  simp [World.cell?, this] at h
theorem cell_below {w w1 : World} {p : Addr} {v : Value} (hb : Below w.heap.size w w1) (h : w.cell? p = some v) : w1.cell? p = some v := (hb.cell (cell_lt h)).trans h

def dupF : List ByteArray → List ByteArray → Bool
  | _, [] => false
  | seen, x :: xs => isIn seen x || dupF (seen ++ [x]) xs
def fullN (ns : List ByteArray) : Bool := ns.all fun x => !x.toList.isEmpty
def okNames (ns : List ByteArray) : Bool := fullN ns && !dupF [] ns
def unlF : List ByteArray → List ByteArray → Bool
  | _, [] => true
  | seen, x :: xs => (!x.toList.isEmpty && !isIn seen x) && unlF (seen ++ [x]) xs
theorem unlF_eq : ∀ (xs seen : List ByteArray), unlF seen xs = (fullN xs && !dupF seen xs)
  | [], _ => by simp [unlF, fullN, dupF]
  | x :: xs, seen => by
    have ih := unlF_eq xs (seen ++ [x])
    simp only [unlF, ih, fullN, dupF, List.all_cons]
    cases x.toList.isEmpty <;> cases isIn seen x <;> cases (xs.all fun x => !x.toList.isEmpty) <;> simp
theorem dupF_step {l : List ByteArray} {j : Nat} (hj : j < l.length) : dupF (l.take j) (l.drop j) = (isIn (l.take j) l[j] || dupF (l.take (j + 1)) (l.drop (j + 1))) := by
  rw [List.drop_eq_getElem_cons hj, dupF, List.take_succ_eq_append_getElem hj]
theorem unlF_step {l : List ByteArray} {j : Nat} (hj : j < l.length) : unlF (l.take j) (l.drop j) = ((!l[j].toList.isEmpty && !isIn (l.take j) l[j]) && unlF (l.take (j + 1)) (l.drop (j + 1))) := by
  rw [List.drop_eq_getElem_cons hj, unlF, List.take_succ_eq_append_getElem hj]
theorem fullN_step {l : List ByteArray} {j : Nat} (hj : j < l.length) : fullN (l.drop j) = (!l[j].toList.isEmpty && fullN (l.drop (j + 1))) := by
  rw [List.drop_eq_getElem_cons hj, fullN, List.all_cons]; rfl

/-- The alternatives of a case. -/
def altsOk (qs : List Ca) : Bool := (qs.all fun a => okNames a.names) && okNames (qs.map Ca.con)
def altN : List Ca → Nat
  | [] => 0
  | a :: qs => a.names.length + altN qs
theorem altN_step {qs : List Ca} {j : Nat} (hj : j < qs.length) : altN (qs.take (j + 1)) = altN (qs.take j) + qs[j].names.length := by
  rw [List.take_succ_eq_append_getElem hj]
  generalize qs.take j = l
  induction l with
  | nil => simp [altN]
  | cons a l ih => simp only [List.cons_append, altN, ih]; omega
theorem altN_take_le (qs : List Ca) (j : Nat) : altN (qs.take j) ≤ altN qs := by
  induction qs generalizing j with
  | nil => simp [altN]
  | cons x xs ih =>
    cases j with
    | zero => simp [altN]
    | succ j => simp only [List.take_succ_cons, altN]; have := ih j; omega
/-- How many arguments a primitive takes. -/
def primTwo : List (List UInt8) := [[112, 114, 105, 109, 65, 100, 100], [112, 114, 105, 109, 83, 117, 98], [112, 114, 105, 109, 77, 117, 108], [112, 114, 105, 109, 68, 105, 118], [112, 114, 105, 109, 77, 111, 100], [112, 114, 105, 109, 69, 113], [112, 114, 105, 109, 76, 101, 115, 115], [112, 114, 105, 109, 83, 101, 113]]
def primOne : List (List UInt8) := [[112, 114, 105, 109, 79, 114, 100], [112, 114, 105, 109, 67, 104, 114], [112, 114, 105, 109, 83, 104, 111, 119], [112, 114, 105, 109, 69, 114, 114, 111, 114]]
def primN (s : ByteArray) : Int := if primTwo.any (fun x => s.toList == x) then 2 else if primOne.any (fun x => s.toList == x) then 1 else 0
theorem primN_le (s : ByteArray) : 0 ≤ primN s ∧ primN s ≤ 2 := by unfold primN; split <;> (try split) <;> omega

/-- One term has the shape of its kind (nk: how many kids). -/
def fitP (k : Int) (n : ByteArray) (m : Bool) (l : List Int) (ns : List ByteArray) (nk : Nat) (qs : List Ca) : Prop :=
  (k ≠ 2 → m = false ∧ l.length = 0) ∧ (k ≠ 8 → qs.length = 0) ∧ (k ≠ 6 → k ≠ 7 → ns.length = 0) ∧
  ((k = 1 ∧ n.toList ≠ [] ∧ nk = 0) ∨ (k = 2 ∧ n.toList = [] ∧ nk = 0 ∧ bigFault m l = false) ∨ (k = 3 ∧ n.size = 1 ∧ nk = 0) ∨ (k = 4 ∧ n.toList ≠ []) ∨ (k = 5 ∧ n.toList = [] ∧ 2 ≤ nk) ∨
   (k = 6 ∧ n.toList = [] ∧ nk = 1 ∧ 1 ≤ ns.length ∧ okNames ns = true) ∨ (k = 7 ∧ n.toList = [] ∧ 1 ≤ ns.length ∧ nk = ns.length + 1 ∧ okNames ns = true) ∨
   (k = 8 ∧ 1 ≤ nk ∧ nk ≤ 2 ∧ (nk = 2 ∨ 1 ≤ qs.length) ∧ altsOk qs = true) ∨ (k = 9 ∧ 0 < primN n ∧ (nk : Int) = primN n) ∨ (k = 10 ∧ n.toList ≠ [] ∧ n.size ≤ 60000 ∧ nk = 0))

mutual
def Cr.wt : Cr → Nat
  | .mk _ _ _ _ ns ks qs => 1 + ns.length + altN qs + (Cr.wts ks + Ca.wts qs)
def Cr.wts : List Cr → Nat
  | [] => 0
  | x :: xs => x.wt + Cr.wts xs
def Ca.wt : Ca → Nat
  | .mk _ _ b => b.wt
def Ca.wts : List Ca → Nat
  | [] => 0
  | x :: xs => x.wt + Ca.wts xs
end
mutual
def Cr.wti : Cr → Nat
  | .mk k _ _ _ ns ks qs => 1 + (if k = 6 ∨ k = 7 then ns.length else 0) + altN qs + (Cr.wtis ks + Ca.wtis qs)
def Cr.wtis : List Cr → Nat
  | [] => 0
  | x :: xs => x.wti + Cr.wtis xs
def Ca.wti : Ca → Nat
  | .mk _ _ b => b.wti
def Ca.wtis : List Ca → Nat
  | [] => 0
  | x :: xs => x.wti + Ca.wtis xs
end
mutual
def Cr.okd : Cr → Int → Prop
  | .mk _ _ _ _ _ ks qs, d => d ≤ 1000 ∧ Cr.okds ks (d + 1) ∧ Ca.okds qs (d + 1)
def Cr.okds : List Cr → Int → Prop
  | [], _ => True
  | x :: xs, d => x.okd d ∧ Cr.okds xs d
def Ca.okd : Ca → Int → Prop
  | .mk _ _ b, d => b.okd d
def Ca.okds : List Ca → Int → Prop
  | [], _ => True
  | x :: xs, d => x.okd d ∧ Ca.okds xs d
end
mutual
def Cr.shp : Cr → Prop
  | .mk k n m l ns ks qs => fitP k n m l ns ks.length qs ∧ Cr.shps ks ∧ Ca.shps qs
def Cr.shps : List Cr → Prop
  | [] => True
  | x :: xs => x.shp ∧ Cr.shps xs
def Ca.shp : Ca → Prop
  | .mk _ _ b => b.shp
def Ca.shps : List Ca → Prop
  | [] => True
  | x :: xs => x.shp ∧ Ca.shps xs
end
theorem Ca.wt_body (a : Ca) : a.wt = a.body.wt := by cases a; simp only [Ca.wt, Ca.body]
theorem Ca.wti_body (a : Ca) : a.wti = a.body.wti := by cases a; simp only [Ca.wti, Ca.body]
theorem Ca.okd_body (a : Ca) (d : Int) : a.okd d = a.body.okd d := by cases a; simp only [Ca.okd, Ca.body]
theorem Ca.shp_body (a : Ca) : a.shp = a.body.shp := by cases a; simp only [Ca.shp, Ca.body]
section
variable {xs : List Cr} {qs : List Ca} {j : Nat}
theorem Cr.wts_drop (hj : j < xs.length) : Cr.wts (xs.drop j) = xs[j].wt + Cr.wts (xs.drop (j + 1)) := by rw [List.drop_eq_getElem_cons hj, Cr.wts]
theorem Ca.wts_drop (hj : j < qs.length) : Ca.wts (qs.drop j) = qs[j].body.wt + Ca.wts (qs.drop (j + 1)) := by rw [List.drop_eq_getElem_cons hj, Ca.wts, Ca.wt_body]
theorem Cr.wtis_drop (hj : j < xs.length) : Cr.wtis (xs.drop j) = xs[j].wti + Cr.wtis (xs.drop (j + 1)) := by rw [List.drop_eq_getElem_cons hj, Cr.wtis]
theorem Ca.wtis_drop (hj : j < qs.length) : Ca.wtis (qs.drop j) = qs[j].body.wti + Ca.wtis (qs.drop (j + 1)) := by rw [List.drop_eq_getElem_cons hj, Ca.wtis, Ca.wti_body]
theorem Cr.okds_drop (hj : j < xs.length) (d : Int) : Cr.okds (xs.drop j) d ↔ xs[j].okd d ∧ Cr.okds (xs.drop (j + 1)) d := by rw [List.drop_eq_getElem_cons hj, Cr.okds]
theorem Ca.okds_drop (hj : j < qs.length) (d : Int) : Ca.okds (qs.drop j) d ↔ qs[j].body.okd d ∧ Ca.okds (qs.drop (j + 1)) d := by rw [List.drop_eq_getElem_cons hj, Ca.okds, Ca.okd_body]
theorem Cr.shps_drop (hj : j < xs.length) : Cr.shps (xs.drop j) ↔ xs[j].shp ∧ Cr.shps (xs.drop (j + 1)) := by rw [List.drop_eq_getElem_cons hj, Cr.shps]
theorem Ca.shps_drop (hj : j < qs.length) : Ca.shps (qs.drop j) ↔ qs[j].body.shp ∧ Ca.shps (qs.drop (j + 1)) := by rw [List.drop_eq_getElem_cons hj, Ca.shps, Ca.shp_body]
end
theorem Cr.shps_mem : ∀ {xs : List Cr}, Cr.shps xs → ∀ x ∈ xs, x.shp
  | [], _, x, hx => by cases hx
  | y :: xs, h, x, hx => by
    simp only [Cr.shps] at h
    rcases List.mem_cons.1 hx with rfl | hx
    · exact h.1
    · exact Cr.shps_mem h.2 x hx
theorem Ca.shps_mem : ∀ {xs : List Ca}, Ca.shps xs → ∀ x ∈ xs, x.body.shp
  | [], _, x, hx => by cases hx
  | y :: xs, h, x, hx => by
    simp only [Ca.shps] at h
    rcases List.mem_cons.1 hx with rfl | hx
    · rw [← Ca.shp_body]; exact h.1
    · exact Ca.shps_mem h.2 x hx
mutual
/-- Of a term whose shape is right both ways to count come to the same. -/
theorem Cr.wti_wt : ∀ x : Cr, x.shp → x.wti = x.wt
  | .mk k n m l ns ks qs, h => by
    simp only [Cr.shp] at h
    have h1 := Cr.wtis_wts ks h.2.1
    have h2 := Ca.wtis_wts qs h.2.2
    have h3 := h.1.2.2.1
    simp only [Cr.wti, Cr.wt, h1, h2]
    by_cases hk : k = 6 ∨ k = 7
    · rw [if_pos hk]
    · rw [if_neg hk, h3 (by omega) (by omega)]
theorem Cr.wtis_wts : ∀ xs : List Cr, Cr.shps xs → Cr.wtis xs = Cr.wts xs
  | [], _ => by simp [Cr.wtis, Cr.wts]
  | x :: xs, h => by
    simp only [Cr.shps] at h
    simp only [Cr.wtis, Cr.wts, Cr.wti_wt x h.1, Cr.wtis_wts xs h.2]
theorem Ca.wti_wt : ∀ x : Ca, x.shp → x.wti = x.wt
  | .mk c ns b, h => by
    simp only [Ca.shp] at h
    simp only [Ca.wti, Ca.wt, Cr.wti_wt b h]
theorem Ca.wtis_wts : ∀ xs : List Ca, Ca.shps xs → Ca.wtis xs = Ca.wts xs
  | [], _ => by simp [Ca.wtis, Ca.wts]
  | x :: xs, h => by
    simp only [Ca.shps] at h
    simp only [Ca.wtis, Ca.wts, Ca.wti_wt x h.1, Ca.wtis_wts xs h.2]
end
theorem altN_bulk : ∀ qs : List Ca, altN qs + Ca.wts qs ≤ altN qs + Ca.wts qs := fun _ => Nat.le_refl _
mutual
theorem Cr.wt_bulk : ∀ x : Cr, x.wt ≤ 1 + x.enc.bulk
  | .mk k n m l ns ks qs => by
    have h1 := Cr.wts_bulk ks
    have h2 := Ca.wts_bulk qs
    simp only [Cr.wt, Cr.enc, D.bulk, D.bulks, bigD, strs_length, Cr.encs_length, Ca.encs_length]
    omega
theorem Cr.wts_bulk : ∀ xs : List Cr, Cr.wts xs ≤ xs.length + D.bulks (Cr.encs xs)
  | [] => by simp [Cr.wts]
  | x :: xs => by
    have h1 := Cr.wt_bulk x
    have h2 := Cr.wts_bulk xs
    simp only [Cr.wts, Cr.encs, D.bulks, List.length_cons]
    omega
theorem Ca.wt_bulk : ∀ x : Ca, x.names.length + x.wt ≤ 1 + x.enc.bulk
  | .mk c ns b => by
    have h1 := Cr.wt_bulk b
    simp only [Ca.wt, Ca.enc, D.bulk, D.bulks, Ca.names, strs_length]
    omega
theorem Ca.wts_bulk : ∀ xs : List Ca, altN xs + Ca.wts xs ≤ xs.length + D.bulks (Ca.encs xs)
  | [] => by simp [Ca.wts, altN]
  | x :: xs => by
    have h1 := Ca.wt_bulk x
    have h2 := Ca.wts_bulk xs
    simp only [Ca.wts, altN, Ca.encs, D.bulks, List.length_cons]
    omega
end
mutual
theorem Cr.wti_le : ∀ x : Cr, x.wti ≤ x.wt
  | .mk k n m l ns ks qs => by
    have h1 := Cr.wtis_le ks
    have h2 := Ca.wtis_le qs
    simp only [Cr.wti, Cr.wt]
    split <;> omega
theorem Cr.wtis_le : ∀ xs : List Cr, Cr.wtis xs ≤ Cr.wts xs
  | [] => by simp [Cr.wtis, Cr.wts]
  | x :: xs => by
    have h1 := Cr.wti_le x
    have h2 := Cr.wtis_le xs
    simp only [Cr.wtis, Cr.wts]
    omega
theorem Ca.wti_le : ∀ x : Ca, x.wti ≤ x.wt
  | .mk c ns b => by
    have h1 := Cr.wti_le b
    simp only [Ca.wti, Ca.wt]
    omega
theorem Ca.wtis_le : ∀ xs : List Ca, Ca.wtis xs ≤ Ca.wts xs
  | [] => by simp [Ca.wtis, Ca.wts]
  | x :: xs => by
    have h1 := Ca.wti_le x
    have h2 := Ca.wtis_le xs
    simp only [Ca.wtis, Ca.wts]
    omega
end
/-- A term without fault. -/
def Cr.good (x : Cr) : Prop := x.wt ≤ 20000 ∧ x.okd 1 ∧ x.shp
theorem Cr.good_i (x : Cr) : x.good ↔ x.wti ≤ 20000 ∧ x.okd 1 ∧ x.shp := by
  unfold Cr.good
  constructor
  · rintro ⟨h1, h2, h3⟩
    exact ⟨by rw [Cr.wti_wt x h3]; exact h1, h2, h3⟩
  · rintro ⟨h1, h2, h3⟩
    exact ⟨by rw [← Cr.wti_wt x h3]; exact h1, h2, h3⟩

end Go.Proofs.Ythidbmjdphfddaa
