/- Trees ('Node'): as data, and what the laws' own helpers do with them. No condition. -/
import Derived.Test.YtgogfloppnhceaaHp
import Derived.Test.YtgogfloppnhceaaProg
import Derived.Deep.QuietTactic
import Derived.BigQuiet
import Derived.WalkLawsBesides
import Derived.KernelRfl
import Derived.Lib.Hide
namespace Go.Proofs.Ytgogfloppnhceaa
open Go.RowKit
set_option linter.unusedVariables false
set_option linter.unusedSimpArgs false

inductive Nd where
  | mk (kind : Int) (name : ByteArray) (kids : List Nd)
def Nd.kind : Nd → Int | .mk k _ _ => k
def Nd.name : Nd → ByteArray | .mk _ n _ => n
def Nd.kids : Nd → List Nd | .mk _ _ ks => ks
mutual
def Nd.enc : Nd → D
  | .mk k n ks => .struct [.int .i64 k, .str n, .slice 3 (Nd.encs ks)]
def Nd.encs : List Nd → List D
  | [] => []
  | x :: xs => x.enc :: Nd.encs xs
end
mutual
def Nd.bulk : Nd → Nat
  | .mk _ n ks => n.size + (ks.length + Nd.bulks ks)
def Nd.bulks : List Nd → Nat
  | [] => 0
  | x :: xs => x.bulk + Nd.bulks xs
end
mutual
def Nd.ok : Nd → Prop
  | .mk k n ks => (Lit.int .i64 k).wf = true ∧ n.size ≤ 140737488351232 ∧ ks.length ≤ 140737488351232 ∧ Nd.oks ks
def Nd.oks : List Nd → Prop
  | [] => True
  | x :: xs => x.ok ∧ Nd.oks xs
end
mutual
theorem Nd.induct {P : Nd → Prop} (h : ∀ k n ks, (∀ x ∈ ks, P x) → P (.mk k n ks)) : ∀ x, P x
  | .mk k n ks => h k n ks (Nd.inducts h ks)
theorem Nd.inducts {P : Nd → Prop} (h : ∀ k n ks, (∀ x ∈ ks, P x) → P (.mk k n ks)) : ∀ (xs : List Nd), ∀ x ∈ xs, P x
  | [], x, hx => by cases hx
  | y :: ys, x, hx => by
    rcases List.mem_cons.1 hx with e | hx
    · rw [e]
      exact Nd.induct h y
    · exact Nd.inducts h ys x hx
end
theorem Nd.oks_mem : ∀ {xs : List Nd}, Nd.oks xs → ∀ x ∈ xs, x.ok
  | [], _, x, hx => by cases hx
  | y :: xs, h, x, hx => by
    simp only [Nd.oks] at h
    rcases List.mem_cons.1 hx with rfl | hx
    · exact h.1
    · exact Nd.oks_mem h.2 x hx
theorem Nd.encs_map (xs : List Nd) : Nd.encs xs = xs.map Nd.enc := by
  induction xs with
  | nil => rfl
  | cons x xs ih => simp [Nd.encs, ih]
theorem Nd.encs_length (xs : List Nd) : (Nd.encs xs).length = xs.length := by simp [Nd.encs_map]
theorem Nd.bulks_append (xs ys : List Nd) : Nd.bulks (xs ++ ys) = Nd.bulks xs + Nd.bulks ys := by
  induction xs with
  | nil => simp [Nd.bulks]
  | cons x xs ih => simp [Nd.bulks, ih, Nat.add_assoc]
theorem Nd.bulks_take (xs : List Nd) (i : Nat) (h : i < xs.length) : Nd.bulks (xs.take (i + 1)) = Nd.bulks (xs.take i) + xs[i].bulk := by
  rw [List.take_succ_eq_append_getElem h, Nd.bulks_append]
  simp [Nd.bulks]
theorem Nd.bulks_take_le (xs : List Nd) (i : Nat) : Nd.bulks (xs.take i) ≤ Nd.bulks xs := by
  conv => rhs; rw [← List.take_append_drop i xs, Nd.bulks_append]
  omega

theorem Nd.bulk_mem {xs : List Nd} {x : Nd} (h : x ∈ xs) : x.bulk ≤ Nd.bulks xs := by
  induction xs with
  | nil => cases h
  | cons y ys ih =>
    simp only [Nd.bulks]
    rcases List.mem_cons.1 h with rfl | h
    · omega
    · have := ih h
      omega

/-- What a helper that counts down leaves. -/
def szR (b : Nat) (left : Int) : Int := if left < b then -1 else left - b

/-- A tree's cells. -/
theorem Nd.open_ {w : World} {k : Int} {n : ByteArray} {ks : List Nd} {cs : List Value} (h : Rd w (Nd.mk k n ks).enc cs) : ∃ A c, cs = [.int .i64 k, .string n, .slice A ks.length c] ∧ ks.length ≤ c ∧ c ≤ maxLen ∧ RdRow w 3 A (Nd.encs ks) := by
  simp only [Nd.enc, rd_struct, rdF_cons, rdF_nil, rd_int, rd_str] at h
  obtain ⟨c1, c2, rfl, rfl, c3, c4, rfl, rfl, c5, c6, rfl, h, rfl⟩ := h
  obtain ⟨A, c, rfl, h2, h3, h4⟩ := rd_slice h
  rw [Nd.encs_length] at h2
  exact ⟨A, c, by simp [Nd.encs_length], h2, h3, h4⟩

def SzNode (x : Nd) : Prop := ∀ (w : World) (cs : List Value) (left : Int), Rd w x.enc cs → 0 ≤ left → left ≤ 1048576 →
  Calls Try.prog 37 #[.agg cs.toArray, .int .i64 left] w fun e w' => e = .returned (.int .i64 (szR x.bulk left)) ∧ Below w.heap.size w w'
def SzNodeS (xs : List Nd) : Prop := ∀ (w : World) (A : Option Addr) (c : Nat) (left : Int), RdRow w 3 A (Nd.encs xs) → 0 ≤ left → left ≤ 1048576 →
  Calls Try.prog 65 #[.slice A xs.length c, .int .i64 left] w fun e w' => e = .returned (.int .i64 (szR (xs.length + Nd.bulks xs) left)) ∧ Below w.heap.size w w'

theorem szR_step {a b : Nat} {left : Int} (h : 0 ≤ left - a) : szR (a + b) left = szR b (left - a) := by
  unfold szR
  split <;> split <;> omega
theorem szR_neg {a b : Nat} {left : Int} (h : left - a < 0) : szR (a + b) left = -1 := by
  unfold szR
  split <;> omega
theorem szR_of_neg {b : Nat} {left : Int} (h : szR b left < 0) (h0 : 0 ≤ left) : szR b left = -1 := by
  unfold szR at h ⊢
  split at h <;> simp_all <;> omega
theorem szR_le (b : Nat) {left : Int} (h0 : 0 ≤ left) : -1 ≤ szR b left ∧ szR b left ≤ left := by
  unfold szR
  split <;> omega
theorem szR_ge {b : Nat} {left : Int} (h : 0 ≤ szR b left) (h0 : 0 ≤ left) : szR b left = left - b := by
  unfold szR at h ⊢
  split at h
  · omega
  · rw [if_neg (by assumption)]
theorem szR_lt {b : Nat} {left : Int} (h : szR b left < 0) (h0 : 0 ≤ left) : left < b := by
  unfold szR at h
  split at h <;> omega
theorem szR_neg' {b : Nat} {left : Int} (h : left < b) : szR b left = -1 := by
  unfold szR
  rw [if_pos h]
theorem szR_pos {a b : Nat} {left : Int} (h : 0 ≤ left - a - b) : szR (a + b) left = left - a - b := by
  unfold szR
  rw [if_neg (by omega)]
  omega
theorem ret_int {k : IntKind} {a b : Int} (h : a = b) : Ending.returned (.int k a) = .returned (.int k b) := by rw [h]

theorem cells3 {cs : List Value} (h : cs.length = 3) : ∃ a b c, cs = [a, b, c] := by
  match cs, h with
  | [a, b, c], _ => exact ⟨a, b, c, rfl⟩

theorem szNode_of (k : Int) (n : ByteArray) (ks : List Nd) (hn : n.size ≤ 140737488351232) (ih : SzNodeS ks) : SzNode (.mk k n ks) := by
  intro w cs left h h0 h1
  obtain ⟨A, c, rfl, h2, h3, h4⟩ := Nd.open_ h
  have IH := Lib.hid ih
  have H4 := Lib.hid (RdRow.below h4 (by omega) ((Below.refl w.heap.size w).alloc (Nat.le_refl _) (.cells #[.int .i64 k, .string n, .slice A ks.length c] 63)))
  clear ih h h4
  have R1 := fun h : left - n.size < 0 => szR_neg (b := ks.length + Nd.bulks ks) h
  have R2 := fun h : 0 ≤ left - n.size => szR_step (b := ks.length + Nd.bulks ks) h
  have R1 := Lib.hid R1
  have R2 := Lib.hid R2
  have R3 := Lib.hid (fun (h : szR (ks.length + Nd.bulks ks) (left - n.size) < 0) (h0 : 0 ≤ left - n.size) => szR_of_neg h h0)
  go_enter Try.func37, Try.ntmps37
  go_wp2_with fail
  · go_ret
    exact ⟨ret_int (R1.out (by assumption)).symm, (Below.refl _ _).alloc (Nat.le_refl _) _⟩
  · refine (IH.out _ A c _ H4.out (by omega) (by omega)).mono ?_
    rintro e w1 ⟨rfl, hb⟩
    go_wp2
    · go_ret
      exact ⟨ret_int (((R2.out (by omega)).trans (R3.out (by assumption) (by omega))).symm), ((Below.refl _ _).alloc (Nat.le_refl _) _).trans (hb.mono (by simp))⟩
    · go_ret
      exact ⟨ret_int (R2.out (by omega)).symm, ((Below.refl _ _).alloc (Nat.le_refl _) _).trans (hb.mono (by simp))⟩

theorem szNodeS_of (xs : List Nd) (hn : xs.length ≤ 140737488351232) (ih : ∀ x ∈ xs, SzNode x) : SzNodeS xs := by
  intro w A c left h h0 h1
  have IH := Lib.hid ih
  have H := Lib.hid h
  clear ih h
  have R1 := Lib.hid (fun h : left - xs.length < 0 => szR_neg (b := Nd.bulks xs) h)
  have R2 := Lib.hid (fun h : 0 ≤ left - xs.length => szR_step (b := Nd.bulks xs) h)
  go_enter Try.func65, Try.ntmps65
  go_wp2_with fail
  · go_ret
    exact ⟨ret_int (R1.out (by assumption)).symm, Below.refl _ _⟩
  · go_loopw [5, 1] (fun i l wr => ∃ j : Nat, j ≤ xs.length ∧ i = .int .i64 j ∧ l = .int .i64 (left - xs.length - Nd.bulks (xs.take j)) ∧ 0 ≤ left - xs.length - Nd.bulks (xs.take j) ∧ Below w.heap.size w wr) (fun i _ _ => xs.length - (intOf i).toNat)
    case atStart => exact ⟨0, Nat.zero_le _, rfl, by simp [Nd.bulks], by simp [Nd.bulks]; omega, Below.refl _ _⟩
    case round =>
      obtain ⟨j, hj, rfl, rfl, hl, hb⟩ := hrel
      by_cases hlt : j < xs.length
      · obtain ⟨b, off, cs, rfl, hcl, hrd, hc⟩ := (RdRow.below H.out (by omega) hb).get (i := j) (x := xs[j].enc) (by simp [Nd.encs_map, List.getElem?_eq_getElem hlt])
        obtain ⟨u0, u1, u2, rfl⟩ := cells3 hcl
        have c0 : wr.cell? ⟨b, off + j * 3, none⟩ = some u0 := hc 0 _ rfl
        have c1 : wr.cell? ⟨b, off + j * 3 + 1, none⟩ = some u1 := hc 1 _ rfl
        have c2 : wr.cell? ⟨b, off + j * 3 + 2, none⟩ = some u2 := hc 2 _ rfl
        have CAL := Lib.hid (IH.out _ (List.getElem_mem hlt) wr _ (left - xs.length - Nd.bulks (xs.take j)) hrd hl (by omega))
        have HB := Lib.hid hb
        have T := Lib.hid (Nd.bulks_take xs j hlt)
        have T2 := Lib.hid (Nd.bulks_take_le xs (j + 1))
        clear hrd hcl hc hb
        go_wp2_with fail
        refine CAL.out.mono ?_
        rintro e w1 ⟨rfl, hb1⟩
        have HB1 := Lib.hid (HB.out.trans (hb1.mono HB.out.size))
        clear hb1
        clear CAL
        have Z := Lib.hid (szR_le xs[j].bulk hl)
        have R3 := Lib.hid (fun (h : szR xs[j].bulk (left - xs.length - Nd.bulks (xs.take j)) < 0) => szR_of_neg h hl)
        have R4 := Lib.hid (fun (h : 0 ≤ szR xs[j].bulk (left - xs.length - Nd.bulks (xs.take j))) => szR_ge h hl)
        have R5 := Lib.hid (fun (h : szR xs[j].bulk (left - xs.length - Nd.bulks (xs.take j)) < 0) => szR_lt h hl)
        go_wp2
        · go_ret
          refine ⟨ret_int ?_, HB1.out⟩
          have h5 := R5.out (by assumption)
          have h6 := T.out
          have h7 := T2.out
          symm
          exact szR_neg' (by omega)
        · go_roundw
          case rel =>
            have h4 := R4.out (by assumption)
            have h6 := T.out
            exact ⟨j + 1, by omega, by go_num, by rw [h4, h6]; go_num, by omega, HB1.out⟩
          case measure => simp [intOf]; omega
      · obtain rfl : j = xs.length := by omega
        rw [List.take_length] at hl ⊢
        have R6 := Lib.hid (szR_pos (a := xs.length) (b := Nd.bulks xs) (left := left) (by omega))
        have HB := Lib.hid hb
        clear hb
        go_wp2
        go_ret
        exact ⟨ret_int R6.out.symm, HB.out⟩

theorem szNode : ∀ (x : Nd), x.ok → SzNode x :=
  Nd.induct fun k n ks ih h => by
    simp only [Nd.ok] at h
    exact szNode_of k n ks h.2.1 (szNodeS_of ks h.2.2.1 fun x hx => ih x hx (Nd.oks_mem h.2.2.2 x hx))

end Go.Proofs.Ytgogfloppnhceaa
