/- Lists of texts: as data, read, and what the laws' own helpers do with them; no condition. -/
import Derived.Test.YthidbmjdphfddaaFamStr
namespace Go.Proofs.Ythidbmjdphfddaa
open Go.RowKit
set_option linter.unusedVariables false
set_option linter.unusedSimpArgs false

def strs (l : List ByteArray) : List D := l.map D.str
theorem strs_length (l : List ByteArray) : (strs l).length = l.length := by simp [strs]
def isIn (l : List ByteArray) (s : ByteArray) : Bool := l.any fun x => x.toList == s.toList
theorem isIn_drop {l : List ByteArray} {s : ByteArray} {j : Nat} (hj : j < l.length) : isIn (l.drop j) s = ((l[j].toList == s.toList) || isIn (l.drop (j + 1)) s) := by
  rw [List.drop_eq_getElem_cons hj]; rfl
theorem reach_str : reachBytes = 140737488351232 := by decide
theorem strs_of {xs : List D} (h : ∀ x ∈ xs, ∃ s : ByteArray, x = D.str s ∧ s.size ≤ reachBytes) : ∃ l : List ByteArray, xs = strs l ∧ ∀ x ∈ l, x.size ≤ 140737488351232 := by
  induction xs with
  | nil => exact ⟨[], rfl, by simp⟩
  | cons x xs ih =>
    obtain ⟨n, rfl, hn⟩ := h x (by simp)
    obtain ⟨l, rfl, hl⟩ := ih (fun y hy => h y (by simp [hy]))
    exact ⟨n :: l, rfl, fun z hz => by
      rcases List.mem_cons.1 hz with rfl | hz
      · have hr := reach_str
        omega
      · exact hl z hz⟩
theorem opensStrs (N : Nat) : Opens Try.prog 25 (fun y => ∃ l, y = D.slice 1 (strs l) ∧ l.length ≤ 140737488351232 ∧ ∀ x ∈ l, x.size ≤ 140737488351232) N := by
  refine ((opens_slice (sz := 1) (B := 16) Try.underlying25 (by kernel_rfl) (by kernel_rfl) (by omega) (by kernel_rfl) (opens_str Try.underlying9 (by kernel_rfl) N)).le (Nat.le_succ N)).imp ?_
  rintro y ⟨xs, rfl, hl, hx⟩
  obtain ⟨l, rfl, hw⟩ := strs_of hx
  rw [strs_length] at hl
  have hr := reach_str
  exact ⟨l, rfl, by omega, hw⟩
theorem strs_mem {l : List ByteArray} {P : D → Prop} (h : ∀ x ∈ l, P (.str x)) : ∀ y ∈ strs l, P y := by
  intro y hy
  obtain ⟨x, hx, rfl⟩ := List.mem_map.1 hy
  exact h x hx
theorem szStrs (l : List ByteArray) (hn : l.length ≤ 140737488351232) (hl : ∀ x ∈ l, x.size ≤ 140737488351232) : SzO Try.prog 54 (.slice 1 (strs l)) :=
  szStringS_of _ (by rw [strs_length]; exact hn) (strs_mem fun x hx => ⟨x, rfl, hl x hx⟩)
theorem eqStrs (l : List ByteArray) (hn : l.length ≤ 140737488351232) : EqO Try.prog 14 (.slice 1 (strs l)) :=
  eqStringS_of _ (by rw [strs_length]; exact hn) (strs_mem fun x hx => ⟨x, rfl⟩)
theorem toStrs (l : List ByteArray) (hb : (D.slice 1 (strs l)).bulk ≤ 1048576) : ToO Try.prog 60 (.slice 1 (strs l)) :=
  toStringS_of _ (D.bulk_slice hb).1 (strs_mem fun x hx => ⟨x, rfl⟩)
/-- A list of texts that is read. -/
theorem open_strs {w : World} {l : List ByteArray} {v : Value} (h : Rd w (.slice 1 (strs l)) [v]) : ∃ A c, v = .slice A l.length c ∧ l.length ≤ c ∧ c ≤ maxLen ∧ RdRow w 1 A (strs l) := by
  obtain ⟨A, c, rfl, h1, h2, h3⟩ := rd_slice1 h
  rw [strs_length] at h1
  exact ⟨A, c, by rw [strs_length], h1, h2, h3⟩
theorem strs_get {w : World} {A : Option Addr} {l : List ByteArray} (h : RdRow w 1 A (strs l)) {j : Nat} (hj : j < l.length) : ∃ b off, A = some ⟨b, off, none⟩ ∧ w.cell? ⟨b, off + j, none⟩ = some (.string l[j]) := by
  obtain ⟨b, off, cs, rfl, hcl, hrd, hc⟩ := h.get (i := j) (x := .str l[j]) (by simp [strs, List.getElem?_eq_getElem hj])
  obtain ⟨u0, rfl⟩ := cells1 hcl
  obtain rfl : u0 = .string l[j] := by simpa using rd_str.1 hrd
  exact ⟨b, off, rfl, by simpa using hc 0 _ rfl⟩

end Go.Proofs.Ythidbmjdphfddaa
