/- Tables as data: what the laws' helpers do with them, read as an argument; no condition. -/
import Derived.Test.YtifmnijdaboenaaTyMs
import Derived.Test.YtifmnijdaboenaaStrs
import Derived.Test.YtifmnijdaboenaaFamTabs
import Derived.Test.YtifmnijdaboenaaFmTabs
import Derived.Test.YtifmnijdaboenaaFmPred
import Derived.Test.YtifmnijdaboenaaFamScheme
namespace Go.Proofs.Ytifmnijdaboenaa
open Go.RowKit
set_option linter.unusedVariables false
set_option linter.unusedSimpArgs false

theorem reach47 : reachBytes = 140737488351232 := by decide
def predD (p : ByteArray × Int) : D := .struct [.str p.1, .int .i64 p.2]
def predsD (ps : List (ByteArray × Int)) : List D := ps.map predD
theorem predsD_length (ps : List (ByteArray × Int)) : (predsD ps).length = ps.length := by simp [predsD]
def predOk (p : ByteArray × Int) : Prop := p.1.size ≤ 140737488351232 ∧ (Lit.int .i64 p.2).wf = true
theorem predsD_mem {ps : List (ByteArray × Int)} {P : D → Prop} (h : ∀ p ∈ ps, P (predD p)) : ∀ y ∈ predsD ps, P y := by
  intro y hy
  obtain ⟨p, hp, rfl⟩ := List.mem_map.1 hy
  exact h p hp
theorem preds_sz (ps : List (ByteArray × Int)) (hn : ps.length ≤ 140737488351232) (h : ∀ p ∈ ps, predOk p) : SzO Try.prog 157 (.slice 2 (predsD ps)) :=
  szPredS_of _ (by rw [predsD_length]; exact hn) (predsD_mem fun p hp => szPred_of p.1 p.2 (h p hp).1)
theorem preds_eq (ps : List (ByteArray × Int)) (hn : ps.length ≤ 140737488351232) : EqO Try.prog 87 (.slice 2 (predsD ps)) :=
  eqPredS_of _ (by rw [predsD_length]; exact hn) (predsD_mem fun p hp => eqPred_of p.1 p.2)
theorem preds_to (ps : List (ByteArray × Int)) (hb : (D.slice 2 (predsD ps)).bulk ≤ 1048576) : ToO Try.prog 161 (.slice 2 (predsD ps)) :=
  toPredS_of _ (D.bulk_slice hb).1 (predsD_mem fun p _ => rfl) (predsD_mem fun p hp => toPred_of p.1 p.2)
theorem preds_mk (ps : List (ByteArray × Int)) (hn : ps.length ≤ 140737488351232) : MkO Try.prog 88 (.slice 2 (predsD ps)) :=
  markPredS_of _ (by rw [predsD_length]; exact hn) (predsD_mem fun p _ => ⟨p.1, p.2, rfl⟩)
theorem preds_hd (ps : List (ByteArray × Int)) (hn : ps.length ≤ 140737488351232) : HdO Try.prog 89 (.slice 2 (predsD ps)) :=
  heldPredS_of _ (by rw [predsD_length]; exact hn) (predsD_mem fun p _ => ⟨p.1, p.2, rfl⟩)
theorem preds_cnt (ps : List (ByteArray × Int)) : D.cnts (predsD ps) = 2 * ps.length := by
  induction ps with
  | nil => rfl
  | cons p ps ih =>
    simp only [predsD, List.map_cons, D.cnts, predD, D.cnt, List.length_cons] at ih ⊢
    omega
theorem preds_bulk (ps : List (ByteArray × Int)) : ps.length ≤ (D.slice 2 (predsD ps)).bulk := by simp only [D.bulk, predsD_length]; omega

theorem list_of {α : Type} {f : α → D} {Q : α → Prop} {xs : List D} (h : ∀ x ∈ xs, ∃ a, x = f a ∧ Q a) : ∃ l : List α, xs = l.map f ∧ ∀ a ∈ l, Q a := by
  induction xs with
  | nil => exact ⟨[], rfl, by simp⟩
  | cons x xs ih =>
    obtain ⟨a, rfl, ha⟩ := h x (by simp)
    obtain ⟨l, rfl, hl⟩ := ih (fun y hy => h y (by simp [hy]))
    exact ⟨a :: l, rfl, fun b hb => by
      rcases List.mem_cons.1 hb with rfl | hb
      · exact ha
      · exact hl b hb⟩
theorem opensLPred (N : Nat) : Opens Try.prog 257 (fun y => ∃ p, y = predD p ∧ predOk p) N := by
  refine ((opens_struct (N := N) Try.underlying257 (by kernel_rfl) (opensF_cons (c := 1) rfl (by kernel_rfl) (opens_str Try.underlying9 (by kernel_rfl) N) (opensF_cons (c := 1) rfl (by kernel_rfl) (opens_int Try.underlying2 (by kernel_rfl) N) opensF_nil))).le (Nat.le_succ N)).imp ?_
  rintro y ⟨ys, rfl, _, _, rfl, ⟨s, rfl, hs⟩, _, _, rfl, ⟨n, rfl, hn⟩, rfl⟩
  exact ⟨(s, n), rfl, by rw [reach47] at hs; exact hs, hn⟩
theorem opensLPreds (N : Nat) : Opens Try.prog 174 (fun y => ∃ ps, y = D.slice 2 (predsD ps) ∧ ps.length ≤ 140737488351232 ∧ ∀ p ∈ ps, predOk p) N := by
  refine ((opens_slice (sz := 2) (B := 24) Try.underlying174 (by kernel_rfl) (by kernel_rfl) (by omega) (by kernel_rfl) (opensLPred N)).le (Nat.le_succ N)).imp ?_
  rintro y ⟨xs, rfl, hl, hx⟩
  obtain ⟨l, rfl, hw⟩ := list_of hx
  have hr := reach47
  rw [List.length_map] at hl
  exact ⟨l, rfl, by omega, hw⟩
theorem tys_sz (xs : List Ty) (hn : xs.length ≤ 140737488351232) (h : Ty.oks xs) : SzO Try.prog 154 (.slice 4 (Ty.encs xs)) := szTypeS_of _ (by rw [Ty.encs_length]; exact hn) (Ty.encs_mem fun x hx => Ty.sz x (Ty.oks_mem h x hx))
theorem tys_eq (xs : List Ty) (hn : xs.length ≤ 140737488351232) (h : Ty.oks xs) : EqO Try.prog 92 (.slice 4 (Ty.encs xs)) := eqTypeS_of _ (by rw [Ty.encs_length]; exact hn) (Ty.encs_mem fun x hx => Ty.eq x (Ty.oks_mem h x hx))
theorem tys_to (xs : List Ty) (hb : (D.slice 4 (Ty.encs xs)).bulk ≤ 1048576) : ToO Try.prog 158 (.slice 4 (Ty.encs xs)) := by
  have h := D.bulk_slice hb
  exact toTypeS_of _ h.1 (Ty.encs_mem fun x _ => x.n) (Ty.encs_mem fun x hx => Ty.to x (h.2 _ (by rw [Ty.encs_map]; exact List.mem_map.2 ⟨x, hx, rfl⟩)))
theorem tys_mk (xs : List Ty) (hn : xs.length ≤ 140737488351232) (h : Ty.oks xs) : MkO Try.prog 93 (.slice 4 (Ty.encs xs)) := by
  refine markTypeS_of (Ty.encs xs) (by rw [Ty.encs_length]; exact hn) fun y hy => ?_
  rw [Ty.encs_map] at hy
  obtain ⟨x, hx, rfl⟩ := List.mem_map.1 hy
  have := Ty.mkS x (Ty.oks_mem h x hx)
  cases x with
  | mk k' d' n' ks' => exact ⟨k', d', n', Ty.encs ks', rfl, this⟩
theorem tys_hd (xs : List Ty) (hn : xs.length ≤ 140737488351232) (h : Ty.oks xs) : HdO Try.prog 94 (.slice 4 (Ty.encs xs)) := by
  refine heldTypeS_of (Ty.encs xs) (by rw [Ty.encs_length]; exact hn) fun y hy => ?_
  rw [Ty.encs_map] at hy
  obtain ⟨x, hx, rfl⟩ := List.mem_map.1 hy
  have := Ty.hdS x (Ty.oks_mem h x hx)
  cases x with
  | mk k' d' n' ks' => exact ⟨k', d', n', Ty.encs ks', rfl, this⟩
theorem tys_cnt (xs : List Ty) : D.cnts (Ty.encs xs) ≤ 3 * xs.length + 3 * D.bulks (Ty.encs xs) := Ty.cnts_le xs fun x _ => Ty.cnt_le x
theorem strs_mk (l : List ByteArray) (hn : l.length ≤ 140737488351232) : MkO Try.prog 38 (.slice 1 (strs l)) := markStringS_of _ (by rw [strs_length]; exact hn) (strs_mem fun x _ => ⟨x, rfl⟩)
theorem strs_hd (l : List ByteArray) (hn : l.length ≤ 140737488351232) : HdO Try.prog 39 (.slice 1 (strs l)) := heldStringS_of _ (by rw [strs_length]; exact hn) (strs_mem fun x _ => ⟨x, rfl⟩)
theorem strs_cnt (l : List ByteArray) : D.cnts (strs l) = l.length := by
  induction l with
  | nil => rfl
  | cons x l ih => simp only [strs, List.map_cons, D.cnts, D.cnt, List.length_cons] at ih ⊢; omega
theorem opensLTys (N : Nat) : Opens Try.prog 168 (fun y => ∃ xs : List Ty, y = D.slice 4 (Ty.encs xs) ∧ xs.length ≤ 140737488351232 ∧ Ty.oks xs) N := by
  refine ((opens_slice (sz := 4) (B := 56) Try.underlying168 (by kernel_rfl) (by kernel_rfl) (by omega) (by kernel_rfl) (opensLType N)).le (Nat.le_succ N)).imp ?_
  rintro y ⟨xs, rfl, hl, hx⟩
  obtain ⟨l, rfl, hw⟩ := Ty.list_of hx
  have hr := reach47
  rw [Ty.encs_length] at hl
  exact ⟨l, rfl, by omega, hw⟩
theorem list_map {α : Type} {f : α → D} {G : α → Prop} {xs : List D} (h : ∀ x ∈ xs, ∃ p, x = f p ∧ G p) : ∃ l : List α, xs = l.map f ∧ ∀ p ∈ l, G p := by
  induction xs with
  | nil => exact ⟨[], rfl, by simp⟩
  | cons x xs ih =>
    obtain ⟨p, rfl, hp⟩ := h x (by simp)
    obtain ⟨l, rfl, hl⟩ := ih (fun y hy => h y (by simp [hy]))
    refine ⟨p :: l, rfl, fun q hq => ?_⟩
    rcases List.mem_cons.1 hq with rfl | hq
    · exact hp
    · exact hl q hq
theorem map_mem {α : Type} {f : α → D} {l : List α} {P : D → Prop} (h : ∀ p ∈ l, P (f p)) : ∀ y ∈ l.map f, P y := by
  intro y hy
  obtain ⟨p, hp, rfl⟩ := List.mem_map.1 hy
  exact h p hp
structure ConI where
  name : ByteArray
  data : ByteArray
  tag : Int
  vars : Int
  fields : List Ty
def ConI.d (c : ConI) : D := .struct [.str c.name, .str c.data, .int .i64 c.tag, .int .i64 c.vars, .slice 4 (Ty.encs c.fields)]
def ConI.ok (c : ConI) : Prop := c.name.size ≤ 140737488351232 ∧ c.data.size ≤ 140737488351232 ∧ (Lit.int .i64 c.tag).wf = true ∧ (Lit.int .i64 c.vars).wf = true ∧ c.fields.length ≤ 140737488351232 ∧ Ty.oks c.fields
theorem ConI.sz (c : ConI) (h : c.ok) : SzA Try.prog 115 c.d := by
  unfold ConI.ok at h
  exact szConInfo_of c.name c.data c.tag c.vars (Ty.encs c.fields) (h.1) (h.2.1) (tys_sz c.fields (h.2.2.2.2.1) (h.2.2.2.2.2))
theorem ConI.eq (c : ConI) (h : c.ok) : EqA Try.prog 32 c.d := by
  unfold ConI.ok at h
  exact eqConInfo_of c.name c.data c.tag c.vars (Ty.encs c.fields) (tys_eq c.fields (h.2.2.2.2.1) (h.2.2.2.2.2))
theorem ConI.to (c : ConI) (hb : c.d.bulk ≤ 1048576) : ToA Try.prog 120 c.d := toConInfo_of c.name c.data c.tag c.vars (Ty.encs c.fields) (tys_to c.fields (by simp only [ConI.d, D.bulk, D.bulks] at hb ⊢; omega))
theorem ConI.n (c : ConI) : c.d.n = 5 := by simp only [ConI.d, D.n, D.nAll]
theorem conis_sz (l : List ConI) (hn : l.length ≤ 140737488351232) (h : ∀ c ∈ l, c.ok) : SzO Try.prog 77 (.slice 5 (l.map ConI.d)) := szConInfoS_of _ (by rw [List.length_map]; exact hn) (map_mem fun c hc => c.sz (h c hc))
theorem conis_eq (l : List ConI) (hn : l.length ≤ 140737488351232) (h : ∀ c ∈ l, c.ok) : EqO Try.prog 62 (.slice 5 (l.map ConI.d)) := eqConInfoS_of _ (by rw [List.length_map]; exact hn) (map_mem fun c hc => c.eq (h c hc))
theorem conis_to (l : List ConI) (hb : (D.slice 5 (l.map ConI.d)).bulk ≤ 1048576) : ToO Try.prog 82 (.slice 5 (l.map ConI.d)) := by
  have h := D.bulk_slice hb
  exact toConInfoS_of _ h.1 (map_mem fun c _ => c.n) (map_mem fun c hc => c.to (h.2 _ (List.mem_map.2 ⟨c, hc, rfl⟩)))
theorem conis_mk (l : List ConI) (hn : l.length ≤ 140737488351232) (h : ∀ c ∈ l, c.ok) : MkO Try.prog 67 (.slice 5 (l.map ConI.d)) := by
  refine markConInfoS_of _ (by rw [List.length_map]; exact hn) (map_mem fun c hc => ?_)
  have h := h c hc
  unfold ConI.ok at h
  exact ⟨c.name, c.data, c.tag, c.vars, (Ty.encs c.fields), rfl, (tys_mk c.fields (h.2.2.2.2.1) (h.2.2.2.2.2))⟩
theorem conis_hd (l : List ConI) (hn : l.length ≤ 140737488351232) (h : ∀ c ∈ l, c.ok) : HdO Try.prog 72 (.slice 5 (l.map ConI.d)) := by
  refine heldConInfoS_of _ (by rw [List.length_map]; exact hn) (map_mem fun c hc => ?_)
  have h := h c hc
  unfold ConI.ok at h
  exact ⟨c.name, c.data, c.tag, c.vars, (Ty.encs c.fields), rfl, (tys_hd c.fields (h.2.2.2.2.1) (h.2.2.2.2.2))⟩
theorem conis_cnt : ∀ (l : List ConI), D.cnts (l.map ConI.d) ≤ 10 * l.length + 3 * D.bulks (l.map ConI.d)
  | [] => by simp [D.cnts]
  | c :: l => by
    have h2 := conis_cnt l
    have := tys_cnt c.fields
    simp only [List.map_cons, D.cnts, D.bulks, ConI.d, D.cnt, D.bulk, List.length_cons, Ty.encs_length, strs_length, predsD_length] at *
    omega
theorem opensLConInfo (N : Nat) : Opens Try.prog 170 (fun y => ∃ c : ConI, y = c.d ∧ c.ok) N := by
  refine ((opens_struct (N := N) Try.underlying170 (by kernel_rfl) (opensF_cons (c := 1) rfl (by kernel_rfl) (opens_str Try.underlying9 (by kernel_rfl) N) (opensF_cons (c := 1) rfl (by kernel_rfl) (opens_str Try.underlying9 (by kernel_rfl) N) (opensF_cons (c := 1) rfl (by kernel_rfl) (opens_int Try.underlying2 (by kernel_rfl) N) (opensF_cons (c := 1) rfl (by kernel_rfl) (opens_int Try.underlying2 (by kernel_rfl) N) (opensF_cons (c := 1) rfl (by kernel_rfl) (opensLTys N) opensF_nil)))))).le (Nat.le_succ N)).imp ?_
  rintro y ⟨ys, rfl, _, _, rfl, ⟨name, rfl, hname⟩, _, _, rfl, ⟨data, rfl, hdata⟩, _, _, rfl, ⟨tag, rfl, htag⟩, _, _, rfl, ⟨vars, rfl, hvars⟩, _, _, rfl, ⟨fields, rfl, hfields, gfields⟩, rfl⟩
  have hr := reach47
  exact ⟨⟨name, data, tag, vars, fields⟩, rfl, (show name.size ≤ 140737488351232 by omega), (show data.size ≤ 140737488351232 by omega), htag, hvars, hfields, gfields⟩
theorem opensLConInfoS (N : Nat) : Opens Try.prog 45 (fun y => ∃ l : List ConI, y = D.slice 5 (l.map ConI.d) ∧ l.length ≤ 140737488351232 ∧ ∀ c ∈ l, c.ok) N := by
  refine ((opens_slice (sz := 5) (B := 72) Try.underlying45 (by kernel_rfl) (by kernel_rfl) (by omega) (by kernel_rfl) (opensLConInfo N)).le (Nat.le_succ N)).imp ?_
  rintro y ⟨xs, rfl, hl, hx⟩
  obtain ⟨l, rfl, hw⟩ := list_map hx
  have hr := reach47
  rw [List.length_map] at hl
  exact ⟨l, rfl, by omega, hw⟩
structure DataI where
  name : ByteArray
  vars : Int
  cons : List ByteArray
def DataI.d (c : DataI) : D := .struct [.str c.name, .int .i64 c.vars, .slice 1 (strs c.cons)]
def DataI.ok (c : DataI) : Prop := c.name.size ≤ 140737488351232 ∧ (Lit.int .i64 c.vars).wf = true ∧ c.cons.length ≤ 140737488351232 ∧ (∀ x ∈ c.cons, x.size ≤ 140737488351232)
theorem DataI.sz (c : DataI) (h : c.ok) : SzA Try.prog 116 c.d := by
  unfold DataI.ok at h
  exact szDataInfo_of c.name c.vars (strs c.cons) (h.1) (szStrs c.cons (h.2.2.1) (h.2.2.2))
theorem DataI.eq (c : DataI) (h : c.ok) : EqA Try.prog 112 c.d := by
  unfold DataI.ok at h
  exact eqDataInfo_of c.name c.vars (strs c.cons) (eqStrs c.cons (h.2.2.1))
theorem DataI.to (c : DataI) (hb : c.d.bulk ≤ 1048576) : ToA Try.prog 121 c.d := toDataInfo_of c.name c.vars (strs c.cons) (toStrs c.cons (by simp only [DataI.d, D.bulk, D.bulks] at hb ⊢; omega))
theorem DataI.n (c : DataI) : c.d.n = 3 := by simp only [DataI.d, D.n, D.nAll]
theorem datais_sz (l : List DataI) (hn : l.length ≤ 140737488351232) (h : ∀ c ∈ l, c.ok) : SzO Try.prog 78 (.slice 3 (l.map DataI.d)) := szDataInfoS_of _ (by rw [List.length_map]; exact hn) (map_mem fun c hc => c.sz (h c hc))
theorem datais_eq (l : List DataI) (hn : l.length ≤ 140737488351232) (h : ∀ c ∈ l, c.ok) : EqO Try.prog 63 (.slice 3 (l.map DataI.d)) := eqDataInfoS_of _ (by rw [List.length_map]; exact hn) (map_mem fun c hc => c.eq (h c hc))
theorem datais_to (l : List DataI) (hb : (D.slice 3 (l.map DataI.d)).bulk ≤ 1048576) : ToO Try.prog 83 (.slice 3 (l.map DataI.d)) := by
  have h := D.bulk_slice hb
  exact toDataInfoS_of _ h.1 (map_mem fun c _ => c.n) (map_mem fun c hc => c.to (h.2 _ (List.mem_map.2 ⟨c, hc, rfl⟩)))
theorem datais_mk (l : List DataI) (hn : l.length ≤ 140737488351232) (h : ∀ c ∈ l, c.ok) : MkO Try.prog 68 (.slice 3 (l.map DataI.d)) := by
  refine markDataInfoS_of _ (by rw [List.length_map]; exact hn) (map_mem fun c hc => ?_)
  have h := h c hc
  unfold DataI.ok at h
  exact ⟨c.name, c.vars, (strs c.cons), rfl, (strs_mk c.cons (h.2.2.1))⟩
theorem datais_hd (l : List DataI) (hn : l.length ≤ 140737488351232) (h : ∀ c ∈ l, c.ok) : HdO Try.prog 73 (.slice 3 (l.map DataI.d)) := by
  refine heldDataInfoS_of _ (by rw [List.length_map]; exact hn) (map_mem fun c hc => ?_)
  have h := h c hc
  unfold DataI.ok at h
  exact ⟨c.name, c.vars, (strs c.cons), rfl, (strs_hd c.cons (h.2.2.1))⟩
theorem datais_cnt : ∀ (l : List DataI), D.cnts (l.map DataI.d) ≤ 10 * l.length + 3 * D.bulks (l.map DataI.d)
  | [] => by simp [D.cnts]
  | c :: l => by
    have h2 := datais_cnt l
    have := strs_cnt c.cons
    simp only [List.map_cons, D.cnts, D.bulks, DataI.d, D.cnt, D.bulk, List.length_cons, Ty.encs_length, strs_length, predsD_length] at *
    omega
theorem opensLDataInfo (N : Nat) : Opens Try.prog 172 (fun y => ∃ c : DataI, y = c.d ∧ c.ok) N := by
  refine ((opens_struct (N := N) Try.underlying172 (by kernel_rfl) (opensF_cons (c := 1) rfl (by kernel_rfl) (opens_str Try.underlying9 (by kernel_rfl) N) (opensF_cons (c := 1) rfl (by kernel_rfl) (opens_int Try.underlying2 (by kernel_rfl) N) (opensF_cons (c := 1) rfl (by kernel_rfl) (opensStrs N) opensF_nil)))).le (Nat.le_succ N)).imp ?_
  rintro y ⟨ys, rfl, _, _, rfl, ⟨name, rfl, hname⟩, _, _, rfl, ⟨vars, rfl, hvars⟩, _, _, rfl, ⟨cons, rfl, hcons, gcons⟩, rfl⟩
  have hr := reach47
  exact ⟨⟨name, vars, cons⟩, rfl, (show name.size ≤ 140737488351232 by omega), hvars, hcons, gcons⟩
theorem opensLDataInfoS (N : Nat) : Opens Try.prog 46 (fun y => ∃ l : List DataI, y = D.slice 3 (l.map DataI.d) ∧ l.length ≤ 140737488351232 ∧ ∀ c ∈ l, c.ok) N := by
  refine ((opens_slice (sz := 3) (B := 48) Try.underlying46 (by kernel_rfl) (by kernel_rfl) (by omega) (by kernel_rfl) (opensLDataInfo N)).le (Nat.le_succ N)).imp ?_
  rintro y ⟨xs, rfl, hl, hx⟩
  obtain ⟨l, rfl, hw⟩ := list_map hx
  have hr := reach47
  rw [List.length_map] at hl
  exact ⟨l, rfl, by omega, hw⟩
structure MethI where
  name : ByteArray
  cls : ByteArray
  count : Int
  preds : List (ByteArray × Int)
  typ : Ty
def MethI.d (c : MethI) : D := .struct [.str c.name, .str c.cls, .struct [.int .i64 c.count, .slice 2 (predsD c.preds), c.typ.enc]]
def MethI.ok (c : MethI) : Prop := c.name.size ≤ 140737488351232 ∧ c.cls.size ≤ 140737488351232 ∧ (Lit.int .i64 c.count).wf = true ∧ c.preds.length ≤ 140737488351232 ∧ (∀ p ∈ c.preds, predOk p) ∧ c.typ.ok
theorem MethI.sz (c : MethI) (h : c.ok) : SzA Try.prog 117 c.d := by
  unfold MethI.ok at h
  have h1 := Ty.sz c.typ (h.2.2.2.2.2)
  obtain ⟨name, cls, count, preds, typ⟩ := c
  cases typ with
  | mk k d n ks => exact szMethodInfo_of name cls count (predsD preds) k d n (Ty.encs ks) (h.1) (h.2.1) (szScheme_of count (predsD preds) k d n (Ty.encs ks) (preds_sz preds (h.2.2.2.1) (h.2.2.2.2.1)) h1)
theorem MethI.eq (c : MethI) (h : c.ok) : EqA Try.prog 113 c.d := by
  unfold MethI.ok at h
  have h1 := Ty.eq c.typ (h.2.2.2.2.2)
  obtain ⟨name, cls, count, preds, typ⟩ := c
  cases typ with
  | mk k d n ks => exact eqMethodInfo_of name cls count (predsD preds) k d n (Ty.encs ks) (eqScheme_of count (predsD preds) k d n (Ty.encs ks) (preds_eq preds (h.2.2.2.1)) h1)
theorem MethI.to (c : MethI) (hb : c.d.bulk ≤ 1048576) : ToA Try.prog 122 c.d := by
  have h1 := Ty.to c.typ (by simp only [MethI.d, D.bulk, D.bulks] at hb; omega)
  have h2 := preds_to c.preds (by simp only [MethI.d, D.bulk, D.bulks] at hb ⊢; omega)
  obtain ⟨name, cls, count, preds, typ⟩ := c
  cases typ with
  | mk k d n ks => exact toMethodInfo_of name cls count (predsD preds) k d n (Ty.encs ks) (toScheme_of count (predsD preds) k d n (Ty.encs ks) h2 h1)
theorem MethI.n (c : MethI) : c.d.n = 8 := by simp only [MethI.d, D.n, D.nAll, Ty.n]
theorem methis_sz (l : List MethI) (hn : l.length ≤ 140737488351232) (h : ∀ c ∈ l, c.ok) : SzO Try.prog 79 (.slice 8 (l.map MethI.d)) := szMethodInfoS_of _ (by rw [List.length_map]; exact hn) (map_mem fun c hc => c.sz (h c hc))
theorem methis_eq (l : List MethI) (hn : l.length ≤ 140737488351232) (h : ∀ c ∈ l, c.ok) : EqO Try.prog 64 (.slice 8 (l.map MethI.d)) := eqMethodInfoS_of _ (by rw [List.length_map]; exact hn) (map_mem fun c hc => c.eq (h c hc))
theorem methis_to (l : List MethI) (hb : (D.slice 8 (l.map MethI.d)).bulk ≤ 1048576) : ToO Try.prog 84 (.slice 8 (l.map MethI.d)) := by
  have h := D.bulk_slice hb
  exact toMethodInfoS_of _ h.1 (map_mem fun c _ => c.n) (map_mem fun c hc => c.to (h.2 _ (List.mem_map.2 ⟨c, hc, rfl⟩)))
theorem methis_mk (l : List MethI) (hn : l.length ≤ 140737488351232) (h : ∀ c ∈ l, c.ok) : MkO Try.prog 69 (.slice 8 (l.map MethI.d)) := by
  refine markMethodInfoS_of _ (by rw [List.length_map]; exact hn) (map_mem fun c hc => ?_)
  have h := h c hc
  unfold MethI.ok at h
  have h1 := Ty.mkS c.typ (h.2.2.2.2.2)
  obtain ⟨name, cls, count, preds, typ⟩ := c
  cases typ with
  | mk k d n ks => exact ⟨name, cls, count, predsD preds, k, d, n, Ty.encs ks, rfl, preds_mk preds (h.2.2.2.1), h1⟩
theorem methis_hd (l : List MethI) (hn : l.length ≤ 140737488351232) (h : ∀ c ∈ l, c.ok) : HdO Try.prog 74 (.slice 8 (l.map MethI.d)) := by
  refine heldMethodInfoS_of _ (by rw [List.length_map]; exact hn) (map_mem fun c hc => ?_)
  have h := h c hc
  unfold MethI.ok at h
  have h1 := Ty.hdS c.typ (h.2.2.2.2.2)
  obtain ⟨name, cls, count, preds, typ⟩ := c
  cases typ with
  | mk k d n ks => exact ⟨name, cls, count, predsD preds, k, d, n, Ty.encs ks, rfl, preds_hd preds (h.2.2.2.1), h1⟩
theorem methis_cnt : ∀ (l : List MethI), D.cnts (l.map MethI.d) ≤ 10 * l.length + 3 * D.bulks (l.map MethI.d)
  | [] => by simp [D.cnts]
  | c :: l => by
    have h2 := methis_cnt l
    have := preds_cnt c.preds
    have := Ty.cnt_le c.typ
    simp only [List.map_cons, D.cnts, D.bulks, MethI.d, D.cnt, D.bulk, List.length_cons, Ty.encs_length, strs_length, predsD_length] at *
    omega
theorem opensLScheme0 (N : Nat) : Opens Try.prog 178 (fun y => ∃ (c : Int) (ps : List (ByteArray × Int)) (x : Ty), y = D.struct [.int .i64 c, .slice 2 (predsD ps), x.enc] ∧ (Lit.int .i64 c).wf = true ∧ ps.length ≤ 140737488351232 ∧ (∀ p ∈ ps, predOk p) ∧ x.ok) N := by
  refine ((opens_struct (N := N) Try.underlying178 (by kernel_rfl) (opensF_cons (c := 1) rfl (by kernel_rfl) (opens_int Try.underlying2 (by kernel_rfl) N) (opensF_cons (c := 1) rfl (by kernel_rfl) (opensLPreds N) (opensF_cons (c := 4) rfl (by kernel_rfl) (opensLType N) opensF_nil)))).le (Nat.le_succ N)).imp ?_
  rintro y ⟨ys, rfl, _, _, rfl, ⟨count, rfl, hcount⟩, _, _, rfl, ⟨preds, rfl, hpreds, gpreds⟩, _, _, rfl, ⟨typ, rfl, htyp⟩, rfl⟩
  exact ⟨count, preds, typ, rfl, hcount, hpreds, gpreds, htyp⟩
theorem opensLMethodInfo (N : Nat) : Opens Try.prog 180 (fun y => ∃ c : MethI, y = c.d ∧ c.ok) N := by
  refine ((opens_struct (N := N) Try.underlying180 (by kernel_rfl) (opensF_cons (c := 1) rfl (by kernel_rfl) (opens_str Try.underlying9 (by kernel_rfl) N) (opensF_cons (c := 1) rfl (by kernel_rfl) (opens_str Try.underlying9 (by kernel_rfl) N) (opensF_cons (c := 6) rfl (by kernel_rfl) (opensLScheme0 N) opensF_nil)))).le (Nat.le_succ N)).imp ?_
  rintro y ⟨ys, rfl, _, _, rfl, ⟨name, rfl, hname⟩, _, _, rfl, ⟨cls, rfl, hcls⟩, _, _, rfl, ⟨count, preds, typ, rfl, hcount, hpreds, gpreds, htyp⟩, rfl⟩
  have hr := reach47
  exact ⟨⟨name, cls, count, preds, typ⟩, rfl, (show name.size ≤ 140737488351232 by omega), (show cls.size ≤ 140737488351232 by omega), hcount, hpreds, gpreds, htyp⟩
theorem opensLMethodInfoS (N : Nat) : Opens Try.prog 47 (fun y => ∃ l : List MethI, y = D.slice 8 (l.map MethI.d) ∧ l.length ≤ 140737488351232 ∧ ∀ c ∈ l, c.ok) N := by
  refine ((opens_slice (sz := 8) (B := 120) Try.underlying47 (by kernel_rfl) (by kernel_rfl) (by omega) (by kernel_rfl) (opensLMethodInfo N)).le (Nat.le_succ N)).imp ?_
  rintro y ⟨xs, rfl, hl, hx⟩
  obtain ⟨l, rfl, hw⟩ := list_map hx
  have hr := reach47
  rw [List.length_map] at hl
  exact ⟨l, rfl, by omega, hw⟩
structure ClassI where
  name : ByteArray
  supers : List ByteArray
  methods : List ByteArray
def ClassI.d (c : ClassI) : D := .struct [.str c.name, .slice 1 (strs c.supers), .slice 1 (strs c.methods)]
def ClassI.ok (c : ClassI) : Prop := c.name.size ≤ 140737488351232 ∧ c.supers.length ≤ 140737488351232 ∧ (∀ x ∈ c.supers, x.size ≤ 140737488351232) ∧ c.methods.length ≤ 140737488351232 ∧ (∀ x ∈ c.methods, x.size ≤ 140737488351232)
theorem ClassI.sz (c : ClassI) (h : c.ok) : SzA Try.prog 118 c.d := by
  unfold ClassI.ok at h
  exact szClassInfo_of c.name (strs c.supers) (strs c.methods) (h.1) (szStrs c.supers (h.2.1) (h.2.2.1)) (szStrs c.methods (h.2.2.2.1) (h.2.2.2.2))
theorem ClassI.eq (c : ClassI) (h : c.ok) : EqA Try.prog 114 c.d := by
  unfold ClassI.ok at h
  exact eqClassInfo_of c.name (strs c.supers) (strs c.methods) (eqStrs c.supers (h.2.1)) (eqStrs c.methods (h.2.2.2.1))
theorem ClassI.to (c : ClassI) (hb : c.d.bulk ≤ 1048576) : ToA Try.prog 123 c.d := toClassInfo_of c.name (strs c.supers) (strs c.methods) (toStrs c.supers (by simp only [ClassI.d, D.bulk, D.bulks] at hb ⊢; omega)) (toStrs c.methods (by simp only [ClassI.d, D.bulk, D.bulks] at hb ⊢; omega))
theorem ClassI.n (c : ClassI) : c.d.n = 3 := by simp only [ClassI.d, D.n, D.nAll]
theorem classis_sz (l : List ClassI) (hn : l.length ≤ 140737488351232) (h : ∀ c ∈ l, c.ok) : SzO Try.prog 80 (.slice 3 (l.map ClassI.d)) := szClassInfoS_of _ (by rw [List.length_map]; exact hn) (map_mem fun c hc => c.sz (h c hc))
theorem classis_eq (l : List ClassI) (hn : l.length ≤ 140737488351232) (h : ∀ c ∈ l, c.ok) : EqO Try.prog 65 (.slice 3 (l.map ClassI.d)) := eqClassInfoS_of _ (by rw [List.length_map]; exact hn) (map_mem fun c hc => c.eq (h c hc))
theorem classis_to (l : List ClassI) (hb : (D.slice 3 (l.map ClassI.d)).bulk ≤ 1048576) : ToO Try.prog 85 (.slice 3 (l.map ClassI.d)) := by
  have h := D.bulk_slice hb
  exact toClassInfoS_of _ h.1 (map_mem fun c _ => c.n) (map_mem fun c hc => c.to (h.2 _ (List.mem_map.2 ⟨c, hc, rfl⟩)))
theorem classis_mk (l : List ClassI) (hn : l.length ≤ 140737488351232) (h : ∀ c ∈ l, c.ok) : MkO Try.prog 70 (.slice 3 (l.map ClassI.d)) := by
  refine markClassInfoS_of _ (by rw [List.length_map]; exact hn) (map_mem fun c hc => ?_)
  have h := h c hc
  unfold ClassI.ok at h
  exact ⟨c.name, (strs c.supers), (strs c.methods), rfl, (strs_mk c.supers (h.2.1)), (strs_mk c.methods (h.2.2.2.1))⟩
theorem classis_hd (l : List ClassI) (hn : l.length ≤ 140737488351232) (h : ∀ c ∈ l, c.ok) : HdO Try.prog 75 (.slice 3 (l.map ClassI.d)) := by
  refine heldClassInfoS_of _ (by rw [List.length_map]; exact hn) (map_mem fun c hc => ?_)
  have h := h c hc
  unfold ClassI.ok at h
  exact ⟨c.name, (strs c.supers), (strs c.methods), rfl, (strs_hd c.supers (h.2.1)), (strs_hd c.methods (h.2.2.2.1))⟩
theorem classis_cnt : ∀ (l : List ClassI), D.cnts (l.map ClassI.d) ≤ 10 * l.length + 3 * D.bulks (l.map ClassI.d)
  | [] => by simp [D.cnts]
  | c :: l => by
    have h2 := classis_cnt l
    have := strs_cnt c.supers
    have := strs_cnt c.methods
    simp only [List.map_cons, D.cnts, D.bulks, ClassI.d, D.cnt, D.bulk, List.length_cons, Ty.encs_length, strs_length, predsD_length] at *
    omega
theorem opensLClassInfo (N : Nat) : Opens Try.prog 182 (fun y => ∃ c : ClassI, y = c.d ∧ c.ok) N := by
  refine ((opens_struct (N := N) Try.underlying182 (by kernel_rfl) (opensF_cons (c := 1) rfl (by kernel_rfl) (opens_str Try.underlying9 (by kernel_rfl) N) (opensF_cons (c := 1) rfl (by kernel_rfl) (opensStrs N) (opensF_cons (c := 1) rfl (by kernel_rfl) (opensStrs N) opensF_nil)))).le (Nat.le_succ N)).imp ?_
  rintro y ⟨ys, rfl, _, _, rfl, ⟨name, rfl, hname⟩, _, _, rfl, ⟨supers, rfl, hsupers, gsupers⟩, _, _, rfl, ⟨methods, rfl, hmethods, gmethods⟩, rfl⟩
  have hr := reach47
  exact ⟨⟨name, supers, methods⟩, rfl, (show name.size ≤ 140737488351232 by omega), hsupers, gsupers, hmethods, gmethods⟩
theorem opensLClassInfoS (N : Nat) : Opens Try.prog 48 (fun y => ∃ l : List ClassI, y = D.slice 3 (l.map ClassI.d) ∧ l.length ≤ 140737488351232 ∧ ∀ c ∈ l, c.ok) N := by
  refine ((opens_slice (sz := 3) (B := 64) Try.underlying48 (by kernel_rfl) (by kernel_rfl) (by omega) (by kernel_rfl) (opensLClassInfo N)).le (Nat.le_succ N)).imp ?_
  rintro y ⟨xs, rfl, hl, hx⟩
  obtain ⟨l, rfl, hw⟩ := list_map hx
  have hr := reach47
  rw [List.length_map] at hl
  exact ⟨l, rfl, by omega, hw⟩
structure InstI where
  cls : ByteArray
  con : ByteArray
  vars : Int
  preds : List (ByteArray × Int)
def InstI.d (c : InstI) : D := .struct [.str c.cls, .str c.con, .int .i64 c.vars, .slice 2 (predsD c.preds)]
def InstI.ok (c : InstI) : Prop := c.cls.size ≤ 140737488351232 ∧ c.con.size ≤ 140737488351232 ∧ (Lit.int .i64 c.vars).wf = true ∧ c.preds.length ≤ 140737488351232 ∧ (∀ p ∈ c.preds, predOk p)
theorem InstI.sz (c : InstI) (h : c.ok) : SzA Try.prog 119 c.d := by
  unfold InstI.ok at h
  exact szInstInfo_of c.cls c.con c.vars (predsD c.preds) (h.1) (h.2.1) (preds_sz c.preds (h.2.2.2.1) (h.2.2.2.2))
theorem InstI.eq (c : InstI) (h : c.ok) : EqA Try.prog 27 c.d := by
  unfold InstI.ok at h
  exact eqInstInfo_of c.cls c.con c.vars (predsD c.preds) (preds_eq c.preds (h.2.2.2.1))
theorem InstI.to (c : InstI) (hb : c.d.bulk ≤ 1048576) : ToA Try.prog 124 c.d := toInstInfo_of c.cls c.con c.vars (predsD c.preds) (preds_to c.preds (by simp only [InstI.d, D.bulk, D.bulks] at hb ⊢; omega))
theorem InstI.n (c : InstI) : c.d.n = 4 := by simp only [InstI.d, D.n, D.nAll]
theorem instis_sz (l : List InstI) (hn : l.length ≤ 140737488351232) (h : ∀ c ∈ l, c.ok) : SzO Try.prog 81 (.slice 4 (l.map InstI.d)) := szInstInfoS_of _ (by rw [List.length_map]; exact hn) (map_mem fun c hc => c.sz (h c hc))
theorem instis_eq (l : List InstI) (hn : l.length ≤ 140737488351232) (h : ∀ c ∈ l, c.ok) : EqO Try.prog 66 (.slice 4 (l.map InstI.d)) := eqInstInfoS_of _ (by rw [List.length_map]; exact hn) (map_mem fun c hc => c.eq (h c hc))
theorem instis_to (l : List InstI) (hb : (D.slice 4 (l.map InstI.d)).bulk ≤ 1048576) : ToO Try.prog 86 (.slice 4 (l.map InstI.d)) := by
  have h := D.bulk_slice hb
  exact toInstInfoS_of _ h.1 (map_mem fun c _ => c.n) (map_mem fun c hc => c.to (h.2 _ (List.mem_map.2 ⟨c, hc, rfl⟩)))
theorem instis_mk (l : List InstI) (hn : l.length ≤ 140737488351232) (h : ∀ c ∈ l, c.ok) : MkO Try.prog 71 (.slice 4 (l.map InstI.d)) := by
  refine markInstInfoS_of _ (by rw [List.length_map]; exact hn) (map_mem fun c hc => ?_)
  have h := h c hc
  unfold InstI.ok at h
  exact ⟨c.cls, c.con, c.vars, (predsD c.preds), rfl, (preds_mk c.preds (h.2.2.2.1))⟩
theorem instis_hd (l : List InstI) (hn : l.length ≤ 140737488351232) (h : ∀ c ∈ l, c.ok) : HdO Try.prog 76 (.slice 4 (l.map InstI.d)) := by
  refine heldInstInfoS_of _ (by rw [List.length_map]; exact hn) (map_mem fun c hc => ?_)
  have h := h c hc
  unfold InstI.ok at h
  exact ⟨c.cls, c.con, c.vars, (predsD c.preds), rfl, (preds_hd c.preds (h.2.2.2.1))⟩
theorem instis_cnt : ∀ (l : List InstI), D.cnts (l.map InstI.d) ≤ 10 * l.length + 3 * D.bulks (l.map InstI.d)
  | [] => by simp [D.cnts]
  | c :: l => by
    have h2 := instis_cnt l
    have := preds_cnt c.preds
    simp only [List.map_cons, D.cnts, D.bulks, InstI.d, D.cnt, D.bulk, List.length_cons, Ty.encs_length, strs_length, predsD_length] at *
    omega
theorem opensLInstInfo (N : Nat) : Opens Try.prog 185 (fun y => ∃ c : InstI, y = c.d ∧ c.ok) N := by
  refine ((opens_struct (N := N) Try.underlying185 (by kernel_rfl) (opensF_cons (c := 1) rfl (by kernel_rfl) (opens_str Try.underlying9 (by kernel_rfl) N) (opensF_cons (c := 1) rfl (by kernel_rfl) (opens_str Try.underlying9 (by kernel_rfl) N) (opensF_cons (c := 1) rfl (by kernel_rfl) (opens_int Try.underlying2 (by kernel_rfl) N) (opensF_cons (c := 1) rfl (by kernel_rfl) (opensLPreds N) opensF_nil))))).le (Nat.le_succ N)).imp ?_
  rintro y ⟨ys, rfl, _, _, rfl, ⟨cls, rfl, hcls⟩, _, _, rfl, ⟨con, rfl, hcon⟩, _, _, rfl, ⟨vars, rfl, hvars⟩, _, _, rfl, ⟨preds, rfl, hpreds, gpreds⟩, rfl⟩
  have hr := reach47
  exact ⟨⟨cls, con, vars, preds⟩, rfl, (show cls.size ≤ 140737488351232 by omega), (show con.size ≤ 140737488351232 by omega), hvars, hpreds, gpreds⟩
theorem opensLInstInfoS (N : Nat) : Opens Try.prog 49 (fun y => ∃ l : List InstI, y = D.slice 4 (l.map InstI.d) ∧ l.length ≤ 140737488351232 ∧ ∀ c ∈ l, c.ok) N := by
  refine ((opens_slice (sz := 4) (B := 64) Try.underlying49 (by kernel_rfl) (by kernel_rfl) (by omega) (by kernel_rfl) (opensLInstInfo N)).le (Nat.le_succ N)).imp ?_
  rintro y ⟨xs, rfl, hl, hx⟩
  obtain ⟨l, rfl, hw⟩ := list_map hx
  have hr := reach47
  rw [List.length_map] at hl
  exact ⟨l, rfl, by omega, hw⟩
structure Tabs where
  cons : List ConI
  datas : List DataI
  methods : List MethI
  classes : List ClassI
  insts : List InstI
def Tabs.d (t : Tabs) : D := .struct [.slice 5 (t.cons.map ConI.d), .slice 3 (t.datas.map DataI.d), .slice 8 (t.methods.map MethI.d), .slice 3 (t.classes.map ClassI.d), .slice 4 (t.insts.map InstI.d)]
structure Tabs.ok (t : Tabs) : Prop where
  lcons : t.cons.length ≤ 140737488351232
  ocons : ∀ c ∈ t.cons, c.ok
  ldatas : t.datas.length ≤ 140737488351232
  odatas : ∀ c ∈ t.datas, c.ok
  lmethods : t.methods.length ≤ 140737488351232
  omethods : ∀ c ∈ t.methods, c.ok
  lclasses : t.classes.length ≤ 140737488351232
  oclasses : ∀ c ∈ t.classes, c.ok
  linsts : t.insts.length ≤ 140737488351232
  oinsts : ∀ c ∈ t.insts, c.ok
theorem Tabs.sz (t : Tabs) (h : t.ok) : SzA Try.prog 23 t.d := szTables_of (t.cons.map ConI.d) (t.datas.map DataI.d) (t.methods.map MethI.d) (t.classes.map ClassI.d) (t.insts.map InstI.d) (conis_sz t.cons h.lcons h.ocons) (datais_sz t.datas h.ldatas h.odatas) (methis_sz t.methods h.lmethods h.omethods) (classis_sz t.classes h.lclasses h.oclasses) (instis_sz t.insts h.linsts h.oinsts)
theorem Tabs.eq (t : Tabs) (h : t.ok) : EqA Try.prog 20 t.d := eqTables_of (t.cons.map ConI.d) (t.datas.map DataI.d) (t.methods.map MethI.d) (t.classes.map ClassI.d) (t.insts.map InstI.d) (conis_eq t.cons h.lcons h.ocons) (datais_eq t.datas h.ldatas h.odatas) (methis_eq t.methods h.lmethods h.omethods) (classis_eq t.classes h.lclasses h.oclasses) (instis_eq t.insts h.linsts h.oinsts)
theorem Tabs.to (t : Tabs) (hb : t.d.bulk ≤ 1048576) : ToA Try.prog 25 t.d := toTables_of (t.cons.map ConI.d) (t.datas.map DataI.d) (t.methods.map MethI.d) (t.classes.map ClassI.d) (t.insts.map InstI.d) (conis_to t.cons (by simp only [Tabs.d, D.bulk, D.bulks] at hb ⊢; omega)) (datais_to t.datas (by simp only [Tabs.d, D.bulk, D.bulks] at hb ⊢; omega)) (methis_to t.methods (by simp only [Tabs.d, D.bulk, D.bulks] at hb ⊢; omega)) (classis_to t.classes (by simp only [Tabs.d, D.bulk, D.bulks] at hb ⊢; omega)) (instis_to t.insts (by simp only [Tabs.d, D.bulk, D.bulks] at hb ⊢; omega))
theorem Tabs.mk_ (t : Tabs) (h : t.ok) : MkA Try.prog 21 t.d := markTables_of (t.cons.map ConI.d) (t.datas.map DataI.d) (t.methods.map MethI.d) (t.classes.map ClassI.d) (t.insts.map InstI.d) (conis_mk t.cons h.lcons h.ocons) (datais_mk t.datas h.ldatas h.odatas) (methis_mk t.methods h.lmethods h.omethods) (classis_mk t.classes h.lclasses h.oclasses) (instis_mk t.insts h.linsts h.oinsts)
theorem Tabs.n (t : Tabs) : t.d.n = 5 := rfl
theorem Tabs.tcnt (t : Tabs) (hb : t.d.bulk ≤ 1048576) : t.d.tcnt ≤ 1099511627776 := by
  have hcons := conis_cnt t.cons
  have hdatas := datais_cnt t.datas
  have hmethods := methis_cnt t.methods
  have hclasses := classis_cnt t.classes
  have hinsts := instis_cnt t.insts
  simp only [Tabs.d, D.bulk, D.bulks, List.length_map] at hb
  simp only [Tabs.d, D.tcnt, D.tcnts]
  omega
theorem opensLTables (N : Nat) : Opens Try.prog 51 (fun y => ∃ t : Tabs, y = t.d ∧ t.ok) N := by
  refine ((opens_struct (N := N) Try.underlying51 (by kernel_rfl) (opensF_cons (c := 1) rfl (by kernel_rfl) (opensLConInfoS N) (opensF_cons (c := 1) rfl (by kernel_rfl) (opensLDataInfoS N) (opensF_cons (c := 1) rfl (by kernel_rfl) (opensLMethodInfoS N) (opensF_cons (c := 1) rfl (by kernel_rfl) (opensLClassInfoS N) (opensF_cons (c := 1) rfl (by kernel_rfl) (opensLInstInfoS N) opensF_nil)))))).le (Nat.le_succ N)).imp ?_
  rintro y ⟨ys, rfl, _, _, rfl, ⟨cons, rfl, hcons, gcons⟩, _, _, rfl, ⟨datas, rfl, hdatas, gdatas⟩, _, _, rfl, ⟨methods, rfl, hmethods, gmethods⟩, _, _, rfl, ⟨classes, rfl, hclasses, gclasses⟩, _, _, rfl, ⟨insts, rfl, hinsts, ginsts⟩, rfl⟩
  exact ⟨⟨cons, datas, methods, classes, insts⟩, rfl, ⟨hcons, gcons, hdatas, gdatas, hmethods, gmethods, hclasses, gclasses, hinsts, ginsts⟩⟩

end Go.Proofs.Ytifmnijdaboenaa
