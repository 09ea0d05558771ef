/- The law 'FnExactAllNames': marks of core terms, and both functions joined; no condition. -/
import Derived.Test.YthidbmjdphfddaaAnW
import Derived.Test.YthidbmjdphfddaaLawAllNames
namespace Go.Proofs.Ythidbmjdphfddaa
open Go.RowKit
set_option linter.unusedVariables false
set_option linter.unusedSimpArgs false

theorem strs_mem' (l : List ByteArray) : ∀ y ∈ strs l, ∃ s : ByteArray, y = (.str s : D) := fun y hy => by
  obtain ⟨z, _, rfl⟩ := List.mem_map.1 hy
  exact ⟨z, rfl⟩
theorem u32s_mem' (l : List Int) : ∀ y ∈ u32s l, ∃ n, y = D.int .u32 n := fun y hy => by
  obtain ⟨z, _, rfl⟩ := List.mem_map.1 hy
  exact ⟨z, rfl⟩
def Cr.limbs : Cr → List Int | .mk _ _ _ l _ _ _ => l
def Cr.nms : Cr → List ByteArray | .mk _ _ _ _ ns _ _ => ns
def Cr.kids : Cr → List Cr | .mk _ _ _ _ _ ks _ => ks
def Cr.alts : Cr → List Ca | .mk _ _ _ _ _ _ qs => qs
theorem Cr.mkS : ∀ x : Cr, x.ok → MkO Try.prog 70 (.slice 7 (Cr.encs x.kids)) ∧ MkO Try.prog 71 (.slice 9 (Ca.encs x.alts)) :=
  Cr.induct fun k n m l ns ks qs ih ia h => by
    simp only [Cr.ok] at h
    obtain ⟨_, hn, hl, hns, hk, ha, hks, has⟩ := h
    refine ⟨markCoreS_of (Cr.encs ks) (by rw [Cr.encs_length]; exact hk) fun y hy => ?_, markCoreAltS_of (Ca.encs qs) (by rw [Ca.encs_length]; exact ha) fun y hy => ?_⟩
    · rw [Cr.encs_map] at hy
      obtain ⟨x, hx, rfl⟩ := List.mem_map.1 hy
      have hok := Cr.oks_mem hks x hx
      have := ih x hx hok
      cases x with
      | mk k' n' m' l' ns' ks' qs' =>
        simp only [Cr.ok] at hok
        exact ⟨k', n', m', u32s l', strs ns', Cr.encs ks', Ca.encs qs', by simp only [Cr.enc, bigD], markUint32S_of _ (by rw [u32s_length]; exact hok.2.2.1.1) (u32s_mem' _), markStringS_of _ (by rw [strs_length]; exact hok.2.2.2.1.1) (strs_mem' _), this.1, this.2⟩
    · rw [Ca.encs_map] at hy
      obtain ⟨a, hx, rfl⟩ := List.mem_map.1 hy
      have hok := Ca.oks_mem has a hx
      have := ia a hx (Ca.body_ok hok)
      cases a with
      | mk c bns b =>
        cases b with
        | mk k' n' m' l' ns' ks' qs' =>
          simp only [Ca.ok, Cr.ok] at hok
          exact ⟨c, strs bns, k', n', m', u32s l', strs ns', Cr.encs ks', Ca.encs qs', by simp only [Ca.enc, Cr.enc, bigD], markStringS_of _ (by rw [strs_length]; exact hok.2.1.1) (strs_mem' _), markUint32S_of _ (by rw [u32s_length]; exact hok.2.2.2.2.1.1) (u32s_mem' _), markStringS_of _ (by rw [strs_length]; exact hok.2.2.2.2.2.1.1) (strs_mem' _), this.1, this.2⟩
theorem Cr.mkA (x : Cr) (h : x.ok) : MkA Try.prog 16 x.enc := by
  have := Cr.mkS x h
  cases x with
  | mk k n m l ns ks qs =>
    simp only [Cr.ok] at h
    simp only [Cr.enc, bigD]
    exact markCore_of k n m (u32s l) (strs ns) (Cr.encs ks) (Ca.encs qs) (markBig_of m (u32s l) (markUint32S_of _ (by rw [u32s_length]; exact h.2.2.1.1) (u32s_mem' _))) (markStringS_of _ (by rw [strs_length]; exact h.2.2.2.1.1) (strs_mem' _)) this.1 this.2
theorem cnts_strs : ∀ l : List ByteArray, D.cnts (strs l) = l.length
  | [] => by simp [strs, D.cnts]
  | x :: l => by
    have := cnts_strs l
    simp only [strs, List.map_cons, D.cnts, D.cnt, List.length_cons] at this ⊢
    omega
theorem cnts_u32s : ∀ l : List Int, D.cnts (u32s l) = l.length
  | [] => by simp [u32s, D.cnts]
  | x :: l => by
    have := cnts_u32s l
    simp only [u32s, List.map_cons, D.cnts, D.cnt, List.length_cons] at this ⊢
    omega
mutual
theorem Cr.cnt_le : ∀ x : Cr, x.enc.cnt ≤ 3 + 4 * x.enc.bulk
  | .mk k n m l ns ks qs => by
    have h1 := Cr.cnts_le ks
    have h2 := Ca.cnts_le qs
    simp only [Cr.enc, bigD, D.cnt, D.cnts, D.bulk, D.bulks, cnts_strs, cnts_u32s, strs_length, u32s_length, Cr.encs_length, Ca.encs_length]
    omega
theorem Cr.cnts_le : ∀ xs : List Cr, D.cnts (Cr.encs xs) ≤ 4 * xs.length + 4 * D.bulks (Cr.encs xs)
  | [] => by simp [Cr.encs, D.cnts]
  | x :: xs => by
    have h1 := Cr.cnt_le x
    have h2 := Cr.cnts_le xs
    simp only [Cr.encs, D.cnts, D.bulks, List.length_cons]
    omega
theorem Ca.cnt_le : ∀ x : Ca, x.enc.cnt ≤ 4 + 4 * x.enc.bulk
  | .mk c ns b => by
    have h1 := Cr.cnt_le b
    simp only [Ca.enc, D.cnt, D.cnts, D.bulk, D.bulks, cnts_strs, strs_length]
    omega
theorem Ca.cnts_le : ∀ xs : List Ca, D.cnts (Ca.encs xs) ≤ 4 * xs.length + 4 * D.bulks (Ca.encs xs)
  | [] => by simp [Ca.encs, D.cnts]
  | x :: xs => by
    have h1 := Ca.cnt_le x
    have h2 := Ca.cnts_le xs
    simp only [Ca.encs, D.cnts, D.bulks, List.length_cons]
    omega
end
theorem Cr.tcnt_le (x : Cr) : x.enc.tcnt ≤ 4 * x.enc.bulk := by
  cases x with
  | mk k n m l ns ks qs =>
    have h1 := Cr.cnts_le ks
    have h2 := Ca.cnts_le qs
    simp only [Cr.enc, bigD, D.tcnt, D.tcnts, D.bulk, D.bulks, cnts_strs, cnts_u32s, strs_length, u32s_length, Cr.encs_length, Ca.encs_length]
    omega

theorem walkAllNames (x : Cr) (hx : x.ok) (w : World) (c : List Value) (h : Rd w x.enc c) :
    Calls Try.prog 3 #[.agg c.toArray] w fun e w' => e = .returned (.bool true) ∧ Below w.heap.size w w' := by
  by_cases hb : x.enc.bulk ≤ 1048576
  · have hl := allAns_len x hb
    exact lawFnExactAllNames x.enc (.slice 1 (strs (allAns x))) x.n (Cr.sz x hx) (Cr.to x) (Cr.eq x hx)
      (fun hb => ⟨by have := Cr.tcnt_le x; omega, Cr.mkA x hx⟩)
      (eqStringS_of _ (by rw [strs_length]; omega) (strs_mem fun x hx => ⟨x, rfl⟩))
      (fun hb => ⟨by simp only [D.tcnt]; rw [cnts_strs]; omega, markStringS_of _ (by rw [strs_length]; omega) (strs_mem' _), heldStringS_of _ (by rw [strs_length]; omega) (strs_mem' _)⟩)
      (fun hb w c h => specAllNames x hx hb w c h) (fun hb w c h => implAllNames x hx hb w c h) w c h
  · exact lawFnExactAllNames x.enc (.slice 1 (strs [])) x.n (Cr.sz x hx) (Cr.to x) (Cr.eq x hx)
      (fun h => absurd h hb) (eqStringS_of _ (by simp [strs]) (strs_mem fun x hx => ⟨x, rfl⟩)) (fun h => absurd h hb) (fun h => absurd h hb) (fun h => absurd h hb) w c h

end Go.Proofs.Ythidbmjdphfddaa
