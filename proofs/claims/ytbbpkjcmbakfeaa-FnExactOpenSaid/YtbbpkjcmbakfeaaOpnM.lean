/- Types opened: the greatest place, and both 'Open' whole; no condition. -/
import Derived.Test.YtbbpkjcmbakfeaaOpnI
import Derived.Test.YtbbpkjcmbakfeaaFamScheme
namespace Go.Proofs.Ytbbpkjcmbakfeaa
open Go.RowKit
set_option linter.unusedVariables false
set_option linter.unusedSimpArgs false

mutual
def Ty.most : Ty → Int
  | .mk k d _ ks => Ty.mosts ks (if k = 2 then d else -1)
def Ty.mosts : List Ty → Int → Int
  | [], m => m
  | x :: xs, m => Ty.mosts xs (if m < x.most then x.most else m)
end
def upTo (m y : Int) : Int := if m < y then y else m
theorem Ty.mosts_cons (x : Ty) (xs : List Ty) (m : Int) : Ty.mosts (x :: xs) m = Ty.mosts xs (upTo m x.most) := rfl
theorem Ty.mosts_nil (m : Int) : Ty.mosts [] m = m := rfl
theorem Ty.most_mk (k d : Int) (n : ByteArray) (ks : List Ty) : (Ty.mk k d n ks).most = Ty.mosts ks (if k = 2 then d else -1) := by rw [Ty.most]
theorem Ty.mosts_take {xs : List Ty} {j : Nat} (h : j < xs.length) (m : Int) : Ty.mosts (xs.take (j + 1)) m = upTo (Ty.mosts (xs.take j) m) xs[j].most := by
  rw [List.take_succ_eq_append_getElem h]
  generalize xs.take j = l
  induction l generalizing m with
  | nil => rfl
  | cons a l ih => exact ih _
theorem upTo_lt (m y c : Int) : upTo m y < c ↔ m < c ∧ y < c := by unfold upTo; split <;> omega
theorem Ty.mosts_lt (c : Int) : ∀ (xs : List Ty), (∀ x ∈ xs, x.gens c = true ↔ x.most < c) → ∀ m, Ty.mosts xs m < c ↔ m < c ∧ Ty.genss c xs = true
  | [], _, m => by rw [Ty.mosts_nil, Ty.genss]; simp
  | x :: xs, ih, m => by
    rw [Ty.mosts_cons, Ty.mosts_lt c xs (fun y hy => ih y (by simp [hy])), upTo_lt, Ty.genss, Bool.and_eq_true, ih x (by simp)]
    constructor
    · rintro ⟨⟨a, b⟩, c⟩; exact ⟨a, b, c⟩
    · rintro ⟨a, b, c⟩; exact ⟨⟨a, b⟩, c⟩
theorem Ty.gens_most (c : Int) (hc : 0 ≤ c) : ∀ x : Ty, x.gens c = true ↔ x.most < c :=
  Ty.induct fun k d n ks ih => by
    rw [Ty.most_mk, Ty.mosts_lt c ks ih, Ty.gens, Bool.and_eq_true]
    refine and_congr ?_ Iff.rfl
    by_cases hk : k = 2
    · rw [if_pos hk, if_pos hk]; simp
    · rw [if_neg hk, if_neg hk]; simp; omega

def SpecMost (x : Ty) : Prop := ∀ (w : World) (cs : List Value), Rd w x.enc cs → Calls Try.prog 76 #[.agg cs.toArray] w fun e w' => e = .returned (.int .i64 x.most) ∧ Below w.heap.size w w'

set_option maxRecDepth 100000 in
theorem SpecMost_of (k d : Int) (n : ByteArray) (ks : List Ty) (hn : ks.length ≤ 140737488351232) (ih : ∀ x ∈ ks, SpecMost x) : SpecMost (.mk k d n ks) := by
  intro w cs h
  obtain ⟨A, c, rfl, _, _, h4⟩ := Ty.open_ h
  have hal := below_alloc1 w (.cells #[.int .i64 k, .int .i64 d, .string n, .slice A ks.length c] 30)
  have HB := Lib.hid hal
  have BX := Lib.hid (blk_new w (.cells #[.int .i64 k, .int .i64 d, .string n, .slice A ks.length c] 30))
  have IH := Lib.hid ih
  have H4 := Lib.hid h4
  obtain ⟨R, hR⟩ : ∃ R, R = (Ty.mk k d n ks).most := ⟨_, rfl⟩
  rw [← hR]
  rw [Ty.most_mk] at hR
  clear h h4 ih hal
  have key : ∀ (b : Bool) (m0 : Int), (k == 2) = b → m0 = (if b = true then d else -1) → R = Ty.mosts ks m0 → Calls Try.prog 76 #[.agg #[.int .i64 k, .int .i64 d, .string n, .slice A ks.length c]] w fun e w' => e = .returned (.int .i64 R) ∧ Below w.heap.size w w' := by
    intro b m0 hk hm0 hR0
    have HR := Lib.hid hR0
    clear hR hR0
    cases b
    all_goals
      first
      | rw [if_neg (by decide)] at hm0
      | rw [if_pos rfl] at hm0
      have HM := Lib.hid hm0
      clear hm0
      go_enter Try.func76, Try.ntmps76
      go_wp2_with fail
      generalize hW : (w.alloc (.cells #[.int .i64 k, .int .i64 d, .string n, .slice A ks.length c] 30)) = W at *
      clear hW
      go_loopw [3, 4] (fun q i wr => ∃ (j : Nat) (m : Int), j ≤ ks.length ∧ i = .int .i64 j ∧ q = .int .i64 m ∧ Hid (Ty.mosts (ks.take j) m0 = m ∧ Below W.heap.size W wr)) (fun _ i _ => ks.length - (intOf i).toNat)
      case atStart => exact ⟨0, m0, Nat.zero_le _, rfl, by rw [HM.out], Lib.hid ⟨by rw [List.take_zero]; rfl, Below.refl _ _⟩⟩
      case round =>
        obtain ⟨j, m, hj, rfl, rfl, hrel⟩ := hrel
        obtain ⟨hm, hbr⟩ := hrel.out
        have MM := Lib.hid hm
        have BR := Lib.hid hbr
        have z3 : wr.cell? ⟨w.heap.size, 3, none⟩ = some (.slice A ks.length c) := (blk_cell (blk_below BX.out hbr) 3).trans rfl
        clear hrel hm hbr
        by_cases hlt : j < ks.length
        · obtain ⟨b, off, es, rfl, hcl, hrd, hc⟩ := (RdRow.below H4.out (by omega) (HB.out.trans (BR.out.mono HB.out.size))).get (i := j) (x := ks[j].enc) (by simp [Ty.encs_map, List.getElem?_eq_getElem hlt])
          obtain ⟨u0, u1, u2, u3, rfl⟩ := cells4 hcl
          have e0 := hc 0 _ rfl
          have e1 := hc 1 _ rfl
          have e2 := hc 2 _ rfl
          have e3 := hc 3 _ rfl
          rw [Nat.add_zero] at e0
          have CAL := Lib.hid (IH.out _ (List.getElem_mem hlt) wr _ hrd)
          have TK := Lib.hid (Ty.mosts_take hlt m0)
          generalize ks[j].most = y at *
          clear hrd hc hcl
          by_cases hlt2 : m < y
          all_goals
            go_wp2_with fail
            refine CAL.out.mono ?_
            rintro e w1 ⟨rfl, hb1⟩
            have BR1 := Lib.hid (BR.out.trans (hb1.mono BR.out.size))
            clear hb1 CAL
            go_wp2
            go_roundw
            case rel => exact ⟨j + 1, _, by omega, by go_num, rfl, Lib.hid ⟨by rw [TK.out, MM.out, upTo]; first | rw [if_pos (by omega)] | rw [if_neg (by omega)], BR1.out⟩⟩
            case measure => simp [intOf]; omega
        · obtain rfl : j = ks.length := by omega
          have hm := MM.out
          rw [List.take_length] at hm
          have HM2 := Lib.hid (HR.out.trans hm)
          clear hm
          go_wp2_with fail
          go_ret
          exact ⟨ret_int HM2.out.symm, HB.out.trans (BR.out.mono HB.out.size)⟩
  refine key (k == 2) _ rfl rfl ?_
  rw [hR]
  congr 1
  by_cases hk : k = 2
  · rw [if_pos hk, if_pos (by simpa using hk)]
  · rw [if_neg hk, if_neg (by simpa using hk)]
theorem SpecMost_all : ∀ (x : Ty), x.ok → SpecMost x :=
  Ty.induct fun k d n ks ih ho => by
    simp only [Ty.ok] at ho
    exact SpecMost_of k d n ks ho.2.2.2.1 fun x hx => ih x hx (Ty.oks_mem ho.2.2.2.2 x hx)

end Go.Proofs.Ytbbpkjcmbakfeaa
