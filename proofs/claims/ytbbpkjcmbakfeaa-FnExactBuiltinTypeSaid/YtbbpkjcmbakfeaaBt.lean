/- Types made by hand: places, constructors, lists, functions; no condition. -/
import Derived.Test.YtbbpkjcmbakfeaaMp
import Derived.Test.YtbbpkjcmbakfeaaTy
namespace Go.Proofs.Ytbbpkjcmbakfeaa
open Go.RowKit
set_option linter.unusedVariables false
set_option linter.unusedSimpArgs false

/-- A slice that was built of fresh data. -/
theorem fr_built {B : Nat} {w : World} {cells : List Value} {e : TypeId} {sz : Nat} {ys : List D} (h : FrF B w ys cells) (hn : ∀ y ∈ ys, y.n = sz) (hB : B ≤ w.heap.size) (hm : ys.length ≤ maxLen) :
    Fr B (w.alloc (.cells cells.toArray e)) (.slice sz ys) [.slice (some ⟨w.heap.size, 0, none⟩) ys.length ys.length] := by
  obtain ⟨f, hF, ho⟩ := h
  have hb : Below w.heap.size w (w.alloc (.cells cells.toArray e)) := (Below.refl _ w).alloc (Nat.le_refl _) _
  have hF1 := D.Fields_move ys (fun k hk => hb.block k (D.Fields_lt ys hF k hk)) hb.size hF
  have hr := D.Row_of_fields (off := 0) hF1 hn (cellsAt_new w cells e)
  refine ⟨w.heap.size :: f, ?_, ?_⟩
  · simp only [D.K]
    exact ⟨some ⟨w.heap.size, 0, none⟩, ys.length, rfl, Nat.le_refl _, hm, .inr ⟨w.heap.size, 0, f, rfl, by simp, rfl, hr⟩⟩
  · have h1 := ho.below hb
    refine ⟨List.nodup_cons.2 ⟨fun hk => ?_, h1.1⟩, fun k hk => ?_⟩
    · have := D.Fields_lt ys hF _ hk
      omega
    · rcases List.mem_cons.1 hk with rfl | hk
      · exact ⟨hB, ⟨_, _, blk_new w _⟩⟩
      · exact h1.2 k hk
theorem frF_one {B : Nat} {w : World} {x : D} {cs : List Value} (h : Fr B w x cs) : FrF B w [x] cs := frF_last h

/-- A place made: in both. -/
theorem gens (w : World) (k : Int) :
    Calls Try.prog 68 #[.int .i64 k] w fun e w' => e = .returned (.agg #[.int .i64 2, .int .i64 k, .string ⟨#[]⟩, .slice none 0 0]) ∧ Below w.heap.size w w' := by
  go_enter Try.func68, Try.ntmps68
  go_wp2
  refine bodyPost_ret (v := .agg #[.int .i64 2, .int .i64 k, .string ⟨#[]⟩, .slice none 0 0]) (by simp [results, Try.results68, go_sem]) rfl ⟨rfl, ?_⟩
  exact (Below.refl _ _).alloc (Nat.le_refl _) _
theorem genI (w : World) (k : Int) :
    Calls Try.prog 74 #[.int .i64 k] w fun e w' => e = .returned (.agg #[.int .i64 2, .int .i64 k, .string ⟨#[]⟩, .slice none 0 0]) ∧ Below w.heap.size w w' := by
  go_enter Try.func74, Try.ntmps74
  go_wp2
  refine bodyPost_ret (v := .agg #[.int .i64 2, .int .i64 k, .string ⟨#[]⟩, .slice none 0 0]) (by simp [results, Try.results74, go_sem]) rfl ⟨rfl, ?_⟩
  exact (Below.refl _ _).alloc (Nat.le_refl _) _
/-- The program's constructor keeps the slice that it is given. -/
theorem conI (w : World) (n : ByteArray) (A : Option Addr) (j c : Nat) :
    Calls Try.prog 71 #[.string n, .slice A j c] w fun e w' => e = .returned (.agg #[.int .i64 3, .int .i64 0, .string n, .slice A j c]) ∧ Below w.heap.size w w' := by
  go_enter Try.func71, Try.ntmps71
  go_wp2
  refine bodyPost_ret (v := .agg #[.int .i64 3, .int .i64 0, .string n, .slice A j c]) (by simp [results, Try.results71, go_sem]) rfl ⟨rfl, ?_⟩
  exact (Below.refl _ _).alloc (Nat.le_refl _) _

/-- A slice that was built of fresh data, seen later. -/
theorem fr_made {B g : Nat} {w wf : World} {cells : List Value} {e : TypeId} {sz : Nat} {ys : List D} (h : FrF B w ys cells) (hb : Below w.heap.size w wf) (hg : wf.heap[g]? = some (.cells cells.toArray e (0, 0))) (hgB : w.heap.size ≤ g) (hn : ∀ y ∈ ys, y.n = sz) (hB : B ≤ w.heap.size) (hm : ys.length ≤ maxLen) :
    Fr B wf (.slice sz ys) [.slice (some ⟨g, 0, none⟩) ys.length ys.length] := by
  obtain ⟨f, hF, ho⟩ := h
  have hF1 := D.Fields_move ys (fun k hk => hb.block k (D.Fields_lt ys hF k hk)) hb.size hF
  have hc : CellsAt wf g 0 cells := fun j u hu => by
    rw [Nat.zero_add]
    exact (blk_cell hg j).trans (by simpa using hu)
  have hr := D.Row_of_fields (off := 0) hF1 hn hc
  refine ⟨g :: f, ?_, ?_⟩
  · simp only [D.K]
    exact ⟨some ⟨g, 0, none⟩, ys.length, rfl, Nat.le_refl _, hm, .inr ⟨g, 0, f, rfl, blk_lt hg, rfl, hr⟩⟩
  · have h1 := ho.below hb
    refine ⟨List.nodup_cons.2 ⟨fun hk => ?_, h1.1⟩, fun k hk => ?_⟩
    · have := D.Fields_lt ys hF _ hk
      omega
    · rcases List.mem_cons.1 hk with rfl | hk
      · exact ⟨Nat.le_trans hB hgB, ⟨_, _, hg⟩⟩
      · exact h1.2 k hk
set_option maxRecDepth 100000 in
theorem listI (w : World) (B : Nat) (xu : Ty) (u0 u1 u2 u3 : Value) (h : FrF B w [xu.enc] [u0, u1, u2, u3]) (hB : B ≤ w.heap.size) :
    Calls Try.prog 72 #[.agg #[u0, u1, u2, u3]] w fun e w' => ∃ cs', e = .returned (.agg cs'.toArray) ∧ Fr B w' (Ty.mk 3 0 ⟨#[91, 93]⟩ [xu]).enc cs' ∧ Below w.heap.size w w' := by
  have H := Lib.hid h
  have ONE : Hid (∀ u ∈ [u0, u1, u2, u3], u.oneCell' = true) := by
    obtain ⟨f, hF, _⟩ := h
    exact D.Fields_one _ hF
  clear h
  go_enter Try.func72, Try.ntmps72
  go_wp2_with fail
  refine (conI _ _ _ _ _).mono ?_
  rintro e w1 ⟨rfl, hb⟩
  have BX := Lib.hid (blk_below (blk_new ((w.alloc (.cells #[u0, u1, u2, u3] 30)).alloc (.cells #[.int .i64 0, .int .i64 0, .string ⟨#[]⟩, .slice none 0 0] 30)) (.cells #[u0, u1, u2, u3] 30)) hb)
  have BR := Lib.hid (blk_below (blk_old (blk_new (w.alloc (.cells #[u0, u1, u2, u3] 30)) (.cells #[.int .i64 0, .int .i64 0, .string ⟨#[]⟩, .slice none 0 0] 30)) (.cells #[u0, u1, u2, u3] 30)) hb)
  have HB := Lib.hid (((((Below.refl w.heap.size w).alloc (Nat.le_refl _) (.cells #[u0, u1, u2, u3] 30)).alloc (by first | (simp; done) | (simp; omega)) (.cells #[.int .i64 0, .int .i64 0, .string ⟨#[]⟩, .slice none 0 0] 30)).alloc (by first | (simp; done) | (simp; omega)) (.cells #[u0, u1, u2, u3] 30)).trans (hb.mono (by first | (simp; done) | (simp; omega))))
  clear hb
  have e1 : ((w.alloc (.cells #[u0, u1, u2, u3] 30)).alloc (.cells #[.int .i64 0, .int .i64 0, .string ⟨#[]⟩, .slice none 0 0] 30)).heap.size = w.heap.size + 1 + 1 := by simp
  have e2 : (w.alloc (.cells #[u0, u1, u2, u3] 30)).heap.size = w.heap.size + 1 := by simp
  rw [Hid, e1] at BX
  rw [Hid, e2] at BR
  have BX := Lib.hid BX
  have BR := Lib.hid BR
  clear e1 e2
  have zr0 : World.cell? w1 ⟨w.heap.size + 1, 0, none⟩ = some (.int .i64 0) := (blk_cell BR.out 0).trans rfl
  have zf0 := blk_frozen BR.out 0
  have zr1 : World.cell? w1 ⟨w.heap.size + 1, 1, none⟩ = some (.int .i64 0) := (blk_cell BR.out 1).trans rfl
  have zf1 := blk_frozen BR.out 1
  have zr2 : World.cell? w1 ⟨w.heap.size + 1, 2, none⟩ = some (.string ⟨#[]⟩) := (blk_cell BR.out 2).trans rfl
  have zf2 := blk_frozen BR.out 2
  have zr3 : World.cell? w1 ⟨w.heap.size + 1, 3, none⟩ = some (.slice none 0 0) := (blk_cell BR.out 3).trans rfl
  have zf3 := blk_frozen BR.out 3
  go_wp2
  refine bodyPost_ret (v := .agg #[.int .i64 3, .int .i64 0, .string ⟨#[91, 93]⟩, .slice (some ⟨w.heap.size + 1 + 1, 0, none⟩) 1 1]) (by simp [results, Try.results72, go_sem, zr0, zr1, zr2, zr3]) rfl ⟨[.int .i64 3, .int .i64 0, .string ⟨#[91, 93]⟩, .slice (some ⟨w.heap.size + 1 + 1, 0, none⟩) 1 1], rfl, ?_, ((((HB.out.setCell (p := ⟨w.heap.size + 1, 0, none⟩) (by first | (simp; done) | (simp; omega)) (.int .i64 3)).setCell (p := ⟨w.heap.size + 1, 1, none⟩) (by first | (simp; done) | (simp; omega)) (.int .i64 0)).setCell (p := ⟨w.heap.size + 1, 2, none⟩) (by first | (simp; done) | (simp; omega)) (.string ⟨#[91, 93]⟩)).setCell (p := ⟨w.heap.size + 1, 3, none⟩) (by first | (simp; done) | (simp; omega)) (.slice (some ⟨w.heap.size + 1 + 1, 0, none⟩) 1 1))⟩
  simp only [Ty.enc, Ty.encs]
  rw [fr_struct]
  exact frF_int (frF_int (frF_str (frF_last (fr_made H.out ((((HB.out.setCell (p := ⟨w.heap.size + 1, 0, none⟩) (by first | (simp; done) | (simp; omega)) (.int .i64 3)).setCell (p := ⟨w.heap.size + 1, 1, none⟩) (by first | (simp; done) | (simp; omega)) (.int .i64 0)).setCell (p := ⟨w.heap.size + 1, 2, none⟩) (by first | (simp; done) | (simp; omega)) (.string ⟨#[91, 93]⟩)).setCell (p := ⟨w.heap.size + 1, 3, none⟩) (by first | (simp; done) | (simp; omega)) (.slice (some ⟨w.heap.size + 1 + 1, 0, none⟩) 1 1)) (blk_far (blk_far (blk_far (blk_far BX.out (p := ⟨w.heap.size + 1, 0, none⟩) (by simp) (.int .i64 3)) (p := ⟨w.heap.size + 1, 1, none⟩) (by simp) (.int .i64 0)) (p := ⟨w.heap.size + 1, 2, none⟩) (by simp) (.string ⟨#[91, 93]⟩)) (p := ⟨w.heap.size + 1, 3, none⟩) (by simp) (.slice (some ⟨w.heap.size + 1 + 1, 0, none⟩) 1 1)) (by omega) (by simp [Ty.n]) hB (by simp [maxLen])))))
set_option maxRecDepth 100000 in
theorem funI (w : World) (B : Nat) (xu xv : Ty) (u0 u1 u2 u3 v0 v1 v2 v3 : Value) (h : FrF B w [xu.enc, xv.enc] [u0, u1, u2, u3, v0, v1, v2, v3]) (hB : B ≤ w.heap.size) :
    Calls Try.prog 73 #[.agg #[u0, u1, u2, u3], .agg #[v0, v1, v2, v3]] w fun e w' => ∃ cs', e = .returned (.agg cs'.toArray) ∧ Fr B w' (Ty.mk 3 0 ⟨#[45, 62]⟩ [xu, xv]).enc cs' ∧ Below w.heap.size w w' := by
  have H := Lib.hid h
  have ONE : Hid (∀ u ∈ [u0, u1, u2, u3, v0, v1, v2, v3], u.oneCell' = true) := by
    obtain ⟨f, hF, _⟩ := h
    exact D.Fields_one _ hF
  clear h
  go_enter Try.func73, Try.ntmps73
  go_wp2_with fail
  refine (conI _ _ _ _ _).mono ?_
  rintro e w1 ⟨rfl, hb⟩
  have BX := Lib.hid (blk_below (blk_new (((w.alloc (.cells #[u0, u1, u2, u3] 30)).alloc (.cells #[v0, v1, v2, v3] 30)).alloc (.cells #[.int .i64 0, .int .i64 0, .string ⟨#[]⟩, .slice none 0 0] 30)) (.cells #[u0, u1, u2, u3, v0, v1, v2, v3] 30)) hb)
  have BR := Lib.hid (blk_below (blk_old (blk_new ((w.alloc (.cells #[u0, u1, u2, u3] 30)).alloc (.cells #[v0, v1, v2, v3] 30)) (.cells #[.int .i64 0, .int .i64 0, .string ⟨#[]⟩, .slice none 0 0] 30)) (.cells #[u0, u1, u2, u3, v0, v1, v2, v3] 30)) hb)
  have HB := Lib.hid ((((((Below.refl w.heap.size w).alloc (Nat.le_refl _) (.cells #[u0, u1, u2, u3] 30)).alloc (by simp) (.cells #[v0, v1, v2, v3] 30)).alloc (by first | (simp; done) | (simp; omega)) (.cells #[.int .i64 0, .int .i64 0, .string ⟨#[]⟩, .slice none 0 0] 30)).alloc (by first | (simp; done) | (simp; omega)) (.cells #[u0, u1, u2, u3, v0, v1, v2, v3] 30)).trans (hb.mono (by first | (simp; done) | (simp; omega))))
  clear hb
  have e1 : (((w.alloc (.cells #[u0, u1, u2, u3] 30)).alloc (.cells #[v0, v1, v2, v3] 30)).alloc (.cells #[.int .i64 0, .int .i64 0, .string ⟨#[]⟩, .slice none 0 0] 30)).heap.size = w.heap.size + 1 + 1 + 1 := by simp
  have e2 : ((w.alloc (.cells #[u0, u1, u2, u3] 30)).alloc (.cells #[v0, v1, v2, v3] 30)).heap.size = w.heap.size + 1 + 1 := by simp
  rw [Hid, e1] at BX
  rw [Hid, e2] at BR
  have BX := Lib.hid BX
  have BR := Lib.hid BR
  clear e1 e2
  have zr0 : World.cell? w1 ⟨w.heap.size + 1 + 1, 0, none⟩ = some (.int .i64 0) := (blk_cell BR.out 0).trans rfl
  have zf0 := blk_frozen BR.out 0
  have zr1 : World.cell? w1 ⟨w.heap.size + 1 + 1, 1, none⟩ = some (.int .i64 0) := (blk_cell BR.out 1).trans rfl
  have zf1 := blk_frozen BR.out 1
  have zr2 : World.cell? w1 ⟨w.heap.size + 1 + 1, 2, none⟩ = some (.string ⟨#[]⟩) := (blk_cell BR.out 2).trans rfl
  have zf2 := blk_frozen BR.out 2
  have zr3 : World.cell? w1 ⟨w.heap.size + 1 + 1, 3, none⟩ = some (.slice none 0 0) := (blk_cell BR.out 3).trans rfl
  have zf3 := blk_frozen BR.out 3
  go_wp2
  refine bodyPost_ret (v := .agg #[.int .i64 3, .int .i64 0, .string ⟨#[45, 62]⟩, .slice (some ⟨w.heap.size + 1 + 1 + 1, 0, none⟩) 2 2]) (by simp [results, Try.results73, go_sem, zr0, zr1, zr2, zr3]) rfl ⟨[.int .i64 3, .int .i64 0, .string ⟨#[45, 62]⟩, .slice (some ⟨w.heap.size + 1 + 1 + 1, 0, none⟩) 2 2], rfl, ?_, ((((HB.out.setCell (p := ⟨w.heap.size + 1 + 1, 0, none⟩) (by first | (simp; done) | (simp; omega)) (.int .i64 3)).setCell (p := ⟨w.heap.size + 1 + 1, 1, none⟩) (by first | (simp; done) | (simp; omega)) (.int .i64 0)).setCell (p := ⟨w.heap.size + 1 + 1, 2, none⟩) (by first | (simp; done) | (simp; omega)) (.string ⟨#[45, 62]⟩)).setCell (p := ⟨w.heap.size + 1 + 1, 3, none⟩) (by first | (simp; done) | (simp; omega)) (.slice (some ⟨w.heap.size + 1 + 1 + 1, 0, none⟩) 2 2))⟩
  simp only [Ty.enc, Ty.encs]
  rw [fr_struct]
  exact frF_int (frF_int (frF_str (frF_last (fr_made H.out ((((HB.out.setCell (p := ⟨w.heap.size + 1 + 1, 0, none⟩) (by first | (simp; done) | (simp; omega)) (.int .i64 3)).setCell (p := ⟨w.heap.size + 1 + 1, 1, none⟩) (by first | (simp; done) | (simp; omega)) (.int .i64 0)).setCell (p := ⟨w.heap.size + 1 + 1, 2, none⟩) (by first | (simp; done) | (simp; omega)) (.string ⟨#[45, 62]⟩)).setCell (p := ⟨w.heap.size + 1 + 1, 3, none⟩) (by first | (simp; done) | (simp; omega)) (.slice (some ⟨w.heap.size + 1 + 1 + 1, 0, none⟩) 2 2)) (blk_far (blk_far (blk_far (blk_far BX.out (p := ⟨w.heap.size + 1 + 1, 0, none⟩) (by simp) (.int .i64 3)) (p := ⟨w.heap.size + 1 + 1, 1, none⟩) (by simp) (.int .i64 0)) (p := ⟨w.heap.size + 1 + 1, 2, none⟩) (by simp) (.string ⟨#[45, 62]⟩)) (p := ⟨w.heap.size + 1 + 1, 3, none⟩) (by simp) (.slice (some ⟨w.heap.size + 1 + 1 + 1, 0, none⟩) 2 2)) (by omega) (by simp [Ty.n]) hB (by simp [maxLen])))))

end Go.Proofs.Ytbbpkjcmbakfeaa
