/- Types made by hand: the reference's; no condition. -/
import Derived.Test.YtbbpkjcmbakfeaaBtA
import Derived.Outline
namespace Go.Proofs.Ytbbpkjcmbakfeaa
open Go.RowKit
set_option linter.unusedVariables false
set_option linter.unusedSimpArgs false

theorem infoTypeB4 : (Try.prog.info? 30).map (·.size) = some 4 := by kernel_rfl
theorem infoTypeB : (Try.prog.info? 30).map (fun i => (i.zero, i.size, i.bytes)) = some (some (.agg #[.int .i64 0, .int .i64 0, .string ⟨#[]⟩, .slice none 0 0]), 4, 56) := by kernel_rfl

set_option maxRecDepth 100000 in
theorem conS0 (w : World) (n : ByteArray) :
    Calls Try.prog 67 #[.string n, .slice none 0 0] w fun e w' => ∃ cs', e = .returned (.agg cs'.toArray) ∧ Fr w.heap.size w' (Ty.mk 3 0 n []).enc cs' ∧ Below w.heap.size w w' := by
  go_enter Try.func67, Try.ntmps67
  go_wp2_with fail
  refine bodyPost_ret (v := .agg #[.int .i64 3, .int .i64 0, .string n, .slice (some ⟨w.heap.size + 1, 0, none⟩) 0 0]) (by simp [results, Try.results67, go_sem]) rfl ⟨[.int .i64 3, .int .i64 0, .string n, .slice (some ⟨w.heap.size + 1, 0, none⟩) 0 0], rfl, ?_, ((Below.refl _ _).alloc (Nat.le_refl _) _).alloc (by simp) _⟩
  simp only [Ty.enc, Ty.encs]
  rw [fr_struct]
  exact frF_int (frF_int (frF_str (frF_last (fr_nil _ _ 4 _ 0 (Nat.zero_le _)))))

set_option maxRecDepth 100000 in
theorem conS (w1 w : World) (B : Nat) (n : ByteArray) (ys : List Ty) (cs : List Value) (va : Value) (g c : Nat) (hva : va = .slice (some ⟨g, 0, none⟩) ys.length c) (hy : FrF B w1 (Ty.encs ys) cs) (hlen : cs.length = ys.length * 4) (hb0 : Below w1.heap.size w1 w) (hg : CellsAt w g 0 cs) (hgl : g < w.heap.size) (hpos : 0 < ys.length) (hn : ys.length ≤ 1000) (hB : B ≤ w1.heap.size) :
    Calls Try.prog 67 #[.string n, va] w fun e w' => ∃ A c', e = .returned (.agg #[.int .i64 3, .int .i64 0, .string n, .slice A ys.length c']) ∧ c' ≤ maxLen ∧ (∀ w'', w'.heap.size ≤ w''.heap.size → (∀ k, k < w'.heap.size → (k < w1.heap.size ∨ w.heap.size < k) → w''.heap[k]? = w'.heap[k]?) → Fr B w'' (Ty.mk 3 0 n ys).enc [.int .i64 3, .int .i64 0, .string n, .slice A ys.length c']) ∧ Below w.heap.size w w' := by
  have HV : Hid (World.ownsRow ((w.alloc (.cells #[.int .i64 0, .int .i64 0, .string ⟨#[]⟩, .slice none 0 0] 30)).alloc (.cells #[] 30)) w1.heap.size 30 4 (.slice (some ⟨w.heap.size + 1, 0, none⟩) 0 0) 0 []) := by
    refine ⟨rfl, .inr ⟨w.heap.size + 1, 0, #[], rfl, by have := hb0.size; omega, blk_new_g (by simp), Nat.le_refl _, by decide, rfl, rfl⟩⟩
  have HB : Hid (Below w1.heap.size w1 ((w.alloc (.cells #[.int .i64 0, .int .i64 0, .string ⟨#[]⟩, .slice none 0 0] 30)).alloc (.cells #[] 30))) := (hb0.alloc hb0.size _).alloc (by have := hb0.size; simp; omega) _
  have HG : Hid (CellsAt ((w.alloc (.cells #[.int .i64 0, .int .i64 0, .string ⟨#[]⟩, .slice none 0 0] 30)).alloc (.cells #[] 30)) g 0 cs) := (hg.move (((Below.refl w.heap.size w).alloc (Nat.le_refl _) (.cells #[.int .i64 0, .int .i64 0, .string ⟨#[]⟩, .slice none 0 0] 30)).alloc (by simp) (.cells #[] 30) |>.block g hgl))
  have BR := Lib.hid (blk_old (blk_new w (.cells #[.int .i64 0, .int .i64 0, .string ⟨#[]⟩, .slice none 0 0] 30)) (.cells #[] 30))
  obtain ⟨i0, hi, hz0, hz1, hz2⟩ := info_parts infoTypeB
  have H := Lib.hid hy
  have HVA := Lib.hid (show va = .slice (some ⟨g, 0, none⟩) (Ty.encs ys).length c by rw [hva, Ty.encs_length])
  replace hb0 := hb0.size
  clear hy hg hva
  go_enter Try.func67, Try.ntmps67
  go_wp2_with (at_builtin; refine wpl_app (w1 := w1) rfl _ _ 28 rfl B 30 i0 (.agg #[.int .i64 0, .int .i64 0, .string ⟨#[]⟩, .slice none 0 0]) 4 56 Try.underlying28 hi hz0 hz1 hz2 rfl (by decide) (.slice (some ⟨w.heap.size + 1, 0, none⟩) 0 0) rfl HV.out HB.out (Ty.encs ys) cs H.out (Ty.encs_mem fun x _ => x.n) (by rw [Ty.encs_length]; exact hlen) (by rw [Ty.encs_length]; exact hpos) g c HVA.out HG.out (by rw [Ty.encs_length]; omega) (by rw [Ty.encs_length]; omega) hB ?_; intro v' w2 hfr hbw hgw; obtain ⟨A', c', rfl, _, hcm, _⟩ := (hfr w2 (Nat.le_refl _) (fun _ _ _ => rfl)).slice; have FR := Lib.hid hfr; have BW := Lib.hid hbw; have CM := Lib.hid hcm; have GW := Lib.hid hgw; clear hcm; have BR2 := Lib.hid ((hgw.block w.heap.size (by simp; omega) (by simp [Value.ownBlock])).trans BR.out); have zr0 : World.cell? w2 ⟨w.heap.size, 0, none⟩ = some (.int .i64 0) := (blk_cell BR2.out 0).trans rfl; have zr1 : World.cell? w2 ⟨w.heap.size, 1, none⟩ = some (.int .i64 0) := (blk_cell BR2.out 1).trans rfl; have zr2 : World.cell? w2 ⟨w.heap.size, 2, none⟩ = some (.string ⟨#[]⟩) := (blk_cell BR2.out 2).trans rfl; have zr3 : World.cell? w2 ⟨w.heap.size, 3, none⟩ = some (.slice none 0 0) := (blk_cell BR2.out 3).trans rfl; have zf0 := blk_frozen BR2.out 0; have zf1 := blk_frozen BR2.out 1; have zf2 := blk_frozen BR2.out 2; have zf3 := blk_frozen BR2.out 3; clear hfr hbw hgw)
  have LE := Lib.hid (Ty.encs_length ys)
  refine bodyPost_ret (v := .agg #[.int .i64 3, .int .i64 0, .string n, .slice A' ys.length c']) (by rw [← Ty.encs_length ys]; simp [results, Try.results67, go_sem, zr0, zr1, zr2, zr3]) rfl ⟨_, _, rfl, CM.out, fun w'' hs hq => ?_, ?_⟩
  · have hs1 : w2.heap.size ≤ w''.heap.size := by simpa [World.setCell] using hs
    have h2 := FR.out w'' hs1 fun k hk hc => by
      have hne : k ≠ w.heap.size := by
        rcases hc with hc | hc | hc
        · omega
        · simp [Value.ownBlock] at hc
          omega
        · simp at hc
          omega
      refine (hq k (by simpa [World.setCell] using hk) ?_).trans ?_
      · rcases hc with hc | hc | hc
        · exact .inl hc
        · simp [Value.ownBlock] at hc
          exact .inr (by omega)
        · simp at hc
          exact .inr (by omega)
      · exact (grown_set4 w2 w.heap.size (.int .i64 3) (.int .i64 0) (.string n) (.slice A' (Ty.encs ys).length c')).block k hk (by simpa using hne)
    simp only [Ty.enc]
    rw [fr_struct, ← Ty.encs_length ys]
    exact frF_int (frF_int (frF_str (frF_last h2)))
  · exact ((((Below.refl w.heap.size w).alloc (Nat.le_refl _) _).alloc (by simp) _).grown GW.out (by simp; omega) (fun q hq => by simp [Value.ownBlock] at hq; omega)).grown (grown_set4 _ _ _ _ _ _) (Nat.le_trans (by simp; omega) GW.out.size) (fun q hq => by injection hq with hq; omega)

end Go.Proofs.Ytbbpkjcmbakfeaa
