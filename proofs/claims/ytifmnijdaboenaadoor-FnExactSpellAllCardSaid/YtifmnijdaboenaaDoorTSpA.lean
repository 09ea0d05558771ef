/- The law 'FnExactSpellAll' with what both functions answer; one condition: the library's table of blanks holds what its text lays. -/
import Derived.Test.YtifmnijdaboenaaDoorLawSpellAll
import Derived.Test.YtifmnijdaboenaaDoorSpK
import Derived.Test.YtifmnijdaboenaaDoorTTok
namespace Go.Proofs.YtifmnijdaboenaaDoor
open Go Go.RowKit
set_option linter.unusedVariables false
set_option linter.unusedSimpArgs false

theorem tks_bulk : ∀ {l : List Tk}, D.bulks (l.map Tk.d) ≤ 1048576 → ∀ z ∈ l, z.x.size ≤ 1048576
  | [], _, _, h => by cases h
  | y :: l, hb, z, h => by
    simp only [List.map_cons, D.bulks] at hb
    rcases List.mem_cons.1 h with rfl | h
    · exact tk_bulk (by omega)
    · exact tks_bulk (l := l) (by omega) z h
theorem walkSpellAll (l : List Tk) (hn : l.length ≤ 140737488351232) (hs : ∀ z ∈ l, z.x.size ≤ 140737488351232) (w : World) (hT : Tab w) (c : Value) (h : Rd w (.slice 4 (l.map Tk.d)) [c]) :
    Calls Tryd.prog 6 #[c] w fun e w' => e = .returned (.bool true) ∧ Below w.heap.size w w' := by
  have key : (D.slice 4 (l.map Tk.d)).bulk ≤ 1048576 → l.length ≤ 1048576 ∧ ∀ z ∈ l, z.x.size ≤ 1048576 := fun hb => by
    have h1 := (D.bulk_slice hb).1
    rw [List.length_map] at h1
    refine ⟨h1, tks_bulk ?_⟩
    simp only [D.bulk] at hb
    omega
  exact lawFnExactSpellAll (.slice 4 (l.map Tk.d)) ⟨(spAll [] (l.map tkP)).toArray⟩
    (szTokenS_of _ (by rw [List.length_map]; exact hn) (fun x hx => by
      obtain ⟨z, hz, rfl⟩ := List.mem_map.1 hx
      exact szToken_of _ _ _ _ (hs z hz)))
    (fun hb => toTokenS_of _ (D.bulk_slice hb).1 (fun x hx => by
      obtain ⟨z, hz, rfl⟩ := List.mem_map.1 hx
      rfl) (fun x hx => by
      obtain ⟨z, hz, rfl⟩ := List.mem_map.1 hx
      exact toToken_of _ _ _ _))
    (eqTokenS_of _ (by rw [List.length_map]; exact hn) (fun x hx => by
      obtain ⟨z, hz, rfl⟩ := List.mem_map.1 hx
      exact eqToken_of _ _ _ _))
    (fun hb w1 c1 h1 => by
      obtain ⟨A, cc, rfl, _, _, hr⟩ := rd_slice1 h1
      rw [List.length_map]
      exact specSpellAll l A cc (key hb).1 (key hb).2 w1 hr)
    w (fun hb w1 c1 hbl h1 => by
      obtain ⟨A, cc, rfl, _, _, hr⟩ := rd_slice1 h1
      rw [List.length_map]
      exact implSpellAll l A cc (key hb).1 (key hb).2 w1 (hT.below hbl) hr) c h

end Go.Proofs.YtifmnijdaboenaaDoor
