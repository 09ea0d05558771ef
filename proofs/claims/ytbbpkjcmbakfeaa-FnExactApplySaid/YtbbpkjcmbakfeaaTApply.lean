/- The law 'FnExactApply' with what both functions answer; no condition. -/
import Derived.Test.YtbbpkjcmbakfeaaAppI
import Derived.Test.YtbbpkjcmbakfeaaBnd
import Derived.Test.YtbbpkjcmbakfeaaLawApply
namespace Go.Proofs.Ytbbpkjcmbakfeaa
open Go.RowKit
set_option linter.unusedVariables false
set_option linter.unusedSimpArgs false

theorem walkApply (bs : List (Int × Ty)) (x : Ty) (hn : bs.length ≤ 140737488351232) (hb : ∀ p ∈ bs, bindOk p) (ho : x.ok) (w : World) (A : Option Addr) (l c : Nat) (cs : List Value) (hB : Rd w (.slice 5 (bindsD bs)) [.slice A l c]) (h : Rd w x.enc cs) :
    Calls Try.prog 6 #[.slice A l c, .agg cs.toArray] w fun e w' => e = .returned (.bool true) ∧ Below w.heap.size w w' := by
  have hr := applyRes_ok bs (fun p hp => (hb p hp).2) x ho
  have hs : (D.slice 5 (bindsD bs)).bulk + x.enc.bulk ≤ 1048576 → BsOk bs := fun hq => ⟨by simp only [D.bulk, bindsD_length] at hq; omega, fun p hp => (hb p hp).2⟩
  refine lawFnExactApply (.slice 5 (bindsD bs)) x.enc (applyRes bs x).enc (binds_sz bs hn hb) (binds_to bs) (binds_eq bs hn hb) (fun hq => ⟨binds_tcnt bs hq, binds_mk bs hn hb⟩)
    x.n (Ty.sz x ho) (Ty.to x) (Ty.eq x ho) (fun hq => ⟨by have := Ty.tcnt_le x; omega, Ty.mkA x ho⟩) (Ty.n _) (Ty.eq _ hr.1)
    (fun _ => ⟨by have := Ty.tcnt_size (applyRes bs x); omega, Ty.mkA _ hr.1, Ty.hdA _ hr.1⟩) ?_ ?_ w _ cs hB h
  · intro hq w v cs h1 h2
    obtain ⟨A, c, he, _, _, h3⟩ := rd_slice h1
    obtain rfl : v = .slice A (bindsD bs).length c := by simpa using he
    rw [bindsD_length]
    exact specApply bs (hs hq) x ho w A c cs h3 h2
  · intro hq w v cs h1 h2
    obtain ⟨A, c, he, _, _, h3⟩ := rd_slice h1
    obtain rfl : v = .slice A (bindsD bs).length c := by simpa using he
    rw [bindsD_length]
    exact implApply bs (hs hq) (fun p hp => (hb p hp).1) x ho w A c cs h3 h2

end Go.Proofs.Ytbbpkjcmbakfeaa
