/- The law 'FnBigText' at any run of bytes that was read; no condition. -/
import Derived.Test.YtajmeeppigdjnaaLawText
import Derived.Test.YtajmeeppigdjnaaTU8
namespace Go.Proofs.Ytajmeeppigdjnaa
open Go.RowKit Go.Proofs.YtajmeeppigdjnaaW.PrintWords Go.Proofs.YtajmeeppigdjnaaW.PrintMore
theorem walkBText (l : List Int) (hl : l.length ≤ 140737488351232) (hm : ∀ x ∈ l, 0 ≤ x ∧ x ≤ 255) (w : World) (v : Value) (h : Rd w (.slice 1 (ints .u8 l)) [v]) :
    Calls Try.prog 14 #[v] w fun e w' => e = .returned (.bool true) ∧ Below w.heap.size w w' := by
  obtain ⟨A, c, rfl, hc, _, hC⟩ := kdC_of_rd hl h
  exact lawFnBigText l hl hm A c hc w hC

end Go.Proofs.Ytajmeeppigdjnaa
