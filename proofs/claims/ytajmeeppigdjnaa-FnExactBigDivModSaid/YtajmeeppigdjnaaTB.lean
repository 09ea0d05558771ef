/- Great numbers as arguments: in the print's words. No condition. -/
import Derived.Test.YtajmeeppigdjnaaTBig
import Derived.Test.YtajmeeppigdjnaaBigM
import Derived.Test.YtajmeeppigdjnaaKd
namespace Go.Proofs.Ytajmeeppigdjnaa
open Go.RowKit Go.Proofs.YtajmeeppigdjnaaW.PrintWords Go.Proofs.YtajmeeppigdjnaaW.PrintMore
set_option linter.unusedVariables false

theorem us_of_wf {l : List Int} (h : ∀ n ∈ l, (Lit.int .u32 n).wf = true) : Us l := fun n hn => by
  have h1 := h n hn
  have h2 : IntKind.u32.min ≤ n ∧ n ≤ IntKind.u32.max := by simpa [Lit.wf] using h1
  have e1 : IntKind.u32.min = 0 := by decide
  have e2 : IntKind.u32.max = 4294967295 := by decide
  omega
theorem bigArg {m : Bool} {l : List Int} {w : World} {c : List Value} (hl : l.length ≤ 140737488351232) (h : Rd w (bigD m l) c) : ∃ A n, c = [.bool m, .slice A l.length n] ∧ l.length ≤ n ∧ Kd.C (Kd.int .u32) w A l.length l := by
  obtain ⟨A, n, rfl, h1, _, hr⟩ := openBg h
  exact ⟨A, n, rfl, h1, kdC_of_row hl hr⟩

end Go.Proofs.Ytajmeeppigdjnaa
