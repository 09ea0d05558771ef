/-
  DERIVED. GIVEN WITH THE SEED: THE CARDS: each row of YthidbmjdphfddaaDoorRows.lean that lists a variable, with what it lists TIED to the program's text (the seventh form; the later family's looks); each row that meets fmt, with fmt's text TOLD by the authors' own Lean function (tested against real Go, not proved from fmt's source: count such statements apart). THE CARD IS WHAT COUNTS. Prove the row's statement (the work); the ties are given (YthidbmjdphfddaaDoorTie.lean); close each card by the builder's one call (the guide's Derived/Test/ToyasCard.lean, 'card_holds'). Laid BY PROGRAM, IN A SANDBOX (cutbox-door.mjs). By AI agents, Wed Nov 11 2026. No macro, syntax, notation, axiom, sorry.
-/
import Derived.Test.YthidbmjdphfddaaDoorRows
import GoSem.ClaimSeven
namespace Go.Proofs.YthidbmjdphfddaaDoor
namespace Rows

/-- THE TIED CARD OF 'laws.FnExactBuiltinNames'. -/
def fnExactBuiltinNamesCard : Claim7 := { stood := { row := fnExactBuiltinNamesRow, standIns := [], harness := (true, "d76c1bca41b31903a4f4d2722722eefda823cd95d40fd1421e52f96fe37927ef"), looks := false }, kinds := [], alts := [], laidByText := true, laidKinds := [.listed, .data], laidTests := true, laidLooks := .later }
def FnExactBuiltinNamesCardSaid : Prop := Claim7.holds Tryd.pinned (.plain (OpenSpec.ofChange fnExactBuiltinNamesSpec)) fnExactBuiltinNamesCard

/-- THE TIED CARD OF 'laws.FnExactShow'. -/
def fnExactShowCard : Claim7 := { stood := { row := fnExactShowRow, standIns := [], harness := (true, "d76c1bca41b31903a4f4d2722722eefda823cd95d40fd1421e52f96fe37927ef"), looks := false }, kinds := [], alts := [], laidByText := true, laidKinds := [.data, .data, .data], laidTests := true, laidLooks := .later }
def FnExactShowCardSaid : Prop := Claim7.holds Tryd.pinned (.plain (OpenSpec.ofChange fnExactShowSpec)) fnExactShowCard

/-- THE SECOND FORM's CARD OF 'laws.FnExactBuiltinNames'. -/
def fnExactBuiltinNamesUptoCard : Claim7 := { stood := { row := fnExactBuiltinNamesUptoRow, standIns := [], harness := (true, "d76c1bca41b31903a4f4d2722722eefda823cd95d40fd1421e52f96fe37927ef"), looks := false }, kinds := [], alts := [], laidByText := true, laidKinds := [.listed, .data], laidTests := true, laidLooks := .later }
def FnExactBuiltinNamesUptoCardSaid : Prop := Claim7.holds Tryd.pinned (.plain (OpenSpec.upto fnExactBuiltinNamesSpec)) fnExactBuiltinNamesUptoCard

/-- THE SECOND FORM's CARD OF 'laws.FnExactShow'. -/
def fnExactShowUptoCard : Claim7 := { stood := { row := fnExactShowUptoRow, standIns := [], harness := (true, "d76c1bca41b31903a4f4d2722722eefda823cd95d40fd1421e52f96fe37927ef"), looks := false }, kinds := [], alts := [], laidByText := true, laidKinds := [.data, .data, .data], laidTests := true, laidLooks := .later }
def FnExactShowUptoCardSaid : Prop := Claim7.holds Tryd.pinned (.plain (OpenSpec.upto fnExactShowSpec)) fnExactShowUptoCard
end Rows
end Go.Proofs.YthidbmjdphfddaaDoor
