/-
  DERIVED. GIVEN WITH THE SEED: THE CARDS: each row of YtifmnijdaboenaaDoorRows.lean that lists a variable, with what it lists TIED to the program's text (the seventh form; the later family's looks); each row that meets fmt, with fmt's text TOLD by the authors' own Lean function (tested against real Go, not proved from fmt's source: count such statements apart). THE CARD IS WHAT COUNTS. Prove the row's statement (the work); the ties are given (YtifmnijdaboenaaDoorTie.lean); close each card by the builder's one call (the guide's Derived/Test/ToyasCard.lean, 'card_holds'). Laid BY PROGRAM, IN A SANDBOX (cutbox-door.mjs). By AI agents, Wed Nov 11 2026. No macro, syntax, notation, axiom, sorry.
-/
import Derived.Test.YtifmnijdaboenaaDoorRows
import GoSem.ClaimSeven
namespace Go.Proofs.YtifmnijdaboenaaDoor
namespace Rows

/-- THE TIED CARD OF 'laws.FnExactLex'. -/
def fnExactLexCard : Claim7 := { stood := { row := fnExactLexRow, standIns := [], harness := (true, "fdc0a6a1e2e41507d59e72132f5b1b1fd359e072454c541be0eb1dada7c93611"), looks := false }, kinds := [], alts := [], laidByText := true, laidKinds := [.data, .listed, .data, .pinned], laidTests := true, laidLooks := .later }
def FnExactLexCardSaid : Prop := Claim7.holds Tryd.pinned (.plain (OpenSpec.ofChange fnExactLexSpec)) fnExactLexCard

/-- THE TIED CARD OF 'laws.FnExactTokenFault'. -/
def fnExactTokenFaultCard : Claim7 := { stood := { row := fnExactTokenFaultRow, standIns := [], harness := (true, "fdc0a6a1e2e41507d59e72132f5b1b1fd359e072454c541be0eb1dada7c93611"), looks := false }, kinds := [], alts := [], laidByText := true, laidKinds := [.data, .listed, .data, .pinned], laidTests := true, laidLooks := .later }
def FnExactTokenFaultCardSaid : Prop := Claim7.holds Tryd.pinned (.plain (OpenSpec.ofChange fnExactTokenFaultSpec)) fnExactTokenFaultCard

/-- THE TIED CARD OF 'laws.FnExactSpell'. -/
def fnExactSpellCard : Claim7 := { stood := { row := fnExactSpellRow, standIns := [], harness := (true, "fdc0a6a1e2e41507d59e72132f5b1b1fd359e072454c541be0eb1dada7c93611"), looks := false }, kinds := [], alts := [], laidByText := true, laidKinds := [.data, .listed, .data, .pinned], laidTests := true, laidLooks := .later }
def FnExactSpellCardSaid : Prop := Claim7.holds Tryd.pinned (.plain (OpenSpec.ofChange fnExactSpellSpec)) fnExactSpellCard

/-- THE TIED CARD OF 'laws.FnExactSpellAll'. -/
def fnExactSpellAllCard : Claim7 := { stood := { row := fnExactSpellAllRow, standIns := [], harness := (true, "fdc0a6a1e2e41507d59e72132f5b1b1fd359e072454c541be0eb1dada7c93611"), looks := false }, kinds := [], alts := [], laidByText := true, laidKinds := [.data, .listed, .data, .pinned], laidTests := true, laidLooks := .later }
def FnExactSpellAllCardSaid : Prop := Claim7.holds Tryd.pinned (.plain (OpenSpec.ofChange fnExactSpellAllSpec)) fnExactSpellAllCard

/-- THE SECOND FORM's CARD OF 'laws.FnExactLex'. -/
def fnExactLexUptoCard : Claim7 := { stood := { row := fnExactLexUptoRow, standIns := [], harness := (true, "fdc0a6a1e2e41507d59e72132f5b1b1fd359e072454c541be0eb1dada7c93611"), looks := false }, kinds := [], alts := [], laidByText := true, laidKinds := [.data, .listed, .data, .pinned], laidTests := true, laidLooks := .later }
def FnExactLexUptoCardSaid : Prop := Claim7.holds Tryd.pinned (.plain (OpenSpec.upto fnExactLexSpec)) fnExactLexUptoCard

/-- THE SECOND FORM's CARD OF 'laws.FnExactTokenFault'. -/
def fnExactTokenFaultUptoCard : Claim7 := { stood := { row := fnExactTokenFaultUptoRow, standIns := [], harness := (true, "fdc0a6a1e2e41507d59e72132f5b1b1fd359e072454c541be0eb1dada7c93611"), looks := false }, kinds := [], alts := [], laidByText := true, laidKinds := [.data, .listed, .data, .pinned], laidTests := true, laidLooks := .later }
def FnExactTokenFaultUptoCardSaid : Prop := Claim7.holds Tryd.pinned (.plain (OpenSpec.upto fnExactTokenFaultSpec)) fnExactTokenFaultUptoCard

/-- THE SECOND FORM's CARD OF 'laws.FnExactSpell'. -/
def fnExactSpellUptoCard : Claim7 := { stood := { row := fnExactSpellUptoRow, standIns := [], harness := (true, "fdc0a6a1e2e41507d59e72132f5b1b1fd359e072454c541be0eb1dada7c93611"), looks := false }, kinds := [], alts := [], laidByText := true, laidKinds := [.data, .listed, .data, .pinned], laidTests := true, laidLooks := .later }
def FnExactSpellUptoCardSaid : Prop := Claim7.holds Tryd.pinned (.plain (OpenSpec.upto fnExactSpellSpec)) fnExactSpellUptoCard

/-- THE SECOND FORM's CARD OF 'laws.FnExactSpellAll'. -/
def fnExactSpellAllUptoCard : Claim7 := { stood := { row := fnExactSpellAllUptoRow, standIns := [], harness := (true, "fdc0a6a1e2e41507d59e72132f5b1b1fd359e072454c541be0eb1dada7c93611"), looks := false }, kinds := [], alts := [], laidByText := true, laidKinds := [.data, .listed, .data, .pinned], laidTests := true, laidLooks := .later }
def FnExactSpellAllUptoCardSaid : Prop := Claim7.holds Tryd.pinned (.plain (OpenSpec.upto fnExactSpellAllSpec)) fnExactSpellAllUptoCard
end Rows
end Go.Proofs.YtifmnijdaboenaaDoor
