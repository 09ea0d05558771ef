/-
  NARROWER THAN 'FOR EVERY INPUT', by the rows' own cells (each row's printed sentence says how): FnExactAllNames: loops · FnExactFreeNames: loops · FnExactClose: loops · FnExactUnify: loops · FnExactStrictIn: loops.
  DERIVED. THE GIVEN ROWS OF THIS SEAT. 7 by the template 'for every input the law returns true; each argument reads behind the call as it read before'; 0 by the template 'total and deterministic' (their statements: YthidbmjdphfddaaTotals.lean).
  GIVEN WITH THE SEED: the statements are not yours to turn. If you find one false, say at which input.
  Laid BY PROGRAM, IN A SANDBOX (cutbox-rows.mjs): the forced cells as the released guide's own fill.sh prints them over the translation 7980bef09db23244… (all of the seat's roots in one cut). By AI agents, Wed Nov 11 2026. No macro, syntax, notation, axiom, sorry.
-/
import Derived.Test.YthidbmjdphfddaaChecked
import GoSem.Claim
import GoSem.ClaimJoined
import GoSem.ClaimMapViews
import Derived.JoinedTies
import Derived.KernelRfl
namespace Go.Proofs.Ythidbmjdphfddaa
/- THE CELL 'sum', in the pinned program and in every row, IS THE sha256 OF THE DUMP (.gsa) THAT YthidbmjdphfddaaProg.lean LOADS. Nothing in Lean hashes anything: it is a label: what it is worth is what the hold of that sum in a sandbox is worth. -/
noncomputable def Try.pinned : Pinned := { name := "ythidbmjdphfddaa", sum := "7980bef09db2324439a864d935eaad29ad9fb876ec98c8a9e0f990e8fff6eb43", checked := Try.checked }
namespace Rows
def none {H : Type} : Left H := { results := [], args := [] }

/-- 'laws.FnExactAllNames': WHATEVER THE INPUT: true; the input reads as it did. -/
def fnExactAllNamesSpec : ChangeSpec := { name := "fnExactAllNames", fn := fun _ => fun
  | [d] => { results := [.lit (.bool true)], args := [d] }
  | _ => none }
def fnExactAllNamesRow : OpenClaim := { program := "ythidbmjdphfddaa", sum := "7980bef09db2324439a864d935eaad29ad9fb876ec98c8a9e0f990e8fff6eb43", func := "loop.example/g00017/laws.FnExactAllNames", spec := "fnExactAllNames", unfollowed := true, recurses := true, loops := true, plainKeys := false, apart := false }
def FnExactAllNamesSaid : Prop := fnExactAllNamesRow.holds Try.pinned (OpenSpec.ofChange fnExactAllNamesSpec)

/-- ITS FALSE NEIGHBOUR: 'it returns false'. Refute it at one input. -/
def fnExactAllNamesWrong : ChangeSpec := { name := "fnExactAllNames", fn := fun _ => fun
  | [d] => { results := [.lit (.bool false)], args := [d] }
  | _ => none }
def FnExactAllNamesWrongFalsely : Prop := fnExactAllNamesRow.holds Try.pinned (OpenSpec.ofChange fnExactAllNamesWrong)

/-- 'laws.FnExactFreeNames': WHATEVER THE INPUT: true; the input reads as it did. -/
def fnExactFreeNamesSpec : ChangeSpec := { name := "fnExactFreeNames", fn := fun _ => fun
  | [d] => { results := [.lit (.bool true)], args := [d] }
  | _ => none }
def fnExactFreeNamesRow : OpenClaim := { program := "ythidbmjdphfddaa", sum := "7980bef09db2324439a864d935eaad29ad9fb876ec98c8a9e0f990e8fff6eb43", func := "loop.example/g00017/laws.FnExactFreeNames", spec := "fnExactFreeNames", unfollowed := true, recurses := true, loops := true, plainKeys := false, apart := false }
def FnExactFreeNamesSaid : Prop := fnExactFreeNamesRow.holds Try.pinned (OpenSpec.ofChange fnExactFreeNamesSpec)

/-- ITS FALSE NEIGHBOUR: 'it returns false'. Refute it at one input. -/
def fnExactFreeNamesWrong : ChangeSpec := { name := "fnExactFreeNames", fn := fun _ => fun
  | [d] => { results := [.lit (.bool false)], args := [d] }
  | _ => none }
def FnExactFreeNamesWrongFalsely : Prop := fnExactFreeNamesRow.holds Try.pinned (OpenSpec.ofChange fnExactFreeNamesWrong)

/-- 'laws.FnExactClose': WHATEVER THE INPUT: true; the input reads as it did. -/
def fnExactCloseSpec : ChangeSpec := { name := "fnExactClose", fn := fun _ => fun
  | [d1, d2, d3] => { results := [.lit (.bool true)], args := [d1, d2, d3] }
  | _ => none }
def fnExactCloseRow : OpenClaim := { program := "ythidbmjdphfddaa", sum := "7980bef09db2324439a864d935eaad29ad9fb876ec98c8a9e0f990e8fff6eb43", func := "loop.example/g00017/laws.FnExactClose", spec := "fnExactClose", recurses := true, loops := true, plainKeys := false, apart := false }
def FnExactCloseSaid : Prop := fnExactCloseRow.holds Try.pinned (OpenSpec.ofChange fnExactCloseSpec)

/-- ITS FALSE NEIGHBOUR: 'it returns false'. Refute it at one input. -/
def fnExactCloseWrong : ChangeSpec := { name := "fnExactClose", fn := fun _ => fun
  | [d1, d2, d3] => { results := [.lit (.bool false)], args := [d1, d2, d3] }
  | _ => none }
def FnExactCloseWrongFalsely : Prop := fnExactCloseRow.holds Try.pinned (OpenSpec.ofChange fnExactCloseWrong)

/-- 'laws.FnGroups': WHATEVER THE INPUT: true; the input reads as it did. -/
def fnGroupsSpec : ChangeSpec := { name := "fnGroups", fn := fun _ => fun
  | [d] => { results := [.lit (.bool true)], args := [d] }
  | _ => none }
def fnGroupsRow : OpenClaim := { program := "ythidbmjdphfddaa", sum := "7980bef09db2324439a864d935eaad29ad9fb876ec98c8a9e0f990e8fff6eb43", func := "loop.example/g00017/laws.FnGroups", spec := "fnGroups", inPlace := ["internal/reflectlite.ValueOf", "internal/reflectlite.Swapper", "(internal/reflectlite.Value).Len"], unfollowed := true, recurses := true, plainKeys := false, apart := false }
def FnGroupsSaid : Prop := fnGroupsRow.holds Try.pinned (OpenSpec.ofChange fnGroupsSpec)

/-- ITS FALSE NEIGHBOUR: 'it returns false'. Refute it at one input. -/
def fnGroupsWrong : ChangeSpec := { name := "fnGroups", fn := fun _ => fun
  | [d] => { results := [.lit (.bool false)], args := [d] }
  | _ => none }
def FnGroupsWrongFalsely : Prop := fnGroupsRow.holds Try.pinned (OpenSpec.ofChange fnGroupsWrong)

/-- 'laws.FnExactGroups': WHATEVER THE INPUT: true; the input reads as it did. -/
def fnExactGroupsSpec : ChangeSpec := { name := "fnExactGroups", fn := fun _ => fun
  | [d] => { results := [.lit (.bool true)], args := [d] }
  | _ => none }
def fnExactGroupsRow : OpenClaim := { program := "ythidbmjdphfddaa", sum := "7980bef09db2324439a864d935eaad29ad9fb876ec98c8a9e0f990e8fff6eb43", func := "loop.example/g00017/laws.FnExactGroups", spec := "fnExactGroups", inPlace := ["internal/reflectlite.ValueOf", "internal/reflectlite.Swapper", "(internal/reflectlite.Value).Len"], unfollowed := true, recurses := true, plainKeys := false, apart := false }
def FnExactGroupsSaid : Prop := fnExactGroupsRow.holds Try.pinned (OpenSpec.ofChange fnExactGroupsSpec)

/-- ITS FALSE NEIGHBOUR: 'it returns false'. Refute it at one input. -/
def fnExactGroupsWrong : ChangeSpec := { name := "fnExactGroups", fn := fun _ => fun
  | [d] => { results := [.lit (.bool false)], args := [d] }
  | _ => none }
def FnExactGroupsWrongFalsely : Prop := fnExactGroupsRow.holds Try.pinned (OpenSpec.ofChange fnExactGroupsWrong)

/-- 'laws.FnExactUnify': WHATEVER THE INPUT: true; the input reads as it did. -/
def fnExactUnifySpec : ChangeSpec := { name := "fnExactUnify", fn := fun _ => fun
  | [d1, d2] => { results := [.lit (.bool true)], args := [d1, d2] }
  | _ => none }
def fnExactUnifyRow : OpenClaim := { program := "ythidbmjdphfddaa", sum := "7980bef09db2324439a864d935eaad29ad9fb876ec98c8a9e0f990e8fff6eb43", func := "loop.example/g00017/laws.FnExactUnify", spec := "fnExactUnify", inPlace := ["internal/reflectlite.ValueOf", "internal/reflectlite.Swapper", "(internal/reflectlite.Value).Len"], unfollowed := true, recurses := true, loops := true, plainKeys := false, apart := false }
def FnExactUnifySaid : Prop := fnExactUnifyRow.holds Try.pinned (OpenSpec.ofChange fnExactUnifySpec)

/-- ITS FALSE NEIGHBOUR: 'it returns false'. Refute it at one input. -/
def fnExactUnifyWrong : ChangeSpec := { name := "fnExactUnify", fn := fun _ => fun
  | [d1, d2] => { results := [.lit (.bool false)], args := [d1, d2] }
  | _ => none }
def FnExactUnifyWrongFalsely : Prop := fnExactUnifyRow.holds Try.pinned (OpenSpec.ofChange fnExactUnifyWrong)

/-- 'laws.FnExactStrictIn': WHATEVER THE INPUT: true; the input reads as it did. -/
def fnExactStrictInSpec : ChangeSpec := { name := "fnExactStrictIn", fn := fun _ => fun
  | [d1, d2] => { results := [.lit (.bool true)], args := [d1, d2] }
  | _ => none }
def fnExactStrictInRow : OpenClaim := { program := "ythidbmjdphfddaa", sum := "7980bef09db2324439a864d935eaad29ad9fb876ec98c8a9e0f990e8fff6eb43", func := "loop.example/g00017/laws.FnExactStrictIn", spec := "fnExactStrictIn", unfollowed := true, recurses := true, loops := true, plainKeys := false, apart := false }
def FnExactStrictInSaid : Prop := fnExactStrictInRow.holds Try.pinned (OpenSpec.ofChange fnExactStrictInSpec)

/-- ITS FALSE NEIGHBOUR: 'it returns false'. Refute it at one input. -/
def fnExactStrictInWrong : ChangeSpec := { name := "fnExactStrictIn", fn := fun _ => fun
  | [d1, d2] => { results := [.lit (.bool false)], args := [d1, d2] }
  | _ => none }
def FnExactStrictInWrongFalsely : Prop := fnExactStrictInRow.holds Try.pinned (OpenSpec.ofChange fnExactStrictInWrong)

/- THE SECOND FORM. 'bulk': how many values and letters a reading holds, each counted each time it is reached (what is shared counts as often as it is met; a slice's spare places count too). A statement '..UptoSaid' is the law's where the arguments, and the package variables that the reading takes, are together of bulk at most 1048576: NARROWER than '..Said'. Prove '..Said' where nothing that the law and all that it calls make is longer than what came in: it says more and counts as full. Else prove '..UptoSaid'. A law counts once. -/
mutual
def uptoBulk {H : Type} : DataW H → Nat
  | .lit (.string bytes) => bytes.length + 1
  | .lit _ => 1
  | .nil => 1
  | .ptr d => uptoBulk d + 1
  | .slice elems spare => uptoBulkAll elems + uptoBulkAll spare + 1
  | .agg parts => uptoBulkAll parts + 1
  | .iface _ d => uptoBulk d + 1
  | .map entries => uptoBulkEntries entries + 1
  | .held _ => 1
def uptoBulkAll {H : Type} : List (DataW H) → Nat
  | [] => 0
  | d :: r => uptoBulk d + uptoBulkAll r
def uptoBulkEntries {H : Type} : List (Lit × DataW H) → Nat
  | [] => 0
  | x :: r => uptoBulkEntry x + uptoBulkEntries r
def uptoBulkEntry {H : Type} : Lit × DataW H → Nat
  | (.string bytes, d) => bytes.length + uptoBulk d + 1
  | (_, d) => uptoBulk d + 1
 end
def uptoSmall : (H : Type) → List (DataW H) → Bool := fun _ ds => decide (uptoBulkAll ds ≤ 1048576)
def OpenSpec.upto (s : _root_.Go.ChangeSpec) : _root_.Go.OpenSpec := { _root_.Go.OpenSpec.ofChange s with cond := some uptoSmall }

/-- 'laws.FnExactAllNames', WHERE WHAT IT READS IS OF BULK AT MOST 1048576: true; the input reads as it did. -/
def fnExactAllNamesUptoRow : OpenClaim := { program := "ythidbmjdphfddaa", sum := "7980bef09db2324439a864d935eaad29ad9fb876ec98c8a9e0f990e8fff6eb43", func := "loop.example/g00017/laws.FnExactAllNames", spec := "fnExactAllNames", unfollowed := true, recurses := true, loops := true, plainKeys := false, apart := false, narrowed := true }
def FnExactAllNamesUptoSaid : Prop := fnExactAllNamesUptoRow.holds Try.pinned (OpenSpec.upto fnExactAllNamesSpec)

/-- 'laws.FnExactFreeNames', WHERE WHAT IT READS IS OF BULK AT MOST 1048576: true; the input reads as it did. -/
def fnExactFreeNamesUptoRow : OpenClaim := { program := "ythidbmjdphfddaa", sum := "7980bef09db2324439a864d935eaad29ad9fb876ec98c8a9e0f990e8fff6eb43", func := "loop.example/g00017/laws.FnExactFreeNames", spec := "fnExactFreeNames", unfollowed := true, recurses := true, loops := true, plainKeys := false, apart := false, narrowed := true }
def FnExactFreeNamesUptoSaid : Prop := fnExactFreeNamesUptoRow.holds Try.pinned (OpenSpec.upto fnExactFreeNamesSpec)

/-- 'laws.FnExactClose', WHERE WHAT IT READS IS OF BULK AT MOST 1048576: true; the input reads as it did. -/
def fnExactCloseUptoRow : OpenClaim := { program := "ythidbmjdphfddaa", sum := "7980bef09db2324439a864d935eaad29ad9fb876ec98c8a9e0f990e8fff6eb43", func := "loop.example/g00017/laws.FnExactClose", spec := "fnExactClose", recurses := true, loops := true, plainKeys := false, apart := false, narrowed := true }
def FnExactCloseUptoSaid : Prop := fnExactCloseUptoRow.holds Try.pinned (OpenSpec.upto fnExactCloseSpec)

/-- 'laws.FnGroups', WHERE WHAT IT READS IS OF BULK AT MOST 1048576: true; the input reads as it did. -/
def fnGroupsUptoRow : OpenClaim := { program := "ythidbmjdphfddaa", sum := "7980bef09db2324439a864d935eaad29ad9fb876ec98c8a9e0f990e8fff6eb43", func := "loop.example/g00017/laws.FnGroups", spec := "fnGroups", inPlace := ["internal/reflectlite.ValueOf", "internal/reflectlite.Swapper", "(internal/reflectlite.Value).Len"], unfollowed := true, recurses := true, plainKeys := false, apart := false, narrowed := true }
def FnGroupsUptoSaid : Prop := fnGroupsUptoRow.holds Try.pinned (OpenSpec.upto fnGroupsSpec)

/-- 'laws.FnExactGroups', WHERE WHAT IT READS IS OF BULK AT MOST 1048576: true; the input reads as it did. -/
def fnExactGroupsUptoRow : OpenClaim := { program := "ythidbmjdphfddaa", sum := "7980bef09db2324439a864d935eaad29ad9fb876ec98c8a9e0f990e8fff6eb43", func := "loop.example/g00017/laws.FnExactGroups", spec := "fnExactGroups", inPlace := ["internal/reflectlite.ValueOf", "internal/reflectlite.Swapper", "(internal/reflectlite.Value).Len"], unfollowed := true, recurses := true, plainKeys := false, apart := false, narrowed := true }
def FnExactGroupsUptoSaid : Prop := fnExactGroupsUptoRow.holds Try.pinned (OpenSpec.upto fnExactGroupsSpec)

/-- 'laws.FnExactUnify', WHERE WHAT IT READS IS OF BULK AT MOST 1048576: true; the input reads as it did. -/
def fnExactUnifyUptoRow : OpenClaim := { program := "ythidbmjdphfddaa", sum := "7980bef09db2324439a864d935eaad29ad9fb876ec98c8a9e0f990e8fff6eb43", func := "loop.example/g00017/laws.FnExactUnify", spec := "fnExactUnify", inPlace := ["internal/reflectlite.ValueOf", "internal/reflectlite.Swapper", "(internal/reflectlite.Value).Len"], unfollowed := true, recurses := true, loops := true, plainKeys := false, apart := false, narrowed := true }
def FnExactUnifyUptoSaid : Prop := fnExactUnifyUptoRow.holds Try.pinned (OpenSpec.upto fnExactUnifySpec)

/-- 'laws.FnExactStrictIn', WHERE WHAT IT READS IS OF BULK AT MOST 1048576: true; the input reads as it did. -/
def fnExactStrictInUptoRow : OpenClaim := { program := "ythidbmjdphfddaa", sum := "7980bef09db2324439a864d935eaad29ad9fb876ec98c8a9e0f990e8fff6eb43", func := "loop.example/g00017/laws.FnExactStrictIn", spec := "fnExactStrictIn", unfollowed := true, recurses := true, loops := true, plainKeys := false, apart := false, narrowed := true }
def FnExactStrictInUptoSaid : Prop := fnExactStrictInUptoRow.holds Try.pinned (OpenSpec.upto fnExactStrictInSpec)

end Rows
end Go.Proofs.Ythidbmjdphfddaa
