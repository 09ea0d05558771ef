/-
  NARROWER THAN 'FOR EVERY INPUT', by the rows' own cells (each row's printed sentence says how): FnExactSameNode: loops · FnExactSameType: loops · FnExactNodeCount: loops · FnExactTypeFault: loops.
  DERIVED. THE GIVEN ROWS OF THIS SEAT. 11 by the template 'for every input the law returns true; each argument reads behind the call as it read before'; 0 by the template 'total and deterministic' (their statements: YtgogfloppnhceaaTotals.lean).
  GIVEN WITH THE SEED: the statements are not yours to turn. If you find one false, say at which input.
  Laid BY PROGRAM, IN A SANDBOX (cutbox-rows.mjs): the forced cells as the released guide's own fill.sh prints them over the translation 9655d8aa0669d95d… (all of the seat's roots in one cut). By AI agents, Wed Nov 11 2026. No macro, syntax, notation, axiom, sorry.
-/
import Derived.Test.YtgogfloppnhceaaChecked
import GoSem.Claim
import GoSem.ClaimJoined
import GoSem.ClaimMapViews
import Derived.JoinedTies
import Derived.KernelRfl
namespace Go.Proofs.Ytgogfloppnhceaa
/- THE CELL 'sum', in the pinned program and in every row, IS THE sha256 OF THE DUMP (.gsa) THAT YtgogfloppnhceaaProg.lean LOADS. Nothing in Lean hashes anything: it is a label: what it is worth is what the hold of that sum in a sandbox is worth. -/
noncomputable def Try.pinned : Pinned := { name := "ytgogfloppnhceaa", sum := "9655d8aa0669d95de73d4ab1d016d150239e43757287d0490b63525ebf66ba03", checked := Try.checked }
namespace Rows
def none {H : Type} : Left H := { results := [], args := [] }

/-- 'laws.FnExactConstants': WHATEVER THE INPUT: true; the input reads as it did. -/
def fnExactConstantsSpec : ChangeSpec := { name := "fnExactConstants", fn := fun _ => fun
  | [] => { results := [.lit (.bool true)], args := [] }
  | _ => none }
def fnExactConstantsRow : OpenClaim := { program := "ytgogfloppnhceaa", sum := "9655d8aa0669d95de73d4ab1d016d150239e43757287d0490b63525ebf66ba03", func := "loop.example/g00017/laws.FnExactConstants", spec := "fnExactConstants", apart := false }
def FnExactConstantsSaid : Prop := fnExactConstantsRow.holds Try.pinned (OpenSpec.ofChange fnExactConstantsSpec)

/-- ITS FALSE NEIGHBOUR: 'it returns false'. Refute it at one input. -/
def fnExactConstantsWrong : ChangeSpec := { name := "fnExactConstants", fn := fun _ => fun
  | [] => { results := [.lit (.bool false)], args := [] }
  | _ => none }
def FnExactConstantsWrongFalsely : Prop := fnExactConstantsRow.holds Try.pinned (OpenSpec.ofChange fnExactConstantsWrong)

/-- 'laws.FnExactPrimCount': WHATEVER THE INPUT: true; the input reads as it did. -/
def fnExactPrimCountSpec : ChangeSpec := { name := "fnExactPrimCount", fn := fun _ => fun
  | [d] => { results := [.lit (.bool true)], args := [d] }
  | _ => none }
def fnExactPrimCountRow : OpenClaim := { program := "ytgogfloppnhceaa", sum := "9655d8aa0669d95de73d4ab1d016d150239e43757287d0490b63525ebf66ba03", func := "loop.example/g00017/laws.FnExactPrimCount", spec := "fnExactPrimCount", apart := false }
def FnExactPrimCountSaid : Prop := fnExactPrimCountRow.holds Try.pinned (OpenSpec.ofChange fnExactPrimCountSpec)

/-- ITS FALSE NEIGHBOUR: 'it returns false'. Refute it at one input. -/
def fnExactPrimCountWrong : ChangeSpec := { name := "fnExactPrimCount", fn := fun _ => fun
  | [d] => { results := [.lit (.bool false)], args := [d] }
  | _ => none }
def FnExactPrimCountWrongFalsely : Prop := fnExactPrimCountRow.holds Try.pinned (OpenSpec.ofChange fnExactPrimCountWrong)

/-- 'laws.FnExactStands': WHATEVER THE INPUT: true; the input reads as it did. -/
def fnExactStandsSpec : ChangeSpec := { name := "fnExactStands", fn := fun _ => fun
  | [d1, d2] => { results := [.lit (.bool true)], args := [d1, d2] }
  | _ => none }
def fnExactStandsRow : OpenClaim := { program := "ytgogfloppnhceaa", sum := "9655d8aa0669d95de73d4ab1d016d150239e43757287d0490b63525ebf66ba03", func := "loop.example/g00017/laws.FnExactStands", spec := "fnExactStands", apart := false }
def FnExactStandsSaid : Prop := fnExactStandsRow.holds Try.pinned (OpenSpec.ofChange fnExactStandsSpec)

/-- ITS FALSE NEIGHBOUR: 'it returns false'. Refute it at one input. -/
def fnExactStandsWrong : ChangeSpec := { name := "fnExactStands", fn := fun _ => fun
  | [d1, d2] => { results := [.lit (.bool false)], args := [d1, d2] }
  | _ => none }
def FnExactStandsWrongFalsely : Prop := fnExactStandsRow.holds Try.pinned (OpenSpec.ofChange fnExactStandsWrong)

/-- 'laws.FnExactBigFault': WHATEVER THE INPUT: true; the input reads as it did. -/
def fnExactBigFaultSpec : ChangeSpec := { name := "fnExactBigFault", fn := fun _ => fun
  | [d] => { results := [.lit (.bool true)], args := [d] }
  | _ => none }
def fnExactBigFaultRow : OpenClaim := { program := "ytgogfloppnhceaa", sum := "9655d8aa0669d95de73d4ab1d016d150239e43757287d0490b63525ebf66ba03", func := "loop.example/g00017/laws.FnExactBigFault", spec := "fnExactBigFault", apart := false }
def FnExactBigFaultSaid : Prop := fnExactBigFaultRow.holds Try.pinned (OpenSpec.ofChange fnExactBigFaultSpec)

/-- ITS FALSE NEIGHBOUR: 'it returns false'. Refute it at one input. -/
def fnExactBigFaultWrong : ChangeSpec := { name := "fnExactBigFault", fn := fun _ => fun
  | [d] => { results := [.lit (.bool false)], args := [d] }
  | _ => none }
def FnExactBigFaultWrongFalsely : Prop := fnExactBigFaultRow.holds Try.pinned (OpenSpec.ofChange fnExactBigFaultWrong)

/-- 'laws.FnExactFresh': WHATEVER THE INPUT: true; the input reads as it did. -/
def fnExactFreshSpec : ChangeSpec := { name := "fnExactFresh", fn := fun _ => fun
  | [d1, d2] => { results := [.lit (.bool true)], args := [d1, d2] }
  | _ => none }
def fnExactFreshRow : OpenClaim := { program := "ytgogfloppnhceaa", sum := "9655d8aa0669d95de73d4ab1d016d150239e43757287d0490b63525ebf66ba03", func := "loop.example/g00017/laws.FnExactFresh", spec := "fnExactFresh", apart := false }
def FnExactFreshSaid : Prop := fnExactFreshRow.holds Try.pinned (OpenSpec.ofChange fnExactFreshSpec)

/-- ITS FALSE NEIGHBOUR: 'it returns false'. Refute it at one input. -/
def fnExactFreshWrong : ChangeSpec := { name := "fnExactFresh", fn := fun _ => fun
  | [d1, d2] => { results := [.lit (.bool false)], args := [d1, d2] }
  | _ => none }
def FnExactFreshWrongFalsely : Prop := fnExactFreshRow.holds Try.pinned (OpenSpec.ofChange fnExactFreshWrong)

/-- 'laws.FnStands': WHATEVER THE INPUT: true; the input reads as it did. -/
def fnStandsSpec : ChangeSpec := { name := "fnStands", fn := fun _ => fun
  | [d1, d2] => { results := [.lit (.bool true)], args := [d1, d2] }
  | _ => none }
def fnStandsRow : OpenClaim := { program := "ytgogfloppnhceaa", sum := "9655d8aa0669d95de73d4ab1d016d150239e43757287d0490b63525ebf66ba03", func := "loop.example/g00017/laws.FnStands", spec := "fnStands", apart := false }
def FnStandsSaid : Prop := fnStandsRow.holds Try.pinned (OpenSpec.ofChange fnStandsSpec)

/-- ITS FALSE NEIGHBOUR: 'it returns false'. Refute it at one input. -/
def fnStandsWrong : ChangeSpec := { name := "fnStands", fn := fun _ => fun
  | [d1, d2] => { results := [.lit (.bool false)], args := [d1, d2] }
  | _ => none }
def FnStandsWrongFalsely : Prop := fnStandsRow.holds Try.pinned (OpenSpec.ofChange fnStandsWrong)

/-- 'laws.FnExactFixityOf': WHATEVER THE INPUT: true; the input reads as it did. -/
def fnExactFixityOfSpec : ChangeSpec := { name := "fnExactFixityOf", fn := fun _ => fun
  | [d1, d2] => { results := [.lit (.bool true)], args := [d1, d2] }
  | _ => none }
def fnExactFixityOfRow : OpenClaim := { program := "ytgogfloppnhceaa", sum := "9655d8aa0669d95de73d4ab1d016d150239e43757287d0490b63525ebf66ba03", func := "loop.example/g00017/laws.FnExactFixityOf", spec := "fnExactFixityOf", apart := false }
def FnExactFixityOfSaid : Prop := fnExactFixityOfRow.holds Try.pinned (OpenSpec.ofChange fnExactFixityOfSpec)

/-- ITS FALSE NEIGHBOUR: 'it returns false'. Refute it at one input. -/
def fnExactFixityOfWrong : ChangeSpec := { name := "fnExactFixityOf", fn := fun _ => fun
  | [d1, d2] => { results := [.lit (.bool false)], args := [d1, d2] }
  | _ => none }
def FnExactFixityOfWrongFalsely : Prop := fnExactFixityOfRow.holds Try.pinned (OpenSpec.ofChange fnExactFixityOfWrong)

/-- 'laws.FnExactSameNode': WHATEVER THE INPUT: true; the input reads as it did. -/
def fnExactSameNodeSpec : ChangeSpec := { name := "fnExactSameNode", fn := fun _ => fun
  | [d1, d2] => { results := [.lit (.bool true)], args := [d1, d2] }
  | _ => none }
def fnExactSameNodeRow : OpenClaim := { program := "ytgogfloppnhceaa", sum := "9655d8aa0669d95de73d4ab1d016d150239e43757287d0490b63525ebf66ba03", func := "loop.example/g00017/laws.FnExactSameNode", spec := "fnExactSameNode", recurses := true, loops := true, apart := false }
def FnExactSameNodeSaid : Prop := fnExactSameNodeRow.holds Try.pinned (OpenSpec.ofChange fnExactSameNodeSpec)

/-- ITS FALSE NEIGHBOUR: 'it returns false'. Refute it at one input. -/
def fnExactSameNodeWrong : ChangeSpec := { name := "fnExactSameNode", fn := fun _ => fun
  | [d1, d2] => { results := [.lit (.bool false)], args := [d1, d2] }
  | _ => none }
def FnExactSameNodeWrongFalsely : Prop := fnExactSameNodeRow.holds Try.pinned (OpenSpec.ofChange fnExactSameNodeWrong)

/-- 'laws.FnExactSameType': WHATEVER THE INPUT: true; the input reads as it did. -/
def fnExactSameTypeSpec : ChangeSpec := { name := "fnExactSameType", fn := fun _ => fun
  | [d1, d2] => { results := [.lit (.bool true)], args := [d1, d2] }
  | _ => none }
def fnExactSameTypeRow : OpenClaim := { program := "ytgogfloppnhceaa", sum := "9655d8aa0669d95de73d4ab1d016d150239e43757287d0490b63525ebf66ba03", func := "loop.example/g00017/laws.FnExactSameType", spec := "fnExactSameType", recurses := true, loops := true, apart := false }
def FnExactSameTypeSaid : Prop := fnExactSameTypeRow.holds Try.pinned (OpenSpec.ofChange fnExactSameTypeSpec)

/-- ITS FALSE NEIGHBOUR: 'it returns false'. Refute it at one input. -/
def fnExactSameTypeWrong : ChangeSpec := { name := "fnExactSameType", fn := fun _ => fun
  | [d1, d2] => { results := [.lit (.bool false)], args := [d1, d2] }
  | _ => none }
def FnExactSameTypeWrongFalsely : Prop := fnExactSameTypeRow.holds Try.pinned (OpenSpec.ofChange fnExactSameTypeWrong)

/-- 'laws.FnExactNodeCount': WHATEVER THE INPUT: true; the input reads as it did. -/
def fnExactNodeCountSpec : ChangeSpec := { name := "fnExactNodeCount", fn := fun _ => fun
  | [d] => { results := [.lit (.bool true)], args := [d] }
  | _ => none }
def fnExactNodeCountRow : OpenClaim := { program := "ytgogfloppnhceaa", sum := "9655d8aa0669d95de73d4ab1d016d150239e43757287d0490b63525ebf66ba03", func := "loop.example/g00017/laws.FnExactNodeCount", spec := "fnExactNodeCount", unfollowed := true, recurses := true, loops := true, apart := false }
def FnExactNodeCountSaid : Prop := fnExactNodeCountRow.holds Try.pinned (OpenSpec.ofChange fnExactNodeCountSpec)

/-- ITS FALSE NEIGHBOUR: 'it returns false'. Refute it at one input. -/
def fnExactNodeCountWrong : ChangeSpec := { name := "fnExactNodeCount", fn := fun _ => fun
  | [d] => { results := [.lit (.bool false)], args := [d] }
  | _ => none }
def FnExactNodeCountWrongFalsely : Prop := fnExactNodeCountRow.holds Try.pinned (OpenSpec.ofChange fnExactNodeCountWrong)

/-- 'laws.FnExactTypeFault': WHATEVER THE INPUT: true; the input reads as it did. -/
def fnExactTypeFaultSpec : ChangeSpec := { name := "fnExactTypeFault", fn := fun _ => fun
  | [d] => { results := [.lit (.bool true)], args := [d] }
  | _ => none }
def fnExactTypeFaultRow : OpenClaim := { program := "ytgogfloppnhceaa", sum := "9655d8aa0669d95de73d4ab1d016d150239e43757287d0490b63525ebf66ba03", func := "loop.example/g00017/laws.FnExactTypeFault", spec := "fnExactTypeFault", recurses := true, loops := true, apart := false }
def FnExactTypeFaultSaid : Prop := fnExactTypeFaultRow.holds Try.pinned (OpenSpec.ofChange fnExactTypeFaultSpec)

/-- ITS FALSE NEIGHBOUR: 'it returns false'. Refute it at one input. -/
def fnExactTypeFaultWrong : ChangeSpec := { name := "fnExactTypeFault", fn := fun _ => fun
  | [d] => { results := [.lit (.bool false)], args := [d] }
  | _ => none }
def FnExactTypeFaultWrongFalsely : Prop := fnExactTypeFaultRow.holds Try.pinned (OpenSpec.ofChange fnExactTypeFaultWrong)

/- THE SECOND FORM. 'bulk': how many values and letters a reading holds, each counted each time it is reached (what is shared counts as often as it is met; a slice's spare places count too). A statement '..UptoSaid' is the law's where the arguments, and the package variables that the reading takes, are together of bulk at most 1048576: NARROWER than '..Said'. Prove '..Said' where nothing that the law and all that it calls make is longer than what came in: it says more and counts as full. Else prove '..UptoSaid'. A law counts once. -/
mutual
def uptoBulk {H : Type} : DataW H → Nat
  | .lit (.string bytes) => bytes.length + 1
  | .lit _ => 1
  | .nil => 1
  | .ptr d => uptoBulk d + 1
  | .slice elems spare => uptoBulkAll elems + uptoBulkAll spare + 1
  | .agg parts => uptoBulkAll parts + 1
  | .iface _ d => uptoBulk d + 1
  | .map entries => uptoBulkEntries entries + 1
  | .held _ => 1
def uptoBulkAll {H : Type} : List (DataW H) → Nat
  | [] => 0
  | d :: r => uptoBulk d + uptoBulkAll r
def uptoBulkEntries {H : Type} : List (Lit × DataW H) → Nat
  | [] => 0
  | x :: r => uptoBulkEntry x + uptoBulkEntries r
def uptoBulkEntry {H : Type} : Lit × DataW H → Nat
  | (.string bytes, d) => bytes.length + uptoBulk d + 1
  | (_, d) => uptoBulk d + 1
 end
def uptoSmall : (H : Type) → List (DataW H) → Bool := fun _ ds => decide (uptoBulkAll ds ≤ 1048576)
def OpenSpec.upto (s : _root_.Go.ChangeSpec) : _root_.Go.OpenSpec := { _root_.Go.OpenSpec.ofChange s with cond := some uptoSmall }

/-- 'laws.FnExactConstants', WHERE WHAT IT READS IS OF BULK AT MOST 1048576: true; the input reads as it did. -/
def fnExactConstantsUptoRow : OpenClaim := { program := "ytgogfloppnhceaa", sum := "9655d8aa0669d95de73d4ab1d016d150239e43757287d0490b63525ebf66ba03", func := "loop.example/g00017/laws.FnExactConstants", spec := "fnExactConstants", apart := false, narrowed := true }
def FnExactConstantsUptoSaid : Prop := fnExactConstantsUptoRow.holds Try.pinned (OpenSpec.upto fnExactConstantsSpec)

/-- 'laws.FnExactPrimCount', WHERE WHAT IT READS IS OF BULK AT MOST 1048576: true; the input reads as it did. -/
def fnExactPrimCountUptoRow : OpenClaim := { program := "ytgogfloppnhceaa", sum := "9655d8aa0669d95de73d4ab1d016d150239e43757287d0490b63525ebf66ba03", func := "loop.example/g00017/laws.FnExactPrimCount", spec := "fnExactPrimCount", apart := false, narrowed := true }
def FnExactPrimCountUptoSaid : Prop := fnExactPrimCountUptoRow.holds Try.pinned (OpenSpec.upto fnExactPrimCountSpec)

/-- 'laws.FnExactStands', WHERE WHAT IT READS IS OF BULK AT MOST 1048576: true; the input reads as it did. -/
def fnExactStandsUptoRow : OpenClaim := { program := "ytgogfloppnhceaa", sum := "9655d8aa0669d95de73d4ab1d016d150239e43757287d0490b63525ebf66ba03", func := "loop.example/g00017/laws.FnExactStands", spec := "fnExactStands", apart := false, narrowed := true }
def FnExactStandsUptoSaid : Prop := fnExactStandsUptoRow.holds Try.pinned (OpenSpec.upto fnExactStandsSpec)

/-- 'laws.FnExactBigFault', WHERE WHAT IT READS IS OF BULK AT MOST 1048576: true; the input reads as it did. -/
def fnExactBigFaultUptoRow : OpenClaim := { program := "ytgogfloppnhceaa", sum := "9655d8aa0669d95de73d4ab1d016d150239e43757287d0490b63525ebf66ba03", func := "loop.example/g00017/laws.FnExactBigFault", spec := "fnExactBigFault", apart := false, narrowed := true }
def FnExactBigFaultUptoSaid : Prop := fnExactBigFaultUptoRow.holds Try.pinned (OpenSpec.upto fnExactBigFaultSpec)

/-- 'laws.FnExactFresh', WHERE WHAT IT READS IS OF BULK AT MOST 1048576: true; the input reads as it did. -/
def fnExactFreshUptoRow : OpenClaim := { program := "ytgogfloppnhceaa", sum := "9655d8aa0669d95de73d4ab1d016d150239e43757287d0490b63525ebf66ba03", func := "loop.example/g00017/laws.FnExactFresh", spec := "fnExactFresh", apart := false, narrowed := true }
def FnExactFreshUptoSaid : Prop := fnExactFreshUptoRow.holds Try.pinned (OpenSpec.upto fnExactFreshSpec)

/-- 'laws.FnStands', WHERE WHAT IT READS IS OF BULK AT MOST 1048576: true; the input reads as it did. -/
def fnStandsUptoRow : OpenClaim := { program := "ytgogfloppnhceaa", sum := "9655d8aa0669d95de73d4ab1d016d150239e43757287d0490b63525ebf66ba03", func := "loop.example/g00017/laws.FnStands", spec := "fnStands", apart := false, narrowed := true }
def FnStandsUptoSaid : Prop := fnStandsUptoRow.holds Try.pinned (OpenSpec.upto fnStandsSpec)

/-- 'laws.FnExactFixityOf', WHERE WHAT IT READS IS OF BULK AT MOST 1048576: true; the input reads as it did. -/
def fnExactFixityOfUptoRow : OpenClaim := { program := "ytgogfloppnhceaa", sum := "9655d8aa0669d95de73d4ab1d016d150239e43757287d0490b63525ebf66ba03", func := "loop.example/g00017/laws.FnExactFixityOf", spec := "fnExactFixityOf", apart := false, narrowed := true }
def FnExactFixityOfUptoSaid : Prop := fnExactFixityOfUptoRow.holds Try.pinned (OpenSpec.upto fnExactFixityOfSpec)

/-- 'laws.FnExactSameNode', WHERE WHAT IT READS IS OF BULK AT MOST 1048576: true; the input reads as it did. -/
def fnExactSameNodeUptoRow : OpenClaim := { program := "ytgogfloppnhceaa", sum := "9655d8aa0669d95de73d4ab1d016d150239e43757287d0490b63525ebf66ba03", func := "loop.example/g00017/laws.FnExactSameNode", spec := "fnExactSameNode", recurses := true, loops := true, apart := false, narrowed := true }
def FnExactSameNodeUptoSaid : Prop := fnExactSameNodeUptoRow.holds Try.pinned (OpenSpec.upto fnExactSameNodeSpec)

/-- 'laws.FnExactSameType', WHERE WHAT IT READS IS OF BULK AT MOST 1048576: true; the input reads as it did. -/
def fnExactSameTypeUptoRow : OpenClaim := { program := "ytgogfloppnhceaa", sum := "9655d8aa0669d95de73d4ab1d016d150239e43757287d0490b63525ebf66ba03", func := "loop.example/g00017/laws.FnExactSameType", spec := "fnExactSameType", recurses := true, loops := true, apart := false, narrowed := true }
def FnExactSameTypeUptoSaid : Prop := fnExactSameTypeUptoRow.holds Try.pinned (OpenSpec.upto fnExactSameTypeSpec)

/-- 'laws.FnExactNodeCount', WHERE WHAT IT READS IS OF BULK AT MOST 1048576: true; the input reads as it did. -/
def fnExactNodeCountUptoRow : OpenClaim := { program := "ytgogfloppnhceaa", sum := "9655d8aa0669d95de73d4ab1d016d150239e43757287d0490b63525ebf66ba03", func := "loop.example/g00017/laws.FnExactNodeCount", spec := "fnExactNodeCount", unfollowed := true, recurses := true, loops := true, apart := false, narrowed := true }
def FnExactNodeCountUptoSaid : Prop := fnExactNodeCountUptoRow.holds Try.pinned (OpenSpec.upto fnExactNodeCountSpec)

/-- 'laws.FnExactTypeFault', WHERE WHAT IT READS IS OF BULK AT MOST 1048576: true; the input reads as it did. -/
def fnExactTypeFaultUptoRow : OpenClaim := { program := "ytgogfloppnhceaa", sum := "9655d8aa0669d95de73d4ab1d016d150239e43757287d0490b63525ebf66ba03", func := "loop.example/g00017/laws.FnExactTypeFault", spec := "fnExactTypeFault", recurses := true, loops := true, apart := false, narrowed := true }
def FnExactTypeFaultUptoSaid : Prop := fnExactTypeFaultUptoRow.holds Try.pinned (OpenSpec.upto fnExactTypeFaultSpec)

end Rows
end Go.Proofs.Ytgogfloppnhceaa
