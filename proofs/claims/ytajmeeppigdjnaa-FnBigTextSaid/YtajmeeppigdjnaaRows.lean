/-
  No cell of these rows narrows 'for every input' (looked for: loops, veiled, ifaces, maps, wideKeys, modest, calm, conditions, laid).
  DERIVED. THE GIVEN ROWS OF THIS SEAT. 12 by the template 'for every input the law returns true; each argument reads behind the call as it read before'; 0 by the template 'total and deterministic' (their statements: YtajmeeppigdjnaaTotals.lean).
  GIVEN WITH THE SEED: the statements are not yours to turn. If you find one false, say at which input.
  Laid BY PROGRAM, IN A SANDBOX (cutbox-rows.mjs): the forced cells as the released guide's own fill.sh prints them over the translation 0e4d34ca4f768a1b… (all of the seat's roots in one cut). By AI agents, Wed Nov 11 2026. No macro, syntax, notation, axiom, sorry.
-/
import Derived.Test.YtajmeeppigdjnaaChecked
import GoSem.Claim
import GoSem.ClaimJoined
import GoSem.ClaimMapViews
import Derived.JoinedTies
import Derived.KernelRfl
namespace Go.Proofs.Ytajmeeppigdjnaa
/- THE CELL 'sum', in the pinned program and in every row, IS THE sha256 OF THE DUMP (.gsa) THAT YtajmeeppigdjnaaProg.lean LOADS. Nothing in Lean hashes anything: it is a label: what it is worth is what the hold of that sum in a sandbox is worth. -/
noncomputable def Try.pinned : Pinned := { name := "ytajmeeppigdjnaa", sum := "0e4d34ca4f768a1b662966a3a7ab4b7f3e4db2130e88924925a7a675654e29c2", checked := Try.checked }
namespace Rows
def none {H : Type} : Left H := { results := [], args := [] }

/-- 'laws.FnExactBigOf': WHATEVER THE INPUT: true; the input reads as it did. -/
def fnExactBigOfSpec : ChangeSpec := { name := "fnExactBigOf", fn := fun _ => fun
  | [d] => { results := [.lit (.bool true)], args := [d] }
  | _ => none }
def fnExactBigOfRow : OpenClaim := { program := "ytajmeeppigdjnaa", sum := "0e4d34ca4f768a1b662966a3a7ab4b7f3e4db2130e88924925a7a675654e29c2", func := "loop.example/g00017/laws.FnExactBigOf", spec := "fnExactBigOf", apart := false }
def FnExactBigOfSaid : Prop := fnExactBigOfRow.holds Try.pinned (OpenSpec.ofChange fnExactBigOfSpec)

/-- ITS FALSE NEIGHBOUR: 'it returns false'. Refute it at one input. -/
def fnExactBigOfWrong : ChangeSpec := { name := "fnExactBigOf", fn := fun _ => fun
  | [d] => { results := [.lit (.bool false)], args := [d] }
  | _ => none }
def FnExactBigOfWrongFalsely : Prop := fnExactBigOfRow.holds Try.pinned (OpenSpec.ofChange fnExactBigOfWrong)

/-- 'laws.FnExactBigSmall': WHATEVER THE INPUT: true; the input reads as it did. -/
def fnExactBigSmallSpec : ChangeSpec := { name := "fnExactBigSmall", fn := fun _ => fun
  | [d] => { results := [.lit (.bool true)], args := [d] }
  | _ => none }
def fnExactBigSmallRow : OpenClaim := { program := "ytajmeeppigdjnaa", sum := "0e4d34ca4f768a1b662966a3a7ab4b7f3e4db2130e88924925a7a675654e29c2", func := "loop.example/g00017/laws.FnExactBigSmall", spec := "fnExactBigSmall", apart := false }
def FnExactBigSmallSaid : Prop := fnExactBigSmallRow.holds Try.pinned (OpenSpec.ofChange fnExactBigSmallSpec)

/-- ITS FALSE NEIGHBOUR: 'it returns false'. Refute it at one input. -/
def fnExactBigSmallWrong : ChangeSpec := { name := "fnExactBigSmall", fn := fun _ => fun
  | [d] => { results := [.lit (.bool false)], args := [d] }
  | _ => none }
def FnExactBigSmallWrongFalsely : Prop := fnExactBigSmallRow.holds Try.pinned (OpenSpec.ofChange fnExactBigSmallWrong)

/-- 'laws.FnExactBigCompare': WHATEVER THE INPUT: true; the input reads as it did. -/
def fnExactBigCompareSpec : ChangeSpec := { name := "fnExactBigCompare", fn := fun _ => fun
  | [d1, d2] => { results := [.lit (.bool true)], args := [d1, d2] }
  | _ => none }
def fnExactBigCompareRow : OpenClaim := { program := "ytajmeeppigdjnaa", sum := "0e4d34ca4f768a1b662966a3a7ab4b7f3e4db2130e88924925a7a675654e29c2", func := "loop.example/g00017/laws.FnExactBigCompare", spec := "fnExactBigCompare", apart := false }
def FnExactBigCompareSaid : Prop := fnExactBigCompareRow.holds Try.pinned (OpenSpec.ofChange fnExactBigCompareSpec)

/-- ITS FALSE NEIGHBOUR: 'it returns false'. Refute it at one input. -/
def fnExactBigCompareWrong : ChangeSpec := { name := "fnExactBigCompare", fn := fun _ => fun
  | [d1, d2] => { results := [.lit (.bool false)], args := [d1, d2] }
  | _ => none }
def FnExactBigCompareWrongFalsely : Prop := fnExactBigCompareRow.holds Try.pinned (OpenSpec.ofChange fnExactBigCompareWrong)

/-- 'laws.FnExactBigText': WHATEVER THE INPUT: true; the input reads as it did. -/
def fnExactBigTextSpec : ChangeSpec := { name := "fnExactBigText", fn := fun _ => fun
  | [d] => { results := [.lit (.bool true)], args := [d] }
  | _ => none }
def fnExactBigTextRow : OpenClaim := { program := "ytajmeeppigdjnaa", sum := "0e4d34ca4f768a1b662966a3a7ab4b7f3e4db2130e88924925a7a675654e29c2", func := "loop.example/g00017/laws.FnExactBigText", spec := "fnExactBigText", inPlace := ["internal/abi.NoEscape"], apart := false }
def FnExactBigTextSaid : Prop := fnExactBigTextRow.holds Try.pinned (OpenSpec.ofChange fnExactBigTextSpec)

/-- ITS FALSE NEIGHBOUR: 'it returns false'. Refute it at one input. -/
def fnExactBigTextWrong : ChangeSpec := { name := "fnExactBigText", fn := fun _ => fun
  | [d] => { results := [.lit (.bool false)], args := [d] }
  | _ => none }
def FnExactBigTextWrongFalsely : Prop := fnExactBigTextRow.holds Try.pinned (OpenSpec.ofChange fnExactBigTextWrong)

/-- 'laws.FnExactBigMul': WHATEVER THE INPUT: true; the input reads as it did. -/
def fnExactBigMulSpec : ChangeSpec := { name := "fnExactBigMul", fn := fun _ => fun
  | [d1, d2] => { results := [.lit (.bool true)], args := [d1, d2] }
  | _ => none }
def fnExactBigMulRow : OpenClaim := { program := "ytajmeeppigdjnaa", sum := "0e4d34ca4f768a1b662966a3a7ab4b7f3e4db2130e88924925a7a675654e29c2", func := "loop.example/g00017/laws.FnExactBigMul", spec := "fnExactBigMul", apart := false }
def FnExactBigMulSaid : Prop := fnExactBigMulRow.holds Try.pinned (OpenSpec.ofChange fnExactBigMulSpec)

/-- ITS FALSE NEIGHBOUR: 'it returns false'. Refute it at one input. -/
def fnExactBigMulWrong : ChangeSpec := { name := "fnExactBigMul", fn := fun _ => fun
  | [d1, d2] => { results := [.lit (.bool false)], args := [d1, d2] }
  | _ => none }
def FnExactBigMulWrongFalsely : Prop := fnExactBigMulRow.holds Try.pinned (OpenSpec.ofChange fnExactBigMulWrong)

/-- 'laws.FnExactBigRead': WHATEVER THE INPUT: true; the input reads as it did. -/
def fnExactBigReadSpec : ChangeSpec := { name := "fnExactBigRead", fn := fun _ => fun
  | [d] => { results := [.lit (.bool true)], args := [d] }
  | _ => none }
def fnExactBigReadRow : OpenClaim := { program := "ytajmeeppigdjnaa", sum := "0e4d34ca4f768a1b662966a3a7ab4b7f3e4db2130e88924925a7a675654e29c2", func := "loop.example/g00017/laws.FnExactBigRead", spec := "fnExactBigRead", apart := false }
def FnExactBigReadSaid : Prop := fnExactBigReadRow.holds Try.pinned (OpenSpec.ofChange fnExactBigReadSpec)

/-- ITS FALSE NEIGHBOUR: 'it returns false'. Refute it at one input. -/
def fnExactBigReadWrong : ChangeSpec := { name := "fnExactBigRead", fn := fun _ => fun
  | [d] => { results := [.lit (.bool false)], args := [d] }
  | _ => none }
def FnExactBigReadWrongFalsely : Prop := fnExactBigReadRow.holds Try.pinned (OpenSpec.ofChange fnExactBigReadWrong)

/-- 'laws.FnExactBigAdd': WHATEVER THE INPUT: true; the input reads as it did. -/
def fnExactBigAddSpec : ChangeSpec := { name := "fnExactBigAdd", fn := fun _ => fun
  | [d1, d2] => { results := [.lit (.bool true)], args := [d1, d2] }
  | _ => none }
def fnExactBigAddRow : OpenClaim := { program := "ytajmeeppigdjnaa", sum := "0e4d34ca4f768a1b662966a3a7ab4b7f3e4db2130e88924925a7a675654e29c2", func := "loop.example/g00017/laws.FnExactBigAdd", spec := "fnExactBigAdd", apart := false }
def FnExactBigAddSaid : Prop := fnExactBigAddRow.holds Try.pinned (OpenSpec.ofChange fnExactBigAddSpec)

/-- ITS FALSE NEIGHBOUR: 'it returns false'. Refute it at one input. -/
def fnExactBigAddWrong : ChangeSpec := { name := "fnExactBigAdd", fn := fun _ => fun
  | [d1, d2] => { results := [.lit (.bool false)], args := [d1, d2] }
  | _ => none }
def FnExactBigAddWrongFalsely : Prop := fnExactBigAddRow.holds Try.pinned (OpenSpec.ofChange fnExactBigAddWrong)

/-- 'laws.FnExactBigSub': WHATEVER THE INPUT: true; the input reads as it did. -/
def fnExactBigSubSpec : ChangeSpec := { name := "fnExactBigSub", fn := fun _ => fun
  | [d1, d2] => { results := [.lit (.bool true)], args := [d1, d2] }
  | _ => none }
def fnExactBigSubRow : OpenClaim := { program := "ytajmeeppigdjnaa", sum := "0e4d34ca4f768a1b662966a3a7ab4b7f3e4db2130e88924925a7a675654e29c2", func := "loop.example/g00017/laws.FnExactBigSub", spec := "fnExactBigSub", apart := false }
def FnExactBigSubSaid : Prop := fnExactBigSubRow.holds Try.pinned (OpenSpec.ofChange fnExactBigSubSpec)

/-- ITS FALSE NEIGHBOUR: 'it returns false'. Refute it at one input. -/
def fnExactBigSubWrong : ChangeSpec := { name := "fnExactBigSub", fn := fun _ => fun
  | [d1, d2] => { results := [.lit (.bool false)], args := [d1, d2] }
  | _ => none }
def FnExactBigSubWrongFalsely : Prop := fnExactBigSubRow.holds Try.pinned (OpenSpec.ofChange fnExactBigSubWrong)

/-- 'laws.FnExactBigDivMod': WHATEVER THE INPUT: true; the input reads as it did. -/
def fnExactBigDivModSpec : ChangeSpec := { name := "fnExactBigDivMod", fn := fun _ => fun
  | [d1, d2] => { results := [.lit (.bool true)], args := [d1, d2] }
  | _ => none }
def fnExactBigDivModRow : OpenClaim := { program := "ytajmeeppigdjnaa", sum := "0e4d34ca4f768a1b662966a3a7ab4b7f3e4db2130e88924925a7a675654e29c2", func := "loop.example/g00017/laws.FnExactBigDivMod", spec := "fnExactBigDivMod", apart := false }
def FnExactBigDivModSaid : Prop := fnExactBigDivModRow.holds Try.pinned (OpenSpec.ofChange fnExactBigDivModSpec)

/-- ITS FALSE NEIGHBOUR: 'it returns false'. Refute it at one input. -/
def fnExactBigDivModWrong : ChangeSpec := { name := "fnExactBigDivMod", fn := fun _ => fun
  | [d1, d2] => { results := [.lit (.bool false)], args := [d1, d2] }
  | _ => none }
def FnExactBigDivModWrongFalsely : Prop := fnExactBigDivModRow.holds Try.pinned (OpenSpec.ofChange fnExactBigDivModWrong)

/-- 'laws.FnRing': WHATEVER THE INPUT: true; the input reads as it did. -/
def fnRingSpec : ChangeSpec := { name := "fnRing", fn := fun _ => fun
  | [d] => { results := [.lit (.bool true)], args := [d] }
  | _ => none }
def fnRingRow : OpenClaim := { program := "ytajmeeppigdjnaa", sum := "0e4d34ca4f768a1b662966a3a7ab4b7f3e4db2130e88924925a7a675654e29c2", func := "loop.example/g00017/laws.FnRing", spec := "fnRing", apart := false }
def FnRingSaid : Prop := fnRingRow.holds Try.pinned (OpenSpec.ofChange fnRingSpec)

/-- ITS FALSE NEIGHBOUR: 'it returns false'. Refute it at one input. -/
def fnRingWrong : ChangeSpec := { name := "fnRing", fn := fun _ => fun
  | [d] => { results := [.lit (.bool false)], args := [d] }
  | _ => none }
def FnRingWrongFalsely : Prop := fnRingRow.holds Try.pinned (OpenSpec.ofChange fnRingWrong)

/-- 'laws.FnDivide': WHATEVER THE INPUT: true; the input reads as it did. -/
def fnDivideSpec : ChangeSpec := { name := "fnDivide", fn := fun _ => fun
  | [d] => { results := [.lit (.bool true)], args := [d] }
  | _ => none }
def fnDivideRow : OpenClaim := { program := "ytajmeeppigdjnaa", sum := "0e4d34ca4f768a1b662966a3a7ab4b7f3e4db2130e88924925a7a675654e29c2", func := "loop.example/g00017/laws.FnDivide", spec := "fnDivide", apart := false }
def FnDivideSaid : Prop := fnDivideRow.holds Try.pinned (OpenSpec.ofChange fnDivideSpec)

/-- ITS FALSE NEIGHBOUR: 'it returns false'. Refute it at one input. -/
def fnDivideWrong : ChangeSpec := { name := "fnDivide", fn := fun _ => fun
  | [d] => { results := [.lit (.bool false)], args := [d] }
  | _ => none }
def FnDivideWrongFalsely : Prop := fnDivideRow.holds Try.pinned (OpenSpec.ofChange fnDivideWrong)

/-- 'laws.FnBigText': WHATEVER THE INPUT: true; the input reads as it did. -/
def fnBigTextSpec : ChangeSpec := { name := "fnBigText", fn := fun _ => fun
  | [d] => { results := [.lit (.bool true)], args := [d] }
  | _ => none }
def fnBigTextRow : OpenClaim := { program := "ytajmeeppigdjnaa", sum := "0e4d34ca4f768a1b662966a3a7ab4b7f3e4db2130e88924925a7a675654e29c2", func := "loop.example/g00017/laws.FnBigText", spec := "fnBigText", inPlace := ["internal/abi.NoEscape"], apart := false }
def FnBigTextSaid : Prop := fnBigTextRow.holds Try.pinned (OpenSpec.ofChange fnBigTextSpec)

/-- ITS FALSE NEIGHBOUR: 'it returns false'. Refute it at one input. -/
def fnBigTextWrong : ChangeSpec := { name := "fnBigText", fn := fun _ => fun
  | [d] => { results := [.lit (.bool false)], args := [d] }
  | _ => none }
def FnBigTextWrongFalsely : Prop := fnBigTextRow.holds Try.pinned (OpenSpec.ofChange fnBigTextWrong)

/- THE SECOND FORM. 'bulk': how many values and letters a reading holds, each counted each time it is reached (what is shared counts as often as it is met; a slice's spare places count too). A statement '..UptoSaid' is the law's where the arguments, and the package variables that the reading takes, are together of bulk at most 1048576: NARROWER than '..Said'. Prove '..Said' where nothing that the law and all that it calls make is longer than what came in: it says more and counts as full. Else prove '..UptoSaid'. A law counts once. -/
mutual
def uptoBulk {H : Type} : DataW H → Nat
  | .lit (.string bytes) => bytes.length + 1
  | .lit _ => 1
  | .nil => 1
  | .ptr d => uptoBulk d + 1
  | .slice elems spare => uptoBulkAll elems + uptoBulkAll spare + 1
  | .agg parts => uptoBulkAll parts + 1
  | .iface _ d => uptoBulk d + 1
  | .map entries => uptoBulkEntries entries + 1
  | .held _ => 1
def uptoBulkAll {H : Type} : List (DataW H) → Nat
  | [] => 0
  | d :: r => uptoBulk d + uptoBulkAll r
def uptoBulkEntries {H : Type} : List (Lit × DataW H) → Nat
  | [] => 0
  | x :: r => uptoBulkEntry x + uptoBulkEntries r
def uptoBulkEntry {H : Type} : Lit × DataW H → Nat
  | (.string bytes, d) => bytes.length + uptoBulk d + 1
  | (_, d) => uptoBulk d + 1
 end
def uptoSmall : (H : Type) → List (DataW H) → Bool := fun _ ds => decide (uptoBulkAll ds ≤ 1048576)
def OpenSpec.upto (s : _root_.Go.ChangeSpec) : _root_.Go.OpenSpec := { _root_.Go.OpenSpec.ofChange s with cond := some uptoSmall }

/-- 'laws.FnExactBigOf', WHERE WHAT IT READS IS OF BULK AT MOST 1048576: true; the input reads as it did. -/
def fnExactBigOfUptoRow : OpenClaim := { program := "ytajmeeppigdjnaa", sum := "0e4d34ca4f768a1b662966a3a7ab4b7f3e4db2130e88924925a7a675654e29c2", func := "loop.example/g00017/laws.FnExactBigOf", spec := "fnExactBigOf", apart := false, narrowed := true }
def FnExactBigOfUptoSaid : Prop := fnExactBigOfUptoRow.holds Try.pinned (OpenSpec.upto fnExactBigOfSpec)

/-- 'laws.FnExactBigSmall', WHERE WHAT IT READS IS OF BULK AT MOST 1048576: true; the input reads as it did. -/
def fnExactBigSmallUptoRow : OpenClaim := { program := "ytajmeeppigdjnaa", sum := "0e4d34ca4f768a1b662966a3a7ab4b7f3e4db2130e88924925a7a675654e29c2", func := "loop.example/g00017/laws.FnExactBigSmall", spec := "fnExactBigSmall", apart := false, narrowed := true }
def FnExactBigSmallUptoSaid : Prop := fnExactBigSmallUptoRow.holds Try.pinned (OpenSpec.upto fnExactBigSmallSpec)

/-- 'laws.FnExactBigCompare', WHERE WHAT IT READS IS OF BULK AT MOST 1048576: true; the input reads as it did. -/
def fnExactBigCompareUptoRow : OpenClaim := { program := "ytajmeeppigdjnaa", sum := "0e4d34ca4f768a1b662966a3a7ab4b7f3e4db2130e88924925a7a675654e29c2", func := "loop.example/g00017/laws.FnExactBigCompare", spec := "fnExactBigCompare", apart := false, narrowed := true }
def FnExactBigCompareUptoSaid : Prop := fnExactBigCompareUptoRow.holds Try.pinned (OpenSpec.upto fnExactBigCompareSpec)

/-- 'laws.FnExactBigText', WHERE WHAT IT READS IS OF BULK AT MOST 1048576: true; the input reads as it did. -/
def fnExactBigTextUptoRow : OpenClaim := { program := "ytajmeeppigdjnaa", sum := "0e4d34ca4f768a1b662966a3a7ab4b7f3e4db2130e88924925a7a675654e29c2", func := "loop.example/g00017/laws.FnExactBigText", spec := "fnExactBigText", inPlace := ["internal/abi.NoEscape"], apart := false, narrowed := true }
def FnExactBigTextUptoSaid : Prop := fnExactBigTextUptoRow.holds Try.pinned (OpenSpec.upto fnExactBigTextSpec)

/-- 'laws.FnExactBigMul', WHERE WHAT IT READS IS OF BULK AT MOST 1048576: true; the input reads as it did. -/
def fnExactBigMulUptoRow : OpenClaim := { program := "ytajmeeppigdjnaa", sum := "0e4d34ca4f768a1b662966a3a7ab4b7f3e4db2130e88924925a7a675654e29c2", func := "loop.example/g00017/laws.FnExactBigMul", spec := "fnExactBigMul", apart := false, narrowed := true }
def FnExactBigMulUptoSaid : Prop := fnExactBigMulUptoRow.holds Try.pinned (OpenSpec.upto fnExactBigMulSpec)

/-- 'laws.FnExactBigRead', WHERE WHAT IT READS IS OF BULK AT MOST 1048576: true; the input reads as it did. -/
def fnExactBigReadUptoRow : OpenClaim := { program := "ytajmeeppigdjnaa", sum := "0e4d34ca4f768a1b662966a3a7ab4b7f3e4db2130e88924925a7a675654e29c2", func := "loop.example/g00017/laws.FnExactBigRead", spec := "fnExactBigRead", apart := false, narrowed := true }
def FnExactBigReadUptoSaid : Prop := fnExactBigReadUptoRow.holds Try.pinned (OpenSpec.upto fnExactBigReadSpec)

/-- 'laws.FnExactBigAdd', WHERE WHAT IT READS IS OF BULK AT MOST 1048576: true; the input reads as it did. -/
def fnExactBigAddUptoRow : OpenClaim := { program := "ytajmeeppigdjnaa", sum := "0e4d34ca4f768a1b662966a3a7ab4b7f3e4db2130e88924925a7a675654e29c2", func := "loop.example/g00017/laws.FnExactBigAdd", spec := "fnExactBigAdd", apart := false, narrowed := true }
def FnExactBigAddUptoSaid : Prop := fnExactBigAddUptoRow.holds Try.pinned (OpenSpec.upto fnExactBigAddSpec)

/-- 'laws.FnExactBigSub', WHERE WHAT IT READS IS OF BULK AT MOST 1048576: true; the input reads as it did. -/
def fnExactBigSubUptoRow : OpenClaim := { program := "ytajmeeppigdjnaa", sum := "0e4d34ca4f768a1b662966a3a7ab4b7f3e4db2130e88924925a7a675654e29c2", func := "loop.example/g00017/laws.FnExactBigSub", spec := "fnExactBigSub", apart := false, narrowed := true }
def FnExactBigSubUptoSaid : Prop := fnExactBigSubUptoRow.holds Try.pinned (OpenSpec.upto fnExactBigSubSpec)

/-- 'laws.FnExactBigDivMod', WHERE WHAT IT READS IS OF BULK AT MOST 1048576: true; the input reads as it did. -/
def fnExactBigDivModUptoRow : OpenClaim := { program := "ytajmeeppigdjnaa", sum := "0e4d34ca4f768a1b662966a3a7ab4b7f3e4db2130e88924925a7a675654e29c2", func := "loop.example/g00017/laws.FnExactBigDivMod", spec := "fnExactBigDivMod", apart := false, narrowed := true }
def FnExactBigDivModUptoSaid : Prop := fnExactBigDivModUptoRow.holds Try.pinned (OpenSpec.upto fnExactBigDivModSpec)

/-- 'laws.FnRing', WHERE WHAT IT READS IS OF BULK AT MOST 1048576: true; the input reads as it did. -/
def fnRingUptoRow : OpenClaim := { program := "ytajmeeppigdjnaa", sum := "0e4d34ca4f768a1b662966a3a7ab4b7f3e4db2130e88924925a7a675654e29c2", func := "loop.example/g00017/laws.FnRing", spec := "fnRing", apart := false, narrowed := true }
def FnRingUptoSaid : Prop := fnRingUptoRow.holds Try.pinned (OpenSpec.upto fnRingSpec)

/-- 'laws.FnDivide', WHERE WHAT IT READS IS OF BULK AT MOST 1048576: true; the input reads as it did. -/
def fnDivideUptoRow : OpenClaim := { program := "ytajmeeppigdjnaa", sum := "0e4d34ca4f768a1b662966a3a7ab4b7f3e4db2130e88924925a7a675654e29c2", func := "loop.example/g00017/laws.FnDivide", spec := "fnDivide", apart := false, narrowed := true }
def FnDivideUptoSaid : Prop := fnDivideUptoRow.holds Try.pinned (OpenSpec.upto fnDivideSpec)

/-- 'laws.FnBigText', WHERE WHAT IT READS IS OF BULK AT MOST 1048576: true; the input reads as it did. -/
def fnBigTextUptoRow : OpenClaim := { program := "ytajmeeppigdjnaa", sum := "0e4d34ca4f768a1b662966a3a7ab4b7f3e4db2130e88924925a7a675654e29c2", func := "loop.example/g00017/laws.FnBigText", spec := "fnBigText", inPlace := ["internal/abi.NoEscape"], apart := false, narrowed := true }
def FnBigTextUptoSaid : Prop := fnBigTextUptoRow.holds Try.pinned (OpenSpec.upto fnBigTextSpec)

end Rows
end Go.Proofs.Ytajmeeppigdjnaa
