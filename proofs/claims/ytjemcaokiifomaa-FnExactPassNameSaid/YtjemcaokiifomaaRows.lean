/-
  NARROWER THAN 'FOR EVERY INPUT', by the rows' own cells (each row's printed sentence says how): FnExactAllNames: loops · FnExactFreeNames: loops · FnExactCoreSize: loops · FnExactSameCore: loops · FnExactCoreFault: loops · FnExactStrictIn: loops · FnExactFormFault: loops.
  DERIVED. THE GIVEN ROWS OF THIS SEAT. 8 by the template 'for every input the law returns true; each argument reads behind the call as it read before'; 0 by the template 'total and deterministic' (their statements: YtjemcaokiifomaaTotals.lean).
  GIVEN WITH THE SEED: the statements are not yours to turn. If you find one false, say at which input.
  Laid BY PROGRAM, IN A SANDBOX (cutbox-rows.mjs): the forced cells as the released guide's own fill.sh prints them over the translation ffa132770411b773… (all of the seat's roots in one cut). By AI agents, Wed Nov 11 2026. No macro, syntax, notation, axiom, sorry.
-/
import Derived.Test.YtjemcaokiifomaaChecked
import GoSem.Claim
import GoSem.ClaimJoined
import GoSem.ClaimMapViews
import Derived.JoinedTies
import Derived.KernelRfl
namespace Go.Proofs.Ytjemcaokiifomaa
/- THE CELL 'sum', in the pinned program and in every row, IS THE sha256 OF THE DUMP (.gsa) THAT YtjemcaokiifomaaProg.lean LOADS. Nothing in Lean hashes anything: it is a label: what it is worth is what the hold of that sum in a sandbox is worth. -/
noncomputable def Try.pinned : Pinned := { name := "ytjemcaokiifomaa", sum := "ffa132770411b7735b43831e9f30e44adb9005236a06bbca2bd71689102c0272", checked := Try.checked }
namespace Rows
def none {H : Type} : Left H := { results := [], args := [] }

/-- 'laws.FnExactAllNames': WHATEVER THE INPUT: true; the input reads as it did. -/
def fnExactAllNamesSpec : ChangeSpec := { name := "fnExactAllNames", fn := fun _ => fun
  | [d] => { results := [.lit (.bool true)], args := [d] }
  | _ => none }
def fnExactAllNamesRow : OpenClaim := { program := "ytjemcaokiifomaa", sum := "ffa132770411b7735b43831e9f30e44adb9005236a06bbca2bd71689102c0272", func := "loop.example/g00017/laws.FnExactAllNames", spec := "fnExactAllNames", unfollowed := true, recurses := true, loops := true, plainKeys := false, apart := false }
def FnExactAllNamesSaid : Prop := fnExactAllNamesRow.holds Try.pinned (OpenSpec.ofChange fnExactAllNamesSpec)

/-- ITS FALSE NEIGHBOUR: 'it returns false'. Refute it at one input. -/
def fnExactAllNamesWrong : ChangeSpec := { name := "fnExactAllNames", fn := fun _ => fun
  | [d] => { results := [.lit (.bool false)], args := [d] }
  | _ => none }
def FnExactAllNamesWrongFalsely : Prop := fnExactAllNamesRow.holds Try.pinned (OpenSpec.ofChange fnExactAllNamesWrong)

/-- 'laws.FnExactFreeNames': WHATEVER THE INPUT: true; the input reads as it did. -/
def fnExactFreeNamesSpec : ChangeSpec := { name := "fnExactFreeNames", fn := fun _ => fun
  | [d] => { results := [.lit (.bool true)], args := [d] }
  | _ => none }
def fnExactFreeNamesRow : OpenClaim := { program := "ytjemcaokiifomaa", sum := "ffa132770411b7735b43831e9f30e44adb9005236a06bbca2bd71689102c0272", func := "loop.example/g00017/laws.FnExactFreeNames", spec := "fnExactFreeNames", unfollowed := true, recurses := true, loops := true, plainKeys := false, apart := false }
def FnExactFreeNamesSaid : Prop := fnExactFreeNamesRow.holds Try.pinned (OpenSpec.ofChange fnExactFreeNamesSpec)

/-- ITS FALSE NEIGHBOUR: 'it returns false'. Refute it at one input. -/
def fnExactFreeNamesWrong : ChangeSpec := { name := "fnExactFreeNames", fn := fun _ => fun
  | [d] => { results := [.lit (.bool false)], args := [d] }
  | _ => none }
def FnExactFreeNamesWrongFalsely : Prop := fnExactFreeNamesRow.holds Try.pinned (OpenSpec.ofChange fnExactFreeNamesWrong)

/-- 'laws.FnExactCoreSize': WHATEVER THE INPUT: true; the input reads as it did. -/
def fnExactCoreSizeSpec : ChangeSpec := { name := "fnExactCoreSize", fn := fun _ => fun
  | [d] => { results := [.lit (.bool true)], args := [d] }
  | _ => none }
def fnExactCoreSizeRow : OpenClaim := { program := "ytjemcaokiifomaa", sum := "ffa132770411b7735b43831e9f30e44adb9005236a06bbca2bd71689102c0272", func := "loop.example/g00017/laws.FnExactCoreSize", spec := "fnExactCoreSize", unfollowed := true, recurses := true, loops := true, plainKeys := false, apart := false }
def FnExactCoreSizeSaid : Prop := fnExactCoreSizeRow.holds Try.pinned (OpenSpec.ofChange fnExactCoreSizeSpec)

/-- ITS FALSE NEIGHBOUR: 'it returns false'. Refute it at one input. -/
def fnExactCoreSizeWrong : ChangeSpec := { name := "fnExactCoreSize", fn := fun _ => fun
  | [d] => { results := [.lit (.bool false)], args := [d] }
  | _ => none }
def FnExactCoreSizeWrongFalsely : Prop := fnExactCoreSizeRow.holds Try.pinned (OpenSpec.ofChange fnExactCoreSizeWrong)

/-- 'laws.FnExactSameCore': WHATEVER THE INPUT: true; the input reads as it did. -/
def fnExactSameCoreSpec : ChangeSpec := { name := "fnExactSameCore", fn := fun _ => fun
  | [d1, d2] => { results := [.lit (.bool true)], args := [d1, d2] }
  | _ => none }
def fnExactSameCoreRow : OpenClaim := { program := "ytjemcaokiifomaa", sum := "ffa132770411b7735b43831e9f30e44adb9005236a06bbca2bd71689102c0272", func := "loop.example/g00017/laws.FnExactSameCore", spec := "fnExactSameCore", recurses := true, loops := true, plainKeys := false, apart := false }
def FnExactSameCoreSaid : Prop := fnExactSameCoreRow.holds Try.pinned (OpenSpec.ofChange fnExactSameCoreSpec)

/-- ITS FALSE NEIGHBOUR: 'it returns false'. Refute it at one input. -/
def fnExactSameCoreWrong : ChangeSpec := { name := "fnExactSameCore", fn := fun _ => fun
  | [d1, d2] => { results := [.lit (.bool false)], args := [d1, d2] }
  | _ => none }
def FnExactSameCoreWrongFalsely : Prop := fnExactSameCoreRow.holds Try.pinned (OpenSpec.ofChange fnExactSameCoreWrong)

/-- 'laws.FnExactCoreFault': WHATEVER THE INPUT: true; the input reads as it did. -/
def fnExactCoreFaultSpec : ChangeSpec := { name := "fnExactCoreFault", fn := fun _ => fun
  | [d] => { results := [.lit (.bool true)], args := [d] }
  | _ => none }
def fnExactCoreFaultRow : OpenClaim := { program := "ytjemcaokiifomaa", sum := "ffa132770411b7735b43831e9f30e44adb9005236a06bbca2bd71689102c0272", func := "loop.example/g00017/laws.FnExactCoreFault", spec := "fnExactCoreFault", unfollowed := true, recurses := true, loops := true, plainKeys := false, apart := false }
def FnExactCoreFaultSaid : Prop := fnExactCoreFaultRow.holds Try.pinned (OpenSpec.ofChange fnExactCoreFaultSpec)

/-- ITS FALSE NEIGHBOUR: 'it returns false'. Refute it at one input. -/
def fnExactCoreFaultWrong : ChangeSpec := { name := "fnExactCoreFault", fn := fun _ => fun
  | [d] => { results := [.lit (.bool false)], args := [d] }
  | _ => none }
def FnExactCoreFaultWrongFalsely : Prop := fnExactCoreFaultRow.holds Try.pinned (OpenSpec.ofChange fnExactCoreFaultWrong)

/-- 'laws.FnExactStrictIn': WHATEVER THE INPUT: true; the input reads as it did. -/
def fnExactStrictInSpec : ChangeSpec := { name := "fnExactStrictIn", fn := fun _ => fun
  | [d1, d2] => { results := [.lit (.bool true)], args := [d1, d2] }
  | _ => none }
def fnExactStrictInRow : OpenClaim := { program := "ytjemcaokiifomaa", sum := "ffa132770411b7735b43831e9f30e44adb9005236a06bbca2bd71689102c0272", func := "loop.example/g00017/laws.FnExactStrictIn", spec := "fnExactStrictIn", unfollowed := true, recurses := true, loops := true, plainKeys := false, apart := false }
def FnExactStrictInSaid : Prop := fnExactStrictInRow.holds Try.pinned (OpenSpec.ofChange fnExactStrictInSpec)

/-- ITS FALSE NEIGHBOUR: 'it returns false'. Refute it at one input. -/
def fnExactStrictInWrong : ChangeSpec := { name := "fnExactStrictIn", fn := fun _ => fun
  | [d1, d2] => { results := [.lit (.bool false)], args := [d1, d2] }
  | _ => none }
def FnExactStrictInWrongFalsely : Prop := fnExactStrictInRow.holds Try.pinned (OpenSpec.ofChange fnExactStrictInWrong)

/-- 'laws.FnExactPassName': WHATEVER THE INPUT: true; the input reads as it did. -/
def fnExactPassNameSpec : ChangeSpec := { name := "fnExactPassName", fn := fun _ => fun
  | [d] => { results := [.lit (.bool true)], args := [d] }
  | _ => none }
def fnExactPassNameRow : OpenClaim := { program := "ytjemcaokiifomaa", sum := "ffa132770411b7735b43831e9f30e44adb9005236a06bbca2bd71689102c0272", func := "loop.example/g00017/laws.FnExactPassName", spec := "fnExactPassName", inPlace := ["internal/abi.NoEscape"], unfollowed := true, recurses := true, plainKeys := false, apart := false }
def FnExactPassNameSaid : Prop := fnExactPassNameRow.holds Try.pinned (OpenSpec.ofChange fnExactPassNameSpec)

/-- ITS FALSE NEIGHBOUR: 'it returns false'. Refute it at one input. -/
def fnExactPassNameWrong : ChangeSpec := { name := "fnExactPassName", fn := fun _ => fun
  | [d] => { results := [.lit (.bool false)], args := [d] }
  | _ => none }
def FnExactPassNameWrongFalsely : Prop := fnExactPassNameRow.holds Try.pinned (OpenSpec.ofChange fnExactPassNameWrong)

/-- 'laws.FnExactFormFault': WHATEVER THE INPUT: true; the input reads as it did. -/
def fnExactFormFaultSpec : ChangeSpec := { name := "fnExactFormFault", fn := fun _ => fun
  | [d] => { results := [.lit (.bool true)], args := [d] }
  | _ => none }
def fnExactFormFaultRow : OpenClaim := { program := "ytjemcaokiifomaa", sum := "ffa132770411b7735b43831e9f30e44adb9005236a06bbca2bd71689102c0272", func := "loop.example/g00017/laws.FnExactFormFault", spec := "fnExactFormFault", recurses := true, loops := true, plainKeys := false, apart := false }
def FnExactFormFaultSaid : Prop := fnExactFormFaultRow.holds Try.pinned (OpenSpec.ofChange fnExactFormFaultSpec)

/-- ITS FALSE NEIGHBOUR: 'it returns false'. Refute it at one input. -/
def fnExactFormFaultWrong : ChangeSpec := { name := "fnExactFormFault", fn := fun _ => fun
  | [d] => { results := [.lit (.bool false)], args := [d] }
  | _ => none }
def FnExactFormFaultWrongFalsely : Prop := fnExactFormFaultRow.holds Try.pinned (OpenSpec.ofChange fnExactFormFaultWrong)

/- THE SECOND FORM. 'bulk': how many values and letters a reading holds, each counted each time it is reached (what is shared counts as often as it is met; a slice's spare places count too). A statement '..UptoSaid' is the law's where the arguments, and the package variables that the reading takes, are together of bulk at most 1048576: NARROWER than '..Said'. Prove '..Said' where nothing that the law and all that it calls make is longer than what came in: it says more and counts as full. Else prove '..UptoSaid'. A law counts once. -/
mutual
def uptoBulk {H : Type} : DataW H → Nat
  | .lit (.string bytes) => bytes.length + 1
  | .lit _ => 1
  | .nil => 1
  | .ptr d => uptoBulk d + 1
  | .slice elems spare => uptoBulkAll elems + uptoBulkAll spare + 1
  | .agg parts => uptoBulkAll parts + 1
  | .iface _ d => uptoBulk d + 1
  | .map entries => uptoBulkEntries entries + 1
  | .held _ => 1
def uptoBulkAll {H : Type} : List (DataW H) → Nat
  | [] => 0
  | d :: r => uptoBulk d + uptoBulkAll r
def uptoBulkEntries {H : Type} : List (Lit × DataW H) → Nat
  | [] => 0
  | x :: r => uptoBulkEntry x + uptoBulkEntries r
def uptoBulkEntry {H : Type} : Lit × DataW H → Nat
  | (.string bytes, d) => bytes.length + uptoBulk d + 1
  | (_, d) => uptoBulk d + 1
 end
def uptoSmall : (H : Type) → List (DataW H) → Bool := fun _ ds => decide (uptoBulkAll ds ≤ 1048576)
def OpenSpec.upto (s : _root_.Go.ChangeSpec) : _root_.Go.OpenSpec := { _root_.Go.OpenSpec.ofChange s with cond := some uptoSmall }

/-- 'laws.FnExactAllNames', WHERE WHAT IT READS IS OF BULK AT MOST 1048576: true; the input reads as it did. -/
def fnExactAllNamesUptoRow : OpenClaim := { program := "ytjemcaokiifomaa", sum := "ffa132770411b7735b43831e9f30e44adb9005236a06bbca2bd71689102c0272", func := "loop.example/g00017/laws.FnExactAllNames", spec := "fnExactAllNames", unfollowed := true, recurses := true, loops := true, plainKeys := false, apart := false, narrowed := true }
def FnExactAllNamesUptoSaid : Prop := fnExactAllNamesUptoRow.holds Try.pinned (OpenSpec.upto fnExactAllNamesSpec)

/-- 'laws.FnExactFreeNames', WHERE WHAT IT READS IS OF BULK AT MOST 1048576: true; the input reads as it did. -/
def fnExactFreeNamesUptoRow : OpenClaim := { program := "ytjemcaokiifomaa", sum := "ffa132770411b7735b43831e9f30e44adb9005236a06bbca2bd71689102c0272", func := "loop.example/g00017/laws.FnExactFreeNames", spec := "fnExactFreeNames", unfollowed := true, recurses := true, loops := true, plainKeys := false, apart := false, narrowed := true }
def FnExactFreeNamesUptoSaid : Prop := fnExactFreeNamesUptoRow.holds Try.pinned (OpenSpec.upto fnExactFreeNamesSpec)

/-- 'laws.FnExactCoreSize', WHERE WHAT IT READS IS OF BULK AT MOST 1048576: true; the input reads as it did. -/
def fnExactCoreSizeUptoRow : OpenClaim := { program := "ytjemcaokiifomaa", sum := "ffa132770411b7735b43831e9f30e44adb9005236a06bbca2bd71689102c0272", func := "loop.example/g00017/laws.FnExactCoreSize", spec := "fnExactCoreSize", unfollowed := true, recurses := true, loops := true, plainKeys := false, apart := false, narrowed := true }
def FnExactCoreSizeUptoSaid : Prop := fnExactCoreSizeUptoRow.holds Try.pinned (OpenSpec.upto fnExactCoreSizeSpec)

/-- 'laws.FnExactSameCore', WHERE WHAT IT READS IS OF BULK AT MOST 1048576: true; the input reads as it did. -/
def fnExactSameCoreUptoRow : OpenClaim := { program := "ytjemcaokiifomaa", sum := "ffa132770411b7735b43831e9f30e44adb9005236a06bbca2bd71689102c0272", func := "loop.example/g00017/laws.FnExactSameCore", spec := "fnExactSameCore", recurses := true, loops := true, plainKeys := false, apart := false, narrowed := true }
def FnExactSameCoreUptoSaid : Prop := fnExactSameCoreUptoRow.holds Try.pinned (OpenSpec.upto fnExactSameCoreSpec)

/-- 'laws.FnExactCoreFault', WHERE WHAT IT READS IS OF BULK AT MOST 1048576: true; the input reads as it did. -/
def fnExactCoreFaultUptoRow : OpenClaim := { program := "ytjemcaokiifomaa", sum := "ffa132770411b7735b43831e9f30e44adb9005236a06bbca2bd71689102c0272", func := "loop.example/g00017/laws.FnExactCoreFault", spec := "fnExactCoreFault", unfollowed := true, recurses := true, loops := true, plainKeys := false, apart := false, narrowed := true }
def FnExactCoreFaultUptoSaid : Prop := fnExactCoreFaultUptoRow.holds Try.pinned (OpenSpec.upto fnExactCoreFaultSpec)

/-- 'laws.FnExactStrictIn', WHERE WHAT IT READS IS OF BULK AT MOST 1048576: true; the input reads as it did. -/
def fnExactStrictInUptoRow : OpenClaim := { program := "ytjemcaokiifomaa", sum := "ffa132770411b7735b43831e9f30e44adb9005236a06bbca2bd71689102c0272", func := "loop.example/g00017/laws.FnExactStrictIn", spec := "fnExactStrictIn", unfollowed := true, recurses := true, loops := true, plainKeys := false, apart := false, narrowed := true }
def FnExactStrictInUptoSaid : Prop := fnExactStrictInUptoRow.holds Try.pinned (OpenSpec.upto fnExactStrictInSpec)

/-- 'laws.FnExactPassName', WHERE WHAT IT READS IS OF BULK AT MOST 1048576: true; the input reads as it did. -/
def fnExactPassNameUptoRow : OpenClaim := { program := "ytjemcaokiifomaa", sum := "ffa132770411b7735b43831e9f30e44adb9005236a06bbca2bd71689102c0272", func := "loop.example/g00017/laws.FnExactPassName", spec := "fnExactPassName", inPlace := ["internal/abi.NoEscape"], unfollowed := true, recurses := true, plainKeys := false, apart := false, narrowed := true }
def FnExactPassNameUptoSaid : Prop := fnExactPassNameUptoRow.holds Try.pinned (OpenSpec.upto fnExactPassNameSpec)

/-- 'laws.FnExactFormFault', WHERE WHAT IT READS IS OF BULK AT MOST 1048576: true; the input reads as it did. -/
def fnExactFormFaultUptoRow : OpenClaim := { program := "ytjemcaokiifomaa", sum := "ffa132770411b7735b43831e9f30e44adb9005236a06bbca2bd71689102c0272", func := "loop.example/g00017/laws.FnExactFormFault", spec := "fnExactFormFault", recurses := true, loops := true, plainKeys := false, apart := false, narrowed := true }
def FnExactFormFaultUptoSaid : Prop := fnExactFormFaultUptoRow.holds Try.pinned (OpenSpec.upto fnExactFormFaultSpec)

end Rows
end Go.Proofs.Ytjemcaokiifomaa
