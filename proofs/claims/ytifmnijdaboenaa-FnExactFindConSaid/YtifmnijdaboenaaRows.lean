/-
  NARROWER THAN 'FOR EVERY INPUT', by the rows' own cells (each row's printed sentence says how): FnExactFindInst: loops · FnExactFindCon: loops · FnExactSuperPath: loops.
  DERIVED. THE GIVEN ROWS OF THIS SEAT. 6 by the template 'for every input the law returns true; each argument reads behind the call as it read before'; 0 by the template 'total and deterministic' (their statements: YtifmnijdaboenaaTotals.lean).
  GIVEN WITH THE SEED: the statements are not yours to turn. If you find one false, say at which input.
  Laid BY PROGRAM, IN A SANDBOX (cutbox-rows.mjs): the forced cells as the released guide's own fill.sh prints them over the translation e30cc05c9920d265… (all of the seat's roots in one cut). By AI agents, Wed Nov 11 2026. No macro, syntax, notation, axiom, sorry.
-/
import Derived.Test.YtifmnijdaboenaaChecked
import GoSem.Claim
import GoSem.ClaimJoined
import GoSem.ClaimMapViews
import Derived.JoinedTies
import Derived.KernelRfl
namespace Go.Proofs.Ytifmnijdaboenaa
/- THE CELL 'sum', in the pinned program and in every row, IS THE sha256 OF THE DUMP (.gsa) THAT YtifmnijdaboenaaProg.lean LOADS. Nothing in Lean hashes anything: it is a label: what it is worth is what the hold of that sum in a sandbox is worth. -/
noncomputable def Try.pinned : Pinned := { name := "ytifmnijdaboenaa", sum := "e30cc05c9920d2658faf5445eea4a3fbe963778b61f79d47771d85ee9f308548", checked := Try.checked }
namespace Rows
def none {H : Type} : Left H := { results := [], args := [] }

/-- 'laws.FnExactGroups': WHATEVER THE INPUT: true; the input reads as it did. -/
def fnExactGroupsSpec : ChangeSpec := { name := "fnExactGroups", fn := fun _ => fun
  | [d] => { results := [.lit (.bool true)], args := [d] }
  | _ => none }
def fnExactGroupsRow : OpenClaim := { program := "ytifmnijdaboenaa", sum := "e30cc05c9920d2658faf5445eea4a3fbe963778b61f79d47771d85ee9f308548", func := "loop.example/g00017/laws.FnExactGroups", spec := "fnExactGroups", inPlace := ["internal/reflectlite.ValueOf", "internal/reflectlite.Swapper", "(internal/reflectlite.Value).Len"], unfollowed := true, recurses := true, plainKeys := false, apart := false }
def FnExactGroupsSaid : Prop := fnExactGroupsRow.holds Try.pinned (OpenSpec.ofChange fnExactGroupsSpec)

/-- ITS FALSE NEIGHBOUR: 'it returns false'. Refute it at one input. -/
def fnExactGroupsWrong : ChangeSpec := { name := "fnExactGroups", fn := fun _ => fun
  | [d] => { results := [.lit (.bool false)], args := [d] }
  | _ => none }
def FnExactGroupsWrongFalsely : Prop := fnExactGroupsRow.holds Try.pinned (OpenSpec.ofChange fnExactGroupsWrong)

/-- 'laws.FnGroups': WHATEVER THE INPUT: true; the input reads as it did. -/
def fnGroupsSpec : ChangeSpec := { name := "fnGroups", fn := fun _ => fun
  | [d] => { results := [.lit (.bool true)], args := [d] }
  | _ => none }
def fnGroupsRow : OpenClaim := { program := "ytifmnijdaboenaa", sum := "e30cc05c9920d2658faf5445eea4a3fbe963778b61f79d47771d85ee9f308548", func := "loop.example/g00017/laws.FnGroups", spec := "fnGroups", inPlace := ["internal/reflectlite.ValueOf", "internal/reflectlite.Swapper", "(internal/reflectlite.Value).Len"], unfollowed := true, recurses := true, plainKeys := false, apart := false }
def FnGroupsSaid : Prop := fnGroupsRow.holds Try.pinned (OpenSpec.ofChange fnGroupsSpec)

/-- ITS FALSE NEIGHBOUR: 'it returns false'. Refute it at one input. -/
def fnGroupsWrong : ChangeSpec := { name := "fnGroups", fn := fun _ => fun
  | [d] => { results := [.lit (.bool false)], args := [d] }
  | _ => none }
def FnGroupsWrongFalsely : Prop := fnGroupsRow.holds Try.pinned (OpenSpec.ofChange fnGroupsWrong)

/-- 'laws.FnExactBuiltins': WHATEVER THE INPUT: true; the input reads as it did. -/
def fnExactBuiltinsSpec : ChangeSpec := { name := "fnExactBuiltins", fn := fun _ => fun
  | [] => { results := [.lit (.bool true)], args := [] }
  | _ => none }
def fnExactBuiltinsRow : OpenClaim := { program := "ytifmnijdaboenaa", sum := "e30cc05c9920d2658faf5445eea4a3fbe963778b61f79d47771d85ee9f308548", func := "loop.example/g00017/laws.FnExactBuiltins", spec := "fnExactBuiltins", inPlace := ["internal/abi.NoEscape", "internal/bytealg.MakeNoZero"], recurses := true, plainKeys := false, apart := false }
def FnExactBuiltinsSaid : Prop := fnExactBuiltinsRow.holds Try.pinned (OpenSpec.ofChange fnExactBuiltinsSpec)

/-- ITS FALSE NEIGHBOUR: 'it returns false'. Refute it at one input. -/
def fnExactBuiltinsWrong : ChangeSpec := { name := "fnExactBuiltins", fn := fun _ => fun
  | [] => { results := [.lit (.bool false)], args := [] }
  | _ => none }
def FnExactBuiltinsWrongFalsely : Prop := fnExactBuiltinsRow.holds Try.pinned (OpenSpec.ofChange fnExactBuiltinsWrong)

/-- 'laws.FnExactFindInst': WHATEVER THE INPUT: true; the input reads as it did. -/
def fnExactFindInstSpec : ChangeSpec := { name := "fnExactFindInst", fn := fun _ => fun
  | [d1, d2, d3] => { results := [.lit (.bool true)], args := [d1, d2, d3] }
  | _ => none }
def fnExactFindInstRow : OpenClaim := { program := "ytifmnijdaboenaa", sum := "e30cc05c9920d2658faf5445eea4a3fbe963778b61f79d47771d85ee9f308548", func := "loop.example/g00017/laws.FnExactFindInst", spec := "fnExactFindInst", recurses := true, loops := true, plainKeys := false, apart := false }
def FnExactFindInstSaid : Prop := fnExactFindInstRow.holds Try.pinned (OpenSpec.ofChange fnExactFindInstSpec)

/-- ITS FALSE NEIGHBOUR: 'it returns false'. Refute it at one input. -/
def fnExactFindInstWrong : ChangeSpec := { name := "fnExactFindInst", fn := fun _ => fun
  | [d1, d2, d3] => { results := [.lit (.bool false)], args := [d1, d2, d3] }
  | _ => none }
def FnExactFindInstWrongFalsely : Prop := fnExactFindInstRow.holds Try.pinned (OpenSpec.ofChange fnExactFindInstWrong)

/-- 'laws.FnExactFindCon': WHATEVER THE INPUT: true; the input reads as it did. -/
def fnExactFindConSpec : ChangeSpec := { name := "fnExactFindCon", fn := fun _ => fun
  | [d1, d2] => { results := [.lit (.bool true)], args := [d1, d2] }
  | _ => none }
def fnExactFindConRow : OpenClaim := { program := "ytifmnijdaboenaa", sum := "e30cc05c9920d2658faf5445eea4a3fbe963778b61f79d47771d85ee9f308548", func := "loop.example/g00017/laws.FnExactFindCon", spec := "fnExactFindCon", recurses := true, loops := true, plainKeys := false, apart := false }
def FnExactFindConSaid : Prop := fnExactFindConRow.holds Try.pinned (OpenSpec.ofChange fnExactFindConSpec)

/-- ITS FALSE NEIGHBOUR: 'it returns false'. Refute it at one input. -/
def fnExactFindConWrong : ChangeSpec := { name := "fnExactFindCon", fn := fun _ => fun
  | [d1, d2] => { results := [.lit (.bool false)], args := [d1, d2] }
  | _ => none }
def FnExactFindConWrongFalsely : Prop := fnExactFindConRow.holds Try.pinned (OpenSpec.ofChange fnExactFindConWrong)

/-- 'laws.FnExactSuperPath': WHATEVER THE INPUT: true; the input reads as it did. -/
def fnExactSuperPathSpec : ChangeSpec := { name := "fnExactSuperPath", fn := fun _ => fun
  | [d1, d2, d3] => { results := [.lit (.bool true)], args := [d1, d2, d3] }
  | _ => none }
def fnExactSuperPathRow : OpenClaim := { program := "ytifmnijdaboenaa", sum := "e30cc05c9920d2658faf5445eea4a3fbe963778b61f79d47771d85ee9f308548", func := "loop.example/g00017/laws.FnExactSuperPath", spec := "fnExactSuperPath", recurses := true, loops := true, plainKeys := false, apart := false }
def FnExactSuperPathSaid : Prop := fnExactSuperPathRow.holds Try.pinned (OpenSpec.ofChange fnExactSuperPathSpec)

/-- ITS FALSE NEIGHBOUR: 'it returns false'. Refute it at one input. -/
def fnExactSuperPathWrong : ChangeSpec := { name := "fnExactSuperPath", fn := fun _ => fun
  | [d1, d2, d3] => { results := [.lit (.bool false)], args := [d1, d2, d3] }
  | _ => none }
def FnExactSuperPathWrongFalsely : Prop := fnExactSuperPathRow.holds Try.pinned (OpenSpec.ofChange fnExactSuperPathWrong)

/- THE SECOND FORM. 'bulk': how many values and letters a reading holds, each counted each time it is reached (what is shared counts as often as it is met; a slice's spare places count too). A statement '..UptoSaid' is the law's where the arguments, and the package variables that the reading takes, are together of bulk at most 1048576: NARROWER than '..Said'. Prove '..Said' where nothing that the law and all that it calls make is longer than what came in: it says more and counts as full. Else prove '..UptoSaid'. A law counts once. -/
mutual
def uptoBulk {H : Type} : DataW H → Nat
  | .lit (.string bytes) => bytes.length + 1
  | .lit _ => 1
  | .nil => 1
  | .ptr d => uptoBulk d + 1
  | .slice elems spare => uptoBulkAll elems + uptoBulkAll spare + 1
  | .agg parts => uptoBulkAll parts + 1
  | .iface _ d => uptoBulk d + 1
  | .map entries => uptoBulkEntries entries + 1
  | .held _ => 1
def uptoBulkAll {H : Type} : List (DataW H) → Nat
  | [] => 0
  | d :: r => uptoBulk d + uptoBulkAll r
def uptoBulkEntries {H : Type} : List (Lit × DataW H) → Nat
  | [] => 0
  | x :: r => uptoBulkEntry x + uptoBulkEntries r
def uptoBulkEntry {H : Type} : Lit × DataW H → Nat
  | (.string bytes, d) => bytes.length + uptoBulk d + 1
  | (_, d) => uptoBulk d + 1
 end
def uptoSmall : (H : Type) → List (DataW H) → Bool := fun _ ds => decide (uptoBulkAll ds ≤ 1048576)
def OpenSpec.upto (s : _root_.Go.ChangeSpec) : _root_.Go.OpenSpec := { _root_.Go.OpenSpec.ofChange s with cond := some uptoSmall }

/-- 'laws.FnExactGroups', WHERE WHAT IT READS IS OF BULK AT MOST 1048576: true; the input reads as it did. -/
def fnExactGroupsUptoRow : OpenClaim := { program := "ytifmnijdaboenaa", sum := "e30cc05c9920d2658faf5445eea4a3fbe963778b61f79d47771d85ee9f308548", func := "loop.example/g00017/laws.FnExactGroups", spec := "fnExactGroups", inPlace := ["internal/reflectlite.ValueOf", "internal/reflectlite.Swapper", "(internal/reflectlite.Value).Len"], unfollowed := true, recurses := true, plainKeys := false, apart := false, narrowed := true }
def FnExactGroupsUptoSaid : Prop := fnExactGroupsUptoRow.holds Try.pinned (OpenSpec.upto fnExactGroupsSpec)

/-- 'laws.FnGroups', WHERE WHAT IT READS IS OF BULK AT MOST 1048576: true; the input reads as it did. -/
def fnGroupsUptoRow : OpenClaim := { program := "ytifmnijdaboenaa", sum := "e30cc05c9920d2658faf5445eea4a3fbe963778b61f79d47771d85ee9f308548", func := "loop.example/g00017/laws.FnGroups", spec := "fnGroups", inPlace := ["internal/reflectlite.ValueOf", "internal/reflectlite.Swapper", "(internal/reflectlite.Value).Len"], unfollowed := true, recurses := true, plainKeys := false, apart := false, narrowed := true }
def FnGroupsUptoSaid : Prop := fnGroupsUptoRow.holds Try.pinned (OpenSpec.upto fnGroupsSpec)

/-- 'laws.FnExactBuiltins', WHERE WHAT IT READS IS OF BULK AT MOST 1048576: true; the input reads as it did. -/
def fnExactBuiltinsUptoRow : OpenClaim := { program := "ytifmnijdaboenaa", sum := "e30cc05c9920d2658faf5445eea4a3fbe963778b61f79d47771d85ee9f308548", func := "loop.example/g00017/laws.FnExactBuiltins", spec := "fnExactBuiltins", inPlace := ["internal/abi.NoEscape", "internal/bytealg.MakeNoZero"], recurses := true, plainKeys := false, apart := false, narrowed := true }
def FnExactBuiltinsUptoSaid : Prop := fnExactBuiltinsUptoRow.holds Try.pinned (OpenSpec.upto fnExactBuiltinsSpec)

/-- 'laws.FnExactFindInst', WHERE WHAT IT READS IS OF BULK AT MOST 1048576: true; the input reads as it did. -/
def fnExactFindInstUptoRow : OpenClaim := { program := "ytifmnijdaboenaa", sum := "e30cc05c9920d2658faf5445eea4a3fbe963778b61f79d47771d85ee9f308548", func := "loop.example/g00017/laws.FnExactFindInst", spec := "fnExactFindInst", recurses := true, loops := true, plainKeys := false, apart := false, narrowed := true }
def FnExactFindInstUptoSaid : Prop := fnExactFindInstUptoRow.holds Try.pinned (OpenSpec.upto fnExactFindInstSpec)

/-- 'laws.FnExactFindCon', WHERE WHAT IT READS IS OF BULK AT MOST 1048576: true; the input reads as it did. -/
def fnExactFindConUptoRow : OpenClaim := { program := "ytifmnijdaboenaa", sum := "e30cc05c9920d2658faf5445eea4a3fbe963778b61f79d47771d85ee9f308548", func := "loop.example/g00017/laws.FnExactFindCon", spec := "fnExactFindCon", recurses := true, loops := true, plainKeys := false, apart := false, narrowed := true }
def FnExactFindConUptoSaid : Prop := fnExactFindConUptoRow.holds Try.pinned (OpenSpec.upto fnExactFindConSpec)

/-- 'laws.FnExactSuperPath', WHERE WHAT IT READS IS OF BULK AT MOST 1048576: true; the input reads as it did. -/
def fnExactSuperPathUptoRow : OpenClaim := { program := "ytifmnijdaboenaa", sum := "e30cc05c9920d2658faf5445eea4a3fbe963778b61f79d47771d85ee9f308548", func := "loop.example/g00017/laws.FnExactSuperPath", spec := "fnExactSuperPath", recurses := true, loops := true, plainKeys := false, apart := false, narrowed := true }
def FnExactSuperPathUptoSaid : Prop := fnExactSuperPathUptoRow.holds Try.pinned (OpenSpec.upto fnExactSuperPathSpec)

end Rows
end Go.Proofs.Ytifmnijdaboenaa
