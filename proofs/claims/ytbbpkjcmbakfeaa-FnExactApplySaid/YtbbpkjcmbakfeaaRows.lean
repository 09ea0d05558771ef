/-
  NARROWER THAN 'FOR EVERY INPUT', by the rows' own cells (each row's printed sentence says how): FnExactFreeIds: loops · FnExactOpen: loops · FnExactApply: loops · FnExactClose: loops · FnExactUnify: loops · FnExactMainKind: loops.
  DERIVED. THE GIVEN ROWS OF THIS SEAT. 9 by the template 'for every input the law returns true; each argument reads behind the call as it read before'; 0 by the template 'total and deterministic' (their statements: YtbbpkjcmbakfeaaTotals.lean).
  GIVEN WITH THE SEED: the statements are not yours to turn. If you find one false, say at which input.
  Laid BY PROGRAM, IN A SANDBOX (cutbox-rows.mjs): the forced cells as the released guide's own fill.sh prints them over the translation 3070689b98ea7f11… (all of the seat's roots in one cut). By AI agents, Wed Nov 11 2026. No macro, syntax, notation, axiom, sorry.
-/
import Derived.Test.YtbbpkjcmbakfeaaChecked
import GoSem.Claim
import GoSem.ClaimJoined
import GoSem.ClaimMapViews
import Derived.JoinedTies
import Derived.KernelRfl
namespace Go.Proofs.Ytbbpkjcmbakfeaa
/- THE CELL 'sum', in the pinned program and in every row, IS THE sha256 OF THE DUMP (.gsa) THAT YtbbpkjcmbakfeaaProg.lean LOADS. Nothing in Lean hashes anything: it is a label: what it is worth is what the hold of that sum in a sandbox is worth. -/
noncomputable def Try.pinned : Pinned := { name := "ytbbpkjcmbakfeaa", sum := "3070689b98ea7f1177171821a859069c1c8688ffe833c1dd128e66e55232bff2", checked := Try.checked }
namespace Rows
def none {H : Type} : Left H := { results := [], args := [] }

/-- 'laws.FnExactFreeIds': WHATEVER THE INPUT: true; the input reads as it did. -/
def fnExactFreeIdsSpec : ChangeSpec := { name := "fnExactFreeIds", fn := fun _ => fun
  | [d] => { results := [.lit (.bool true)], args := [d] }
  | _ => none }
def fnExactFreeIdsRow : OpenClaim := { program := "ytbbpkjcmbakfeaa", sum := "3070689b98ea7f1177171821a859069c1c8688ffe833c1dd128e66e55232bff2", func := "loop.example/g00017/laws.FnExactFreeIds", spec := "fnExactFreeIds", recurses := true, loops := true, plainKeys := false, apart := false }
def FnExactFreeIdsSaid : Prop := fnExactFreeIdsRow.holds Try.pinned (OpenSpec.ofChange fnExactFreeIdsSpec)

/-- ITS FALSE NEIGHBOUR: 'it returns false'. Refute it at one input. -/
def fnExactFreeIdsWrong : ChangeSpec := { name := "fnExactFreeIds", fn := fun _ => fun
  | [d] => { results := [.lit (.bool false)], args := [d] }
  | _ => none }
def FnExactFreeIdsWrongFalsely : Prop := fnExactFreeIdsRow.holds Try.pinned (OpenSpec.ofChange fnExactFreeIdsWrong)

/-- 'laws.FnExactBuiltinType': WHATEVER THE INPUT: true; the input reads as it did. -/
def fnExactBuiltinTypeSpec : ChangeSpec := { name := "fnExactBuiltinType", fn := fun _ => fun
  | [d] => { results := [.lit (.bool true)], args := [d] }
  | _ => none }
def fnExactBuiltinTypeRow : OpenClaim := { program := "ytbbpkjcmbakfeaa", sum := "3070689b98ea7f1177171821a859069c1c8688ffe833c1dd128e66e55232bff2", func := "loop.example/g00017/laws.FnExactBuiltinType", spec := "fnExactBuiltinType", recurses := true, plainKeys := false, apart := false }
def FnExactBuiltinTypeSaid : Prop := fnExactBuiltinTypeRow.holds Try.pinned (OpenSpec.ofChange fnExactBuiltinTypeSpec)

/-- ITS FALSE NEIGHBOUR: 'it returns false'. Refute it at one input. -/
def fnExactBuiltinTypeWrong : ChangeSpec := { name := "fnExactBuiltinType", fn := fun _ => fun
  | [d] => { results := [.lit (.bool false)], args := [d] }
  | _ => none }
def FnExactBuiltinTypeWrongFalsely : Prop := fnExactBuiltinTypeRow.holds Try.pinned (OpenSpec.ofChange fnExactBuiltinTypeWrong)

/-- 'laws.FnExactOpen': WHATEVER THE INPUT: true; the input reads as it did. -/
def fnExactOpenSpec : ChangeSpec := { name := "fnExactOpen", fn := fun _ => fun
  | [d1, d2] => { results := [.lit (.bool true)], args := [d1, d2] }
  | _ => none }
def fnExactOpenRow : OpenClaim := { program := "ytbbpkjcmbakfeaa", sum := "3070689b98ea7f1177171821a859069c1c8688ffe833c1dd128e66e55232bff2", func := "loop.example/g00017/laws.FnExactOpen", spec := "fnExactOpen", recurses := true, loops := true, plainKeys := false, apart := false }
def FnExactOpenSaid : Prop := fnExactOpenRow.holds Try.pinned (OpenSpec.ofChange fnExactOpenSpec)

/-- ITS FALSE NEIGHBOUR: 'it returns false'. Refute it at one input. -/
def fnExactOpenWrong : ChangeSpec := { name := "fnExactOpen", fn := fun _ => fun
  | [d1, d2] => { results := [.lit (.bool false)], args := [d1, d2] }
  | _ => none }
def FnExactOpenWrongFalsely : Prop := fnExactOpenRow.holds Try.pinned (OpenSpec.ofChange fnExactOpenWrong)

/-- 'laws.FnExactApply': WHATEVER THE INPUT: true; the input reads as it did. -/
def fnExactApplySpec : ChangeSpec := { name := "fnExactApply", fn := fun _ => fun
  | [d1, d2] => { results := [.lit (.bool true)], args := [d1, d2] }
  | _ => none }
def fnExactApplyRow : OpenClaim := { program := "ytbbpkjcmbakfeaa", sum := "3070689b98ea7f1177171821a859069c1c8688ffe833c1dd128e66e55232bff2", func := "loop.example/g00017/laws.FnExactApply", spec := "fnExactApply", recurses := true, loops := true, plainKeys := false, apart := false }
def FnExactApplySaid : Prop := fnExactApplyRow.holds Try.pinned (OpenSpec.ofChange fnExactApplySpec)

/-- ITS FALSE NEIGHBOUR: 'it returns false'. Refute it at one input. -/
def fnExactApplyWrong : ChangeSpec := { name := "fnExactApply", fn := fun _ => fun
  | [d1, d2] => { results := [.lit (.bool false)], args := [d1, d2] }
  | _ => none }
def FnExactApplyWrongFalsely : Prop := fnExactApplyRow.holds Try.pinned (OpenSpec.ofChange fnExactApplyWrong)

/-- 'laws.FnExactClose': WHATEVER THE INPUT: true; the input reads as it did. -/
def fnExactCloseSpec : ChangeSpec := { name := "fnExactClose", fn := fun _ => fun
  | [d1, d2, d3] => { results := [.lit (.bool true)], args := [d1, d2, d3] }
  | _ => none }
def fnExactCloseRow : OpenClaim := { program := "ytbbpkjcmbakfeaa", sum := "3070689b98ea7f1177171821a859069c1c8688ffe833c1dd128e66e55232bff2", func := "loop.example/g00017/laws.FnExactClose", spec := "fnExactClose", recurses := true, loops := true, plainKeys := false, apart := false }
def FnExactCloseSaid : Prop := fnExactCloseRow.holds Try.pinned (OpenSpec.ofChange fnExactCloseSpec)

/-- ITS FALSE NEIGHBOUR: 'it returns false'. Refute it at one input. -/
def fnExactCloseWrong : ChangeSpec := { name := "fnExactClose", fn := fun _ => fun
  | [d1, d2, d3] => { results := [.lit (.bool false)], args := [d1, d2, d3] }
  | _ => none }
def FnExactCloseWrongFalsely : Prop := fnExactCloseRow.holds Try.pinned (OpenSpec.ofChange fnExactCloseWrong)

/-- 'laws.FnExactUnify': WHATEVER THE INPUT: true; the input reads as it did. -/
def fnExactUnifySpec : ChangeSpec := { name := "fnExactUnify", fn := fun _ => fun
  | [d1, d2] => { results := [.lit (.bool true)], args := [d1, d2] }
  | _ => none }
def fnExactUnifyRow : OpenClaim := { program := "ytbbpkjcmbakfeaa", sum := "3070689b98ea7f1177171821a859069c1c8688ffe833c1dd128e66e55232bff2", func := "loop.example/g00017/laws.FnExactUnify", spec := "fnExactUnify", inPlace := ["internal/reflectlite.ValueOf", "internal/reflectlite.Swapper", "(internal/reflectlite.Value).Len"], unfollowed := true, recurses := true, loops := true, plainKeys := false, apart := false }
def FnExactUnifySaid : Prop := fnExactUnifyRow.holds Try.pinned (OpenSpec.ofChange fnExactUnifySpec)

/-- ITS FALSE NEIGHBOUR: 'it returns false'. Refute it at one input. -/
def fnExactUnifyWrong : ChangeSpec := { name := "fnExactUnify", fn := fun _ => fun
  | [d1, d2] => { results := [.lit (.bool false)], args := [d1, d2] }
  | _ => none }
def FnExactUnifyWrongFalsely : Prop := fnExactUnifyRow.holds Try.pinned (OpenSpec.ofChange fnExactUnifyWrong)

/-- 'laws.FnGeneral': WHATEVER THE INPUT: true; the input reads as it did. -/
def fnGeneralSpec : ChangeSpec := { name := "fnGeneral", fn := fun _ => fun
  | [d1, d2] => { results := [.lit (.bool true)], args := [d1, d2] }
  | _ => none }
def fnGeneralRow : OpenClaim := { program := "ytbbpkjcmbakfeaa", sum := "3070689b98ea7f1177171821a859069c1c8688ffe833c1dd128e66e55232bff2", func := "loop.example/g00017/laws.FnGeneral", spec := "fnGeneral", inPlace := ["internal/reflectlite.ValueOf", "internal/reflectlite.Swapper", "(internal/reflectlite.Value).Len"], unfollowed := true, recurses := true, plainKeys := false, apart := false }
def FnGeneralSaid : Prop := fnGeneralRow.holds Try.pinned (OpenSpec.ofChange fnGeneralSpec)

/-- ITS FALSE NEIGHBOUR: 'it returns false'. Refute it at one input. -/
def fnGeneralWrong : ChangeSpec := { name := "fnGeneral", fn := fun _ => fun
  | [d1, d2] => { results := [.lit (.bool false)], args := [d1, d2] }
  | _ => none }
def FnGeneralWrongFalsely : Prop := fnGeneralRow.holds Try.pinned (OpenSpec.ofChange fnGeneralWrong)

/-- 'laws.FnUnify': WHATEVER THE INPUT: true; the input reads as it did. -/
def fnUnifySpec : ChangeSpec := { name := "fnUnify", fn := fun _ => fun
  | [d] => { results := [.lit (.bool true)], args := [d] }
  | _ => none }
def fnUnifyRow : OpenClaim := { program := "ytbbpkjcmbakfeaa", sum := "3070689b98ea7f1177171821a859069c1c8688ffe833c1dd128e66e55232bff2", func := "loop.example/g00017/laws.FnUnify", spec := "fnUnify", inPlace := ["internal/reflectlite.ValueOf", "internal/reflectlite.Swapper", "(internal/reflectlite.Value).Len"], unfollowed := true, recurses := true, plainKeys := false, apart := false }
def FnUnifySaid : Prop := fnUnifyRow.holds Try.pinned (OpenSpec.ofChange fnUnifySpec)

/-- ITS FALSE NEIGHBOUR: 'it returns false'. Refute it at one input. -/
def fnUnifyWrong : ChangeSpec := { name := "fnUnify", fn := fun _ => fun
  | [d] => { results := [.lit (.bool false)], args := [d] }
  | _ => none }
def FnUnifyWrongFalsely : Prop := fnUnifyRow.holds Try.pinned (OpenSpec.ofChange fnUnifyWrong)

/-- 'laws.FnExactMainKind': WHATEVER THE INPUT: true; the input reads as it did. -/
def fnExactMainKindSpec : ChangeSpec := { name := "fnExactMainKind", fn := fun _ => fun
  | [d] => { results := [.lit (.bool true)], args := [d] }
  | _ => none }
def fnExactMainKindRow : OpenClaim := { program := "ytbbpkjcmbakfeaa", sum := "3070689b98ea7f1177171821a859069c1c8688ffe833c1dd128e66e55232bff2", func := "loop.example/g00017/laws.FnExactMainKind", spec := "fnExactMainKind", recurses := true, loops := true, plainKeys := false, apart := false }
def FnExactMainKindSaid : Prop := fnExactMainKindRow.holds Try.pinned (OpenSpec.ofChange fnExactMainKindSpec)

/-- ITS FALSE NEIGHBOUR: 'it returns false'. Refute it at one input. -/
def fnExactMainKindWrong : ChangeSpec := { name := "fnExactMainKind", fn := fun _ => fun
  | [d] => { results := [.lit (.bool false)], args := [d] }
  | _ => none }
def FnExactMainKindWrongFalsely : Prop := fnExactMainKindRow.holds Try.pinned (OpenSpec.ofChange fnExactMainKindWrong)

/- THE SECOND FORM. 'bulk': how many values and letters a reading holds, each counted each time it is reached (what is shared counts as often as it is met; a slice's spare places count too). A statement '..UptoSaid' is the law's where the arguments, and the package variables that the reading takes, are together of bulk at most 1048576: NARROWER than '..Said'. Prove '..Said' where nothing that the law and all that it calls make is longer than what came in: it says more and counts as full. Else prove '..UptoSaid'. A law counts once. -/
mutual
def uptoBulk {H : Type} : DataW H → Nat
  | .lit (.string bytes) => bytes.length + 1
  | .lit _ => 1
  | .nil => 1
  | .ptr d => uptoBulk d + 1
  | .slice elems spare => uptoBulkAll elems + uptoBulkAll spare + 1
  | .agg parts => uptoBulkAll parts + 1
  | .iface _ d => uptoBulk d + 1
  | .map entries => uptoBulkEntries entries + 1
  | .held _ => 1
def uptoBulkAll {H : Type} : List (DataW H) → Nat
  | [] => 0
  | d :: r => uptoBulk d + uptoBulkAll r
def uptoBulkEntries {H : Type} : List (Lit × DataW H) → Nat
  | [] => 0
  | x :: r => uptoBulkEntry x + uptoBulkEntries r
def uptoBulkEntry {H : Type} : Lit × DataW H → Nat
  | (.string bytes, d) => bytes.length + uptoBulk d + 1
  | (_, d) => uptoBulk d + 1
 end
def uptoSmall : (H : Type) → List (DataW H) → Bool := fun _ ds => decide (uptoBulkAll ds ≤ 1048576)
def OpenSpec.upto (s : _root_.Go.ChangeSpec) : _root_.Go.OpenSpec := { _root_.Go.OpenSpec.ofChange s with cond := some uptoSmall }

/-- 'laws.FnExactFreeIds', WHERE WHAT IT READS IS OF BULK AT MOST 1048576: true; the input reads as it did. -/
def fnExactFreeIdsUptoRow : OpenClaim := { program := "ytbbpkjcmbakfeaa", sum := "3070689b98ea7f1177171821a859069c1c8688ffe833c1dd128e66e55232bff2", func := "loop.example/g00017/laws.FnExactFreeIds", spec := "fnExactFreeIds", recurses := true, loops := true, plainKeys := false, apart := false, narrowed := true }
def FnExactFreeIdsUptoSaid : Prop := fnExactFreeIdsUptoRow.holds Try.pinned (OpenSpec.upto fnExactFreeIdsSpec)

/-- 'laws.FnExactBuiltinType', WHERE WHAT IT READS IS OF BULK AT MOST 1048576: true; the input reads as it did. -/
def fnExactBuiltinTypeUptoRow : OpenClaim := { program := "ytbbpkjcmbakfeaa", sum := "3070689b98ea7f1177171821a859069c1c8688ffe833c1dd128e66e55232bff2", func := "loop.example/g00017/laws.FnExactBuiltinType", spec := "fnExactBuiltinType", recurses := true, plainKeys := false, apart := false, narrowed := true }
def FnExactBuiltinTypeUptoSaid : Prop := fnExactBuiltinTypeUptoRow.holds Try.pinned (OpenSpec.upto fnExactBuiltinTypeSpec)

/-- 'laws.FnExactOpen', WHERE WHAT IT READS IS OF BULK AT MOST 1048576: true; the input reads as it did. -/
def fnExactOpenUptoRow : OpenClaim := { program := "ytbbpkjcmbakfeaa", sum := "3070689b98ea7f1177171821a859069c1c8688ffe833c1dd128e66e55232bff2", func := "loop.example/g00017/laws.FnExactOpen", spec := "fnExactOpen", recurses := true, loops := true, plainKeys := false, apart := false, narrowed := true }
def FnExactOpenUptoSaid : Prop := fnExactOpenUptoRow.holds Try.pinned (OpenSpec.upto fnExactOpenSpec)

/-- 'laws.FnExactApply', WHERE WHAT IT READS IS OF BULK AT MOST 1048576: true; the input reads as it did. -/
def fnExactApplyUptoRow : OpenClaim := { program := "ytbbpkjcmbakfeaa", sum := "3070689b98ea7f1177171821a859069c1c8688ffe833c1dd128e66e55232bff2", func := "loop.example/g00017/laws.FnExactApply", spec := "fnExactApply", recurses := true, loops := true, plainKeys := false, apart := false, narrowed := true }
def FnExactApplyUptoSaid : Prop := fnExactApplyUptoRow.holds Try.pinned (OpenSpec.upto fnExactApplySpec)

/-- 'laws.FnExactClose', WHERE WHAT IT READS IS OF BULK AT MOST 1048576: true; the input reads as it did. -/
def fnExactCloseUptoRow : OpenClaim := { program := "ytbbpkjcmbakfeaa", sum := "3070689b98ea7f1177171821a859069c1c8688ffe833c1dd128e66e55232bff2", func := "loop.example/g00017/laws.FnExactClose", spec := "fnExactClose", recurses := true, loops := true, plainKeys := false, apart := false, narrowed := true }
def FnExactCloseUptoSaid : Prop := fnExactCloseUptoRow.holds Try.pinned (OpenSpec.upto fnExactCloseSpec)

/-- 'laws.FnExactUnify', WHERE WHAT IT READS IS OF BULK AT MOST 1048576: true; the input reads as it did. -/
def fnExactUnifyUptoRow : OpenClaim := { program := "ytbbpkjcmbakfeaa", sum := "3070689b98ea7f1177171821a859069c1c8688ffe833c1dd128e66e55232bff2", func := "loop.example/g00017/laws.FnExactUnify", spec := "fnExactUnify", inPlace := ["internal/reflectlite.ValueOf", "internal/reflectlite.Swapper", "(internal/reflectlite.Value).Len"], unfollowed := true, recurses := true, loops := true, plainKeys := false, apart := false, narrowed := true }
def FnExactUnifyUptoSaid : Prop := fnExactUnifyUptoRow.holds Try.pinned (OpenSpec.upto fnExactUnifySpec)

/-- 'laws.FnGeneral', WHERE WHAT IT READS IS OF BULK AT MOST 1048576: true; the input reads as it did. -/
def fnGeneralUptoRow : OpenClaim := { program := "ytbbpkjcmbakfeaa", sum := "3070689b98ea7f1177171821a859069c1c8688ffe833c1dd128e66e55232bff2", func := "loop.example/g00017/laws.FnGeneral", spec := "fnGeneral", inPlace := ["internal/reflectlite.ValueOf", "internal/reflectlite.Swapper", "(internal/reflectlite.Value).Len"], unfollowed := true, recurses := true, plainKeys := false, apart := false, narrowed := true }
def FnGeneralUptoSaid : Prop := fnGeneralUptoRow.holds Try.pinned (OpenSpec.upto fnGeneralSpec)

/-- 'laws.FnUnify', WHERE WHAT IT READS IS OF BULK AT MOST 1048576: true; the input reads as it did. -/
def fnUnifyUptoRow : OpenClaim := { program := "ytbbpkjcmbakfeaa", sum := "3070689b98ea7f1177171821a859069c1c8688ffe833c1dd128e66e55232bff2", func := "loop.example/g00017/laws.FnUnify", spec := "fnUnify", inPlace := ["internal/reflectlite.ValueOf", "internal/reflectlite.Swapper", "(internal/reflectlite.Value).Len"], unfollowed := true, recurses := true, plainKeys := false, apart := false, narrowed := true }
def FnUnifyUptoSaid : Prop := fnUnifyUptoRow.holds Try.pinned (OpenSpec.upto fnUnifySpec)

/-- 'laws.FnExactMainKind', WHERE WHAT IT READS IS OF BULK AT MOST 1048576: true; the input reads as it did. -/
def fnExactMainKindUptoRow : OpenClaim := { program := "ytbbpkjcmbakfeaa", sum := "3070689b98ea7f1177171821a859069c1c8688ffe833c1dd128e66e55232bff2", func := "loop.example/g00017/laws.FnExactMainKind", spec := "fnExactMainKind", recurses := true, loops := true, plainKeys := false, apart := false, narrowed := true }
def FnExactMainKindUptoSaid : Prop := fnExactMainKindUptoRow.holds Try.pinned (OpenSpec.upto fnExactMainKindSpec)

end Rows
end Go.Proofs.Ytbbpkjcmbakfeaa
