/-
  No cell of these rows narrows 'for every input' (looked for: loops, veiled, ifaces, maps, wideKeys, modest, calm, conditions, laid).
  DERIVED. THE GIVEN ROWS OF THIS SEAT. 11 by the template 'for every input the law returns true; each argument reads behind the call as it read before'; 0 by the template 'total and deterministic' (their statements: YtgphmhjnnppbnaaTotals.lean).
  GIVEN WITH THE SEED: the statements are not yours to turn. If you find one false, say at which input.
  Laid BY PROGRAM, IN A SANDBOX (cutbox-rows.mjs): the forced cells as the released guide's own fill.sh prints them over the translation 0910ea3745879e52… (all of the seat's roots in one cut). By AI agents, Wed Nov 11 2026. No macro, syntax, notation, axiom, sorry.
-/
import Derived.Test.YtgphmhjnnppbnaaChecked
import GoSem.Claim
import GoSem.ClaimJoined
import GoSem.ClaimMapViews
import Derived.JoinedTies
import Derived.KernelRfl
namespace Go.Proofs.Ytgphmhjnnppbnaa
/- THE CELL 'sum', in the pinned program and in every row, IS THE sha256 OF THE DUMP (.gsa) THAT YtgphmhjnnppbnaaProg.lean LOADS. Nothing in Lean hashes anything: it is a label: what it is worth is what the hold of that sum in a sandbox is worth. -/
noncomputable def Try.pinned : Pinned := { name := "ytgphmhjnnppbnaa", sum := "0910ea3745879e52f40c54b7ddf819ca295fd531caa7c78e18731a6cb941e99a", checked := Try.checked }
namespace Rows
def none {H : Type} : Left H := { results := [], args := [] }

/-- 'laws.FnExactBucketsOf': WHATEVER THE INPUT: true; the input reads as it did. -/
def fnExactBucketsOfSpec : ChangeSpec := { name := "fnExactBucketsOf", fn := fun _ => fun
  | [d1, d2] => { results := [.lit (.bool true)], args := [d1, d2] }
  | _ => none }
def fnExactBucketsOfRow : OpenClaim := { program := "ytgphmhjnnppbnaa", sum := "0910ea3745879e52f40c54b7ddf819ca295fd531caa7c78e18731a6cb941e99a", func := "loop.example/g00809/laws.FnExactBucketsOf", spec := "fnExactBucketsOf", unfollowed := true, recurses := true, plainKeys := false, leaving := true, apart := false }
def FnExactBucketsOfSaid : Prop := fnExactBucketsOfRow.holds Try.pinned (OpenSpec.ofChange fnExactBucketsOfSpec)

/-- ITS FALSE NEIGHBOUR: 'it returns false'. Refute it at one input. -/
def fnExactBucketsOfWrong : ChangeSpec := { name := "fnExactBucketsOf", fn := fun _ => fun
  | [d1, d2] => { results := [.lit (.bool false)], args := [d1, d2] }
  | _ => none }
def FnExactBucketsOfWrongFalsely : Prop := fnExactBucketsOfRow.holds Try.pinned (OpenSpec.ofChange fnExactBucketsOfWrong)

/-- 'laws.FnExactGridOf': WHATEVER THE INPUT: true; the input reads as it did. -/
def fnExactGridOfSpec : ChangeSpec := { name := "fnExactGridOf", fn := fun _ => fun
  | [d1, d2, d3, d4] => { results := [.lit (.bool true)], args := [d1, d2, d3, d4] }
  | _ => none }
def fnExactGridOfRow : OpenClaim := { program := "ytgphmhjnnppbnaa", sum := "0910ea3745879e52f40c54b7ddf819ca295fd531caa7c78e18731a6cb941e99a", func := "loop.example/g00809/laws.FnExactGridOf", spec := "fnExactGridOf", unfollowed := true, recurses := true, plainKeys := false, leaving := true, apart := false }
def FnExactGridOfSaid : Prop := fnExactGridOfRow.holds Try.pinned (OpenSpec.ofChange fnExactGridOfSpec)

/-- ITS FALSE NEIGHBOUR: 'it returns false'. Refute it at one input. -/
def fnExactGridOfWrong : ChangeSpec := { name := "fnExactGridOf", fn := fun _ => fun
  | [d1, d2, d3, d4] => { results := [.lit (.bool false)], args := [d1, d2, d3, d4] }
  | _ => none }
def FnExactGridOfWrongFalsely : Prop := fnExactGridOfRow.holds Try.pinned (OpenSpec.ofChange fnExactGridOfWrong)

/-- 'laws.FnExactSameScene': WHATEVER THE INPUT: true; the input reads as it did. -/
def fnExactSameSceneSpec : ChangeSpec := { name := "fnExactSameScene", fn := fun _ => fun
  | [d1, d2] => { results := [.lit (.bool true)], args := [d1, d2] }
  | _ => none }
def fnExactSameSceneRow : OpenClaim := { program := "ytgphmhjnnppbnaa", sum := "0910ea3745879e52f40c54b7ddf819ca295fd531caa7c78e18731a6cb941e99a", func := "loop.example/g00809/laws.FnExactSameScene", spec := "fnExactSameScene", unfollowed := true, recurses := true, plainKeys := false, leaving := true, apart := false }
def FnExactSameSceneSaid : Prop := fnExactSameSceneRow.holds Try.pinned (OpenSpec.ofChange fnExactSameSceneSpec)

/-- ITS FALSE NEIGHBOUR: 'it returns false'. Refute it at one input. -/
def fnExactSameSceneWrong : ChangeSpec := { name := "fnExactSameScene", fn := fun _ => fun
  | [d1, d2] => { results := [.lit (.bool false)], args := [d1, d2] }
  | _ => none }
def FnExactSameSceneWrongFalsely : Prop := fnExactSameSceneRow.holds Try.pinned (OpenSpec.ofChange fnExactSameSceneWrong)

/-- 'laws.FnExactIsUniform': WHATEVER THE INPUT: true; the input reads as it did. -/
def fnExactIsUniformSpec : ChangeSpec := { name := "fnExactIsUniform", fn := fun _ => fun
  | [d1, d2] => { results := [.lit (.bool true)], args := [d1, d2] }
  | _ => none }
def fnExactIsUniformRow : OpenClaim := { program := "ytgphmhjnnppbnaa", sum := "0910ea3745879e52f40c54b7ddf819ca295fd531caa7c78e18731a6cb941e99a", func := "loop.example/g00809/laws.FnExactIsUniform", spec := "fnExactIsUniform", unfollowed := true, recurses := true, plainKeys := false, leaving := true, apart := false }
def FnExactIsUniformSaid : Prop := fnExactIsUniformRow.holds Try.pinned (OpenSpec.ofChange fnExactIsUniformSpec)

/-- ITS FALSE NEIGHBOUR: 'it returns false'. Refute it at one input. -/
def fnExactIsUniformWrong : ChangeSpec := { name := "fnExactIsUniform", fn := fun _ => fun
  | [d1, d2] => { results := [.lit (.bool false)], args := [d1, d2] }
  | _ => none }
def FnExactIsUniformWrongFalsely : Prop := fnExactIsUniformRow.holds Try.pinned (OpenSpec.ofChange fnExactIsUniformWrong)

/-- 'laws.FnExactUniformCount': WHATEVER THE INPUT: true; the input reads as it did. -/
def fnExactUniformCountSpec : ChangeSpec := { name := "fnExactUniformCount", fn := fun _ => fun
  | [d] => { results := [.lit (.bool true)], args := [d] }
  | _ => none }
def fnExactUniformCountRow : OpenClaim := { program := "ytgphmhjnnppbnaa", sum := "0910ea3745879e52f40c54b7ddf819ca295fd531caa7c78e18731a6cb941e99a", func := "loop.example/g00809/laws.FnExactUniformCount", spec := "fnExactUniformCount", unfollowed := true, recurses := true, plainKeys := false, leaving := true, apart := false }
def FnExactUniformCountSaid : Prop := fnExactUniformCountRow.holds Try.pinned (OpenSpec.ofChange fnExactUniformCountSpec)

/-- ITS FALSE NEIGHBOUR: 'it returns false'. Refute it at one input. -/
def fnExactUniformCountWrong : ChangeSpec := { name := "fnExactUniformCount", fn := fun _ => fun
  | [d] => { results := [.lit (.bool false)], args := [d] }
  | _ => none }
def FnExactUniformCountWrongFalsely : Prop := fnExactUniformCountRow.holds Try.pinned (OpenSpec.ofChange fnExactUniformCountWrong)

/-- 'laws.FnExactUseTile': WHATEVER THE INPUT: true; the input reads as it did. -/
def fnExactUseTileSpec : ChangeSpec := { name := "fnExactUseTile", fn := fun _ => fun
  | [d1, d2] => { results := [.lit (.bool true)], args := [d1, d2] }
  | _ => none }
def fnExactUseTileRow : OpenClaim := { program := "ytgphmhjnnppbnaa", sum := "0910ea3745879e52f40c54b7ddf819ca295fd531caa7c78e18731a6cb941e99a", func := "loop.example/g00809/laws.FnExactUseTile", spec := "fnExactUseTile", unfollowed := true, recurses := true, plainKeys := false, leaving := true, apart := false }
def FnExactUseTileSaid : Prop := fnExactUseTileRow.holds Try.pinned (OpenSpec.ofChange fnExactUseTileSpec)

/-- ITS FALSE NEIGHBOUR: 'it returns false'. Refute it at one input. -/
def fnExactUseTileWrong : ChangeSpec := { name := "fnExactUseTile", fn := fun _ => fun
  | [d1, d2] => { results := [.lit (.bool false)], args := [d1, d2] }
  | _ => none }
def FnExactUseTileWrongFalsely : Prop := fnExactUseTileRow.holds Try.pinned (OpenSpec.ofChange fnExactUseTileWrong)

/-- 'laws.FnCheck': WHATEVER THE INPUT: true; the input reads as it did. -/
def fnCheckSpec : ChangeSpec := { name := "fnCheck", fn := fun _ => fun
  | [d] => { results := [.lit (.bool true)], args := [d] }
  | _ => none }
def fnCheckRow : OpenClaim := { program := "ytgphmhjnnppbnaa", sum := "0910ea3745879e52f40c54b7ddf819ca295fd531caa7c78e18731a6cb941e99a", func := "loop.example/g00809/laws.FnCheck", spec := "fnCheck", unfollowed := true, recurses := true, plainKeys := false, leaving := true, apart := false }
def FnCheckSaid : Prop := fnCheckRow.holds Try.pinned (OpenSpec.ofChange fnCheckSpec)

/-- ITS FALSE NEIGHBOUR: 'it returns false'. Refute it at one input. -/
def fnCheckWrong : ChangeSpec := { name := "fnCheck", fn := fun _ => fun
  | [d] => { results := [.lit (.bool false)], args := [d] }
  | _ => none }
def FnCheckWrongFalsely : Prop := fnCheckRow.holds Try.pinned (OpenSpec.ofChange fnCheckWrong)

/-- 'laws.FnExactOptimize': WHATEVER THE INPUT: true; the input reads as it did. -/
def fnExactOptimizeSpec : ChangeSpec := { name := "fnExactOptimize", fn := fun _ => fun
  | [d] => { results := [.lit (.bool true)], args := [d] }
  | _ => none }
def fnExactOptimizeRow : OpenClaim := { program := "ytgphmhjnnppbnaa", sum := "0910ea3745879e52f40c54b7ddf819ca295fd531caa7c78e18731a6cb941e99a", func := "loop.example/g00809/laws.FnExactOptimize", spec := "fnExactOptimize", inPlace := ["slices.overlaps[loop.example/g00809/impl.Instruction]"], unfollowed := true, recurses := true, plainKeys := false, leaving := true, apart := false }
def FnExactOptimizeSaid : Prop := fnExactOptimizeRow.holds Try.pinned (OpenSpec.ofChange fnExactOptimizeSpec)

/-- ITS FALSE NEIGHBOUR: 'it returns false'. Refute it at one input. -/
def fnExactOptimizeWrong : ChangeSpec := { name := "fnExactOptimize", fn := fun _ => fun
  | [d] => { results := [.lit (.bool false)], args := [d] }
  | _ => none }
def FnExactOptimizeWrongFalsely : Prop := fnExactOptimizeRow.holds Try.pinned (OpenSpec.ofChange fnExactOptimizeWrong)

/-- 'laws.FnExactCompile': WHATEVER THE INPUT: true; the input reads as it did. -/
def fnExactCompileSpec : ChangeSpec := { name := "fnExactCompile", fn := fun _ => fun
  | [d] => { results := [.lit (.bool true)], args := [d] }
  | _ => none }
def fnExactCompileRow : OpenClaim := { program := "ytgphmhjnnppbnaa", sum := "0910ea3745879e52f40c54b7ddf819ca295fd531caa7c78e18731a6cb941e99a", func := "loop.example/g00809/laws.FnExactCompile", spec := "fnExactCompile", unfollowed := true, recurses := true, plainKeys := false, leaving := true, apart := false }
def FnExactCompileSaid : Prop := fnExactCompileRow.holds Try.pinned (OpenSpec.ofChange fnExactCompileSpec)

/-- ITS FALSE NEIGHBOUR: 'it returns false'. Refute it at one input. -/
def fnExactCompileWrong : ChangeSpec := { name := "fnExactCompile", fn := fun _ => fun
  | [d] => { results := [.lit (.bool false)], args := [d] }
  | _ => none }
def FnExactCompileWrongFalsely : Prop := fnExactCompileRow.holds Try.pinned (OpenSpec.ofChange fnExactCompileWrong)

/-- 'laws.FnExactDepthOrder': WHATEVER THE INPUT: true; the input reads as it did. -/
def fnExactDepthOrderSpec : ChangeSpec := { name := "fnExactDepthOrder", fn := fun _ => fun
  | [d1, d2] => { results := [.lit (.bool true)], args := [d1, d2] }
  | _ => none }
def fnExactDepthOrderRow : OpenClaim := { program := "ytgphmhjnnppbnaa", sum := "0910ea3745879e52f40c54b7ddf819ca295fd531caa7c78e18731a6cb941e99a", func := "loop.example/g00809/laws.FnExactDepthOrder", spec := "fnExactDepthOrder", unfollowed := true, recurses := true, plainKeys := false, leaving := true, apart := false }
def FnExactDepthOrderSaid : Prop := fnExactDepthOrderRow.holds Try.pinned (OpenSpec.ofChange fnExactDepthOrderSpec)

/-- ITS FALSE NEIGHBOUR: 'it returns false'. Refute it at one input. -/
def fnExactDepthOrderWrong : ChangeSpec := { name := "fnExactDepthOrder", fn := fun _ => fun
  | [d1, d2] => { results := [.lit (.bool false)], args := [d1, d2] }
  | _ => none }
def FnExactDepthOrderWrongFalsely : Prop := fnExactDepthOrderRow.holds Try.pinned (OpenSpec.ofChange fnExactDepthOrderWrong)

/-- 'laws.FnExactIsValidScene': WHATEVER THE INPUT: true; the input reads as it did. -/
def fnExactIsValidSceneSpec : ChangeSpec := { name := "fnExactIsValidScene", fn := fun _ => fun
  | [d] => { results := [.lit (.bool true)], args := [d] }
  | _ => none }
def fnExactIsValidSceneRow : OpenClaim := { program := "ytgphmhjnnppbnaa", sum := "0910ea3745879e52f40c54b7ddf819ca295fd531caa7c78e18731a6cb941e99a", func := "loop.example/g00809/laws.FnExactIsValidScene", spec := "fnExactIsValidScene", unfollowed := true, recurses := true, plainKeys := false, leaving := true, apart := false }
def FnExactIsValidSceneSaid : Prop := fnExactIsValidSceneRow.holds Try.pinned (OpenSpec.ofChange fnExactIsValidSceneSpec)

/-- ITS FALSE NEIGHBOUR: 'it returns false'. Refute it at one input. -/
def fnExactIsValidSceneWrong : ChangeSpec := { name := "fnExactIsValidScene", fn := fun _ => fun
  | [d] => { results := [.lit (.bool false)], args := [d] }
  | _ => none }
def FnExactIsValidSceneWrongFalsely : Prop := fnExactIsValidSceneRow.holds Try.pinned (OpenSpec.ofChange fnExactIsValidSceneWrong)

/- THE SECOND FORM. 'bulk': how many values and letters a reading holds, each counted each time it is reached (what is shared counts as often as it is met; a slice's spare places count too). A statement '..UptoSaid' is the law's where the arguments, and the package variables that the reading takes, are together of bulk at most 1048576: NARROWER than '..Said'. Prove '..Said' where nothing that the law and all that it calls make is longer than what came in: it says more and counts as full. Else prove '..UptoSaid'. A law counts once. -/
mutual
def uptoBulk {H : Type} : DataW H → Nat
  | .lit (.string bytes) => bytes.length + 1
  | .lit _ => 1
  | .nil => 1
  | .ptr d => uptoBulk d + 1
  | .slice elems spare => uptoBulkAll elems + uptoBulkAll spare + 1
  | .agg parts => uptoBulkAll parts + 1
  | .iface _ d => uptoBulk d + 1
  | .map entries => uptoBulkEntries entries + 1
  | .held _ => 1
def uptoBulkAll {H : Type} : List (DataW H) → Nat
  | [] => 0
  | d :: r => uptoBulk d + uptoBulkAll r
def uptoBulkEntries {H : Type} : List (Lit × DataW H) → Nat
  | [] => 0
  | x :: r => uptoBulkEntry x + uptoBulkEntries r
def uptoBulkEntry {H : Type} : Lit × DataW H → Nat
  | (.string bytes, d) => bytes.length + uptoBulk d + 1
  | (_, d) => uptoBulk d + 1
 end
def uptoSmall : (H : Type) → List (DataW H) → Bool := fun _ ds => decide (uptoBulkAll ds ≤ 1048576)
def OpenSpec.upto (s : _root_.Go.ChangeSpec) : _root_.Go.OpenSpec := { _root_.Go.OpenSpec.ofChange s with cond := some uptoSmall }

/-- 'laws.FnExactBucketsOf', WHERE WHAT IT READS IS OF BULK AT MOST 1048576: true; the input reads as it did. -/
def fnExactBucketsOfUptoRow : OpenClaim := { program := "ytgphmhjnnppbnaa", sum := "0910ea3745879e52f40c54b7ddf819ca295fd531caa7c78e18731a6cb941e99a", func := "loop.example/g00809/laws.FnExactBucketsOf", spec := "fnExactBucketsOf", unfollowed := true, recurses := true, plainKeys := false, leaving := true, apart := false, narrowed := true }
def FnExactBucketsOfUptoSaid : Prop := fnExactBucketsOfUptoRow.holds Try.pinned (OpenSpec.upto fnExactBucketsOfSpec)

/-- 'laws.FnExactGridOf', WHERE WHAT IT READS IS OF BULK AT MOST 1048576: true; the input reads as it did. -/
def fnExactGridOfUptoRow : OpenClaim := { program := "ytgphmhjnnppbnaa", sum := "0910ea3745879e52f40c54b7ddf819ca295fd531caa7c78e18731a6cb941e99a", func := "loop.example/g00809/laws.FnExactGridOf", spec := "fnExactGridOf", unfollowed := true, recurses := true, plainKeys := false, leaving := true, apart := false, narrowed := true }
def FnExactGridOfUptoSaid : Prop := fnExactGridOfUptoRow.holds Try.pinned (OpenSpec.upto fnExactGridOfSpec)

/-- 'laws.FnExactSameScene', WHERE WHAT IT READS IS OF BULK AT MOST 1048576: true; the input reads as it did. -/
def fnExactSameSceneUptoRow : OpenClaim := { program := "ytgphmhjnnppbnaa", sum := "0910ea3745879e52f40c54b7ddf819ca295fd531caa7c78e18731a6cb941e99a", func := "loop.example/g00809/laws.FnExactSameScene", spec := "fnExactSameScene", unfollowed := true, recurses := true, plainKeys := false, leaving := true, apart := false, narrowed := true }
def FnExactSameSceneUptoSaid : Prop := fnExactSameSceneUptoRow.holds Try.pinned (OpenSpec.upto fnExactSameSceneSpec)

/-- 'laws.FnExactIsUniform', WHERE WHAT IT READS IS OF BULK AT MOST 1048576: true; the input reads as it did. -/
def fnExactIsUniformUptoRow : OpenClaim := { program := "ytgphmhjnnppbnaa", sum := "0910ea3745879e52f40c54b7ddf819ca295fd531caa7c78e18731a6cb941e99a", func := "loop.example/g00809/laws.FnExactIsUniform", spec := "fnExactIsUniform", unfollowed := true, recurses := true, plainKeys := false, leaving := true, apart := false, narrowed := true }
def FnExactIsUniformUptoSaid : Prop := fnExactIsUniformUptoRow.holds Try.pinned (OpenSpec.upto fnExactIsUniformSpec)

/-- 'laws.FnExactUniformCount', WHERE WHAT IT READS IS OF BULK AT MOST 1048576: true; the input reads as it did. -/
def fnExactUniformCountUptoRow : OpenClaim := { program := "ytgphmhjnnppbnaa", sum := "0910ea3745879e52f40c54b7ddf819ca295fd531caa7c78e18731a6cb941e99a", func := "loop.example/g00809/laws.FnExactUniformCount", spec := "fnExactUniformCount", unfollowed := true, recurses := true, plainKeys := false, leaving := true, apart := false, narrowed := true }
def FnExactUniformCountUptoSaid : Prop := fnExactUniformCountUptoRow.holds Try.pinned (OpenSpec.upto fnExactUniformCountSpec)

/-- 'laws.FnExactUseTile', WHERE WHAT IT READS IS OF BULK AT MOST 1048576: true; the input reads as it did. -/
def fnExactUseTileUptoRow : OpenClaim := { program := "ytgphmhjnnppbnaa", sum := "0910ea3745879e52f40c54b7ddf819ca295fd531caa7c78e18731a6cb941e99a", func := "loop.example/g00809/laws.FnExactUseTile", spec := "fnExactUseTile", unfollowed := true, recurses := true, plainKeys := false, leaving := true, apart := false, narrowed := true }
def FnExactUseTileUptoSaid : Prop := fnExactUseTileUptoRow.holds Try.pinned (OpenSpec.upto fnExactUseTileSpec)

/-- 'laws.FnCheck', WHERE WHAT IT READS IS OF BULK AT MOST 1048576: true; the input reads as it did. -/
def fnCheckUptoRow : OpenClaim := { program := "ytgphmhjnnppbnaa", sum := "0910ea3745879e52f40c54b7ddf819ca295fd531caa7c78e18731a6cb941e99a", func := "loop.example/g00809/laws.FnCheck", spec := "fnCheck", unfollowed := true, recurses := true, plainKeys := false, leaving := true, apart := false, narrowed := true }
def FnCheckUptoSaid : Prop := fnCheckUptoRow.holds Try.pinned (OpenSpec.upto fnCheckSpec)

/-- 'laws.FnExactOptimize', WHERE WHAT IT READS IS OF BULK AT MOST 1048576: true; the input reads as it did. -/
def fnExactOptimizeUptoRow : OpenClaim := { program := "ytgphmhjnnppbnaa", sum := "0910ea3745879e52f40c54b7ddf819ca295fd531caa7c78e18731a6cb941e99a", func := "loop.example/g00809/laws.FnExactOptimize", spec := "fnExactOptimize", inPlace := ["slices.overlaps[loop.example/g00809/impl.Instruction]"], unfollowed := true, recurses := true, plainKeys := false, leaving := true, apart := false, narrowed := true }
def FnExactOptimizeUptoSaid : Prop := fnExactOptimizeUptoRow.holds Try.pinned (OpenSpec.upto fnExactOptimizeSpec)

/-- 'laws.FnExactCompile', WHERE WHAT IT READS IS OF BULK AT MOST 1048576: true; the input reads as it did. -/
def fnExactCompileUptoRow : OpenClaim := { program := "ytgphmhjnnppbnaa", sum := "0910ea3745879e52f40c54b7ddf819ca295fd531caa7c78e18731a6cb941e99a", func := "loop.example/g00809/laws.FnExactCompile", spec := "fnExactCompile", unfollowed := true, recurses := true, plainKeys := false, leaving := true, apart := false, narrowed := true }
def FnExactCompileUptoSaid : Prop := fnExactCompileUptoRow.holds Try.pinned (OpenSpec.upto fnExactCompileSpec)

/-- 'laws.FnExactDepthOrder', WHERE WHAT IT READS IS OF BULK AT MOST 1048576: true; the input reads as it did. -/
def fnExactDepthOrderUptoRow : OpenClaim := { program := "ytgphmhjnnppbnaa", sum := "0910ea3745879e52f40c54b7ddf819ca295fd531caa7c78e18731a6cb941e99a", func := "loop.example/g00809/laws.FnExactDepthOrder", spec := "fnExactDepthOrder", unfollowed := true, recurses := true, plainKeys := false, leaving := true, apart := false, narrowed := true }
def FnExactDepthOrderUptoSaid : Prop := fnExactDepthOrderUptoRow.holds Try.pinned (OpenSpec.upto fnExactDepthOrderSpec)

/-- 'laws.FnExactIsValidScene', WHERE WHAT IT READS IS OF BULK AT MOST 1048576: true; the input reads as it did. -/
def fnExactIsValidSceneUptoRow : OpenClaim := { program := "ytgphmhjnnppbnaa", sum := "0910ea3745879e52f40c54b7ddf819ca295fd531caa7c78e18731a6cb941e99a", func := "loop.example/g00809/laws.FnExactIsValidScene", spec := "fnExactIsValidScene", unfollowed := true, recurses := true, plainKeys := false, leaving := true, apart := false, narrowed := true }
def FnExactIsValidSceneUptoSaid : Prop := fnExactIsValidSceneUptoRow.holds Try.pinned (OpenSpec.upto fnExactIsValidSceneSpec)

end Rows
end Go.Proofs.Ytgphmhjnnppbnaa
