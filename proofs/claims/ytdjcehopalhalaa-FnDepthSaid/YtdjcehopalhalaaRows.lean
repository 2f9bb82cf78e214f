/-
  No cell of these rows narrows 'for every input' (looked for: loops, veiled, ifaces, maps, wideKeys, modest, calm, conditions, laid).
  DERIVED. THE GIVEN ROWS OF THIS SEAT. 15 by the template 'for every input the law returns true; each argument reads behind the call as it read before'; 0 by the template 'total and deterministic' (their statements: YtdjcehopalhalaaTotals.lean).
  GIVEN WITH THE SEED: the statements are not yours to turn. If you find one false, say at which input.
  Laid BY PROGRAM, IN A SANDBOX (cutbox-rows.mjs): the forced cells as the released guide's own fill.sh prints them over the translation c5f0066ff562e64e… (all of the seat's roots in one cut). By AI agents, Wed Nov 11 2026. No macro, syntax, notation, axiom, sorry.
-/
import Derived.Test.YtdjcehopalhalaaChecked
import GoSem.Claim
import GoSem.ClaimJoined
import GoSem.ClaimMapViews
import Derived.JoinedTies
import Derived.KernelRfl
namespace Go.Proofs.Ytdjcehopalhalaa
/- THE CELL 'sum', in the pinned program and in every row, IS THE sha256 OF THE DUMP (.gsa) THAT YtdjcehopalhalaaProg.lean LOADS. Nothing in Lean hashes anything: it is a label: what it is worth is what the hold of that sum in a sandbox is worth. -/
noncomputable def Try.pinned : Pinned := { name := "ytdjcehopalhalaa", sum := "c5f0066ff562e64eaa79631535726fd0c8ad44c00977c5edf4f694d762eb1ab7", checked := Try.checked }
namespace Rows
def none {H : Type} : Left H := { results := [], args := [] }

/-- 'laws.FnDerivatives': WHATEVER THE INPUT: true; the input reads as it did. -/
def fnDerivativesSpec : ChangeSpec := { name := "fnDerivatives", fn := fun _ => fun
  | [d] => { results := [.lit (.bool true)], args := [d] }
  | _ => none }
def fnDerivativesRow : OpenClaim := { program := "ytdjcehopalhalaa", sum := "c5f0066ff562e64eaa79631535726fd0c8ad44c00977c5edf4f694d762eb1ab7", func := "loop.example/g00809/laws.FnDerivatives", spec := "fnDerivatives", apart := false }
def FnDerivativesSaid : Prop := fnDerivativesRow.holds Try.pinned (OpenSpec.ofChange fnDerivativesSpec)

/-- ITS FALSE NEIGHBOUR: 'it returns false'. Refute it at one input. -/
def fnDerivativesWrong : ChangeSpec := { name := "fnDerivatives", fn := fun _ => fun
  | [d] => { results := [.lit (.bool false)], args := [d] }
  | _ => none }
def FnDerivativesWrongFalsely : Prop := fnDerivativesRow.holds Try.pinned (OpenSpec.ofChange fnDerivativesWrong)

/-- 'laws.FnRaster': WHATEVER THE INPUT: true; the input reads as it did. -/
def fnRasterSpec : ChangeSpec := { name := "fnRaster", fn := fun _ => fun
  | [d] => { results := [.lit (.bool true)], args := [d] }
  | _ => none }
def fnRasterRow : OpenClaim := { program := "ytdjcehopalhalaa", sum := "c5f0066ff562e64eaa79631535726fd0c8ad44c00977c5edf4f694d762eb1ab7", func := "loop.example/g00809/laws.FnRaster", spec := "fnRaster", unfollowed := true, recurses := true, apart := false }
def FnRasterSaid : Prop := fnRasterRow.holds Try.pinned (OpenSpec.ofChange fnRasterSpec)

/-- ITS FALSE NEIGHBOUR: 'it returns false'. Refute it at one input. -/
def fnRasterWrong : ChangeSpec := { name := "fnRaster", fn := fun _ => fun
  | [d] => { results := [.lit (.bool false)], args := [d] }
  | _ => none }
def FnRasterWrongFalsely : Prop := fnRasterRow.holds Try.pinned (OpenSpec.ofChange fnRasterWrong)

/-- 'laws.FnExactDifferences': WHATEVER THE INPUT: true; the input reads as it did. -/
def fnExactDifferencesSpec : ChangeSpec := { name := "fnExactDifferences", fn := fun _ => fun
  | [d1, d2, d3] => { results := [.lit (.bool true)], args := [d1, d2, d3] }
  | _ => none }
def fnExactDifferencesRow : OpenClaim := { program := "ytdjcehopalhalaa", sum := "c5f0066ff562e64eaa79631535726fd0c8ad44c00977c5edf4f694d762eb1ab7", func := "loop.example/g00809/laws.FnExactDifferences", spec := "fnExactDifferences", apart := false }
def FnExactDifferencesSaid : Prop := fnExactDifferencesRow.holds Try.pinned (OpenSpec.ofChange fnExactDifferencesSpec)

/-- ITS FALSE NEIGHBOUR: 'it returns false'. Refute it at one input. -/
def fnExactDifferencesWrong : ChangeSpec := { name := "fnExactDifferences", fn := fun _ => fun
  | [d1, d2, d3] => { results := [.lit (.bool false)], args := [d1, d2, d3] }
  | _ => none }
def FnExactDifferencesWrongFalsely : Prop := fnExactDifferencesRow.holds Try.pinned (OpenSpec.ofChange fnExactDifferencesWrong)

/-- 'laws.FnFragments': WHATEVER THE INPUT: true; the input reads as it did. -/
def fnFragmentsSpec : ChangeSpec := { name := "fnFragments", fn := fun _ => fun
  | [d] => { results := [.lit (.bool true)], args := [d] }
  | _ => none }
def fnFragmentsRow : OpenClaim := { program := "ytdjcehopalhalaa", sum := "c5f0066ff562e64eaa79631535726fd0c8ad44c00977c5edf4f694d762eb1ab7", func := "loop.example/g00809/laws.FnFragments", spec := "fnFragments", unfollowed := true, recurses := true, apart := false }
def FnFragmentsSaid : Prop := fnFragmentsRow.holds Try.pinned (OpenSpec.ofChange fnFragmentsSpec)

/-- ITS FALSE NEIGHBOUR: 'it returns false'. Refute it at one input. -/
def fnFragmentsWrong : ChangeSpec := { name := "fnFragments", fn := fun _ => fun
  | [d] => { results := [.lit (.bool false)], args := [d] }
  | _ => none }
def FnFragmentsWrongFalsely : Prop := fnFragmentsRow.holds Try.pinned (OpenSpec.ofChange fnFragmentsWrong)

/-- 'laws.FnExactCountInstructions': WHATEVER THE INPUT: true; the input reads as it did. -/
def fnExactCountInstructionsSpec : ChangeSpec := { name := "fnExactCountInstructions", fn := fun _ => fun
  | [d1, d2] => { results := [.lit (.bool true)], args := [d1, d2] }
  | _ => none }
def fnExactCountInstructionsRow : OpenClaim := { program := "ytdjcehopalhalaa", sum := "c5f0066ff562e64eaa79631535726fd0c8ad44c00977c5edf4f694d762eb1ab7", func := "loop.example/g00809/laws.FnExactCountInstructions", spec := "fnExactCountInstructions", apart := false }
def FnExactCountInstructionsSaid : Prop := fnExactCountInstructionsRow.holds Try.pinned (OpenSpec.ofChange fnExactCountInstructionsSpec)

/-- ITS FALSE NEIGHBOUR: 'it returns false'. Refute it at one input. -/
def fnExactCountInstructionsWrong : ChangeSpec := { name := "fnExactCountInstructions", fn := fun _ => fun
  | [d1, d2] => { results := [.lit (.bool false)], args := [d1, d2] }
  | _ => none }
def FnExactCountInstructionsWrongFalsely : Prop := fnExactCountInstructionsRow.holds Try.pinned (OpenSpec.ofChange fnExactCountInstructionsWrong)

/-- 'laws.FnExactSameCode': WHATEVER THE INPUT: true; the input reads as it did. -/
def fnExactSameCodeSpec : ChangeSpec := { name := "fnExactSameCode", fn := fun _ => fun
  | [d1, d2] => { results := [.lit (.bool true)], args := [d1, d2] }
  | _ => none }
def fnExactSameCodeRow : OpenClaim := { program := "ytdjcehopalhalaa", sum := "c5f0066ff562e64eaa79631535726fd0c8ad44c00977c5edf4f694d762eb1ab7", func := "loop.example/g00809/laws.FnExactSameCode", spec := "fnExactSameCode", apart := false }
def FnExactSameCodeSaid : Prop := fnExactSameCodeRow.holds Try.pinned (OpenSpec.ofChange fnExactSameCodeSpec)

/-- ITS FALSE NEIGHBOUR: 'it returns false'. Refute it at one input. -/
def fnExactSameCodeWrong : ChangeSpec := { name := "fnExactSameCode", fn := fun _ => fun
  | [d1, d2] => { results := [.lit (.bool false)], args := [d1, d2] }
  | _ => none }
def FnExactSameCodeWrongFalsely : Prop := fnExactSameCodeRow.holds Try.pinned (OpenSpec.ofChange fnExactSameCodeWrong)

/-- 'laws.FnComposite': WHATEVER THE INPUT: true; the input reads as it did. -/
def fnCompositeSpec : ChangeSpec := { name := "fnComposite", fn := fun _ => fun
  | [d] => { results := [.lit (.bool true)], args := [d] }
  | _ => none }
def fnCompositeRow : OpenClaim := { program := "ytdjcehopalhalaa", sum := "c5f0066ff562e64eaa79631535726fd0c8ad44c00977c5edf4f694d762eb1ab7", func := "loop.example/g00809/laws.FnComposite", spec := "fnComposite", unfollowed := true, recurses := true, apart := false }
def FnCompositeSaid : Prop := fnCompositeRow.holds Try.pinned (OpenSpec.ofChange fnCompositeSpec)

/-- ITS FALSE NEIGHBOUR: 'it returns false'. Refute it at one input. -/
def fnCompositeWrong : ChangeSpec := { name := "fnComposite", fn := fun _ => fun
  | [d] => { results := [.lit (.bool false)], args := [d] }
  | _ => none }
def FnCompositeWrongFalsely : Prop := fnCompositeRow.holds Try.pinned (OpenSpec.ofChange fnCompositeWrong)

/-- 'laws.FnExactInsertFragment': WHATEVER THE INPUT: true; the input reads as it did. -/
def fnExactInsertFragmentSpec : ChangeSpec := { name := "fnExactInsertFragment", fn := fun _ => fun
  | [d1, d2] => { results := [.lit (.bool true)], args := [d1, d2] }
  | _ => none }
def fnExactInsertFragmentRow : OpenClaim := { program := "ytdjcehopalhalaa", sum := "c5f0066ff562e64eaa79631535726fd0c8ad44c00977c5edf4f694d762eb1ab7", func := "loop.example/g00809/laws.FnExactInsertFragment", spec := "fnExactInsertFragment", unfollowed := true, recurses := true, apart := false }
def FnExactInsertFragmentSaid : Prop := fnExactInsertFragmentRow.holds Try.pinned (OpenSpec.ofChange fnExactInsertFragmentSpec)

/-- ITS FALSE NEIGHBOUR: 'it returns false'. Refute it at one input. -/
def fnExactInsertFragmentWrong : ChangeSpec := { name := "fnExactInsertFragment", fn := fun _ => fun
  | [d1, d2] => { results := [.lit (.bool false)], args := [d1, d2] }
  | _ => none }
def FnExactInsertFragmentWrongFalsely : Prop := fnExactInsertFragmentRow.holds Try.pinned (OpenSpec.ofChange fnExactInsertFragmentWrong)

/-- 'laws.FnDepth': WHATEVER THE INPUT: true; the input reads as it did. -/
def fnDepthSpec : ChangeSpec := { name := "fnDepth", fn := fun _ => fun
  | [d] => { results := [.lit (.bool true)], args := [d] }
  | _ => none }
def fnDepthRow : OpenClaim := { program := "ytdjcehopalhalaa", sum := "c5f0066ff562e64eaa79631535726fd0c8ad44c00977c5edf4f694d762eb1ab7", func := "loop.example/g00809/laws.FnDepth", spec := "fnDepth", unfollowed := true, recurses := true, apart := false }
def FnDepthSaid : Prop := fnDepthRow.holds Try.pinned (OpenSpec.ofChange fnDepthSpec)

/-- ITS FALSE NEIGHBOUR: 'it returns false'. Refute it at one input. -/
def fnDepthWrong : ChangeSpec := { name := "fnDepth", fn := fun _ => fun
  | [d] => { results := [.lit (.bool false)], args := [d] }
  | _ => none }
def FnDepthWrongFalsely : Prop := fnDepthRow.holds Try.pinned (OpenSpec.ofChange fnDepthWrong)

/-- 'laws.FnExactScreenBounds': WHATEVER THE INPUT: true; the input reads as it did. -/
def fnExactScreenBoundsSpec : ChangeSpec := { name := "fnExactScreenBounds", fn := fun _ => fun
  | [d1, d2] => { results := [.lit (.bool true)], args := [d1, d2] }
  | _ => none }
def fnExactScreenBoundsRow : OpenClaim := { program := "ytdjcehopalhalaa", sum := "c5f0066ff562e64eaa79631535726fd0c8ad44c00977c5edf4f694d762eb1ab7", func := "loop.example/g00809/laws.FnExactScreenBounds", spec := "fnExactScreenBounds", unfollowed := true, recurses := true, apart := false }
def FnExactScreenBoundsSaid : Prop := fnExactScreenBoundsRow.holds Try.pinned (OpenSpec.ofChange fnExactScreenBoundsSpec)

/-- ITS FALSE NEIGHBOUR: 'it returns false'. Refute it at one input. -/
def fnExactScreenBoundsWrong : ChangeSpec := { name := "fnExactScreenBounds", fn := fun _ => fun
  | [d1, d2] => { results := [.lit (.bool false)], args := [d1, d2] }
  | _ => none }
def FnExactScreenBoundsWrongFalsely : Prop := fnExactScreenBoundsRow.holds Try.pinned (OpenSpec.ofChange fnExactScreenBoundsWrong)

/-- 'laws.FnExactIsValidGrid': WHATEVER THE INPUT: true; the input reads as it did. -/
def fnExactIsValidGridSpec : ChangeSpec := { name := "fnExactIsValidGrid", fn := fun _ => fun
  | [d] => { results := [.lit (.bool true)], args := [d] }
  | _ => none }
def fnExactIsValidGridRow : OpenClaim := { program := "ytdjcehopalhalaa", sum := "c5f0066ff562e64eaa79631535726fd0c8ad44c00977c5edf4f694d762eb1ab7", func := "loop.example/g00809/laws.FnExactIsValidGrid", spec := "fnExactIsValidGrid", apart := false }
def FnExactIsValidGridSaid : Prop := fnExactIsValidGridRow.holds Try.pinned (OpenSpec.ofChange fnExactIsValidGridSpec)

/-- ITS FALSE NEIGHBOUR: 'it returns false'. Refute it at one input. -/
def fnExactIsValidGridWrong : ChangeSpec := { name := "fnExactIsValidGrid", fn := fun _ => fun
  | [d] => { results := [.lit (.bool false)], args := [d] }
  | _ => none }
def FnExactIsValidGridWrongFalsely : Prop := fnExactIsValidGridRow.holds Try.pinned (OpenSpec.ofChange fnExactIsValidGridWrong)

/-- 'laws.FnExactStackDepth': WHATEVER THE INPUT: true; the input reads as it did. -/
def fnExactStackDepthSpec : ChangeSpec := { name := "fnExactStackDepth", fn := fun _ => fun
  | [d] => { results := [.lit (.bool true)], args := [d] }
  | _ => none }
def fnExactStackDepthRow : OpenClaim := { program := "ytdjcehopalhalaa", sum := "c5f0066ff562e64eaa79631535726fd0c8ad44c00977c5edf4f694d762eb1ab7", func := "loop.example/g00809/laws.FnExactStackDepth", spec := "fnExactStackDepth", apart := false }
def FnExactStackDepthSaid : Prop := fnExactStackDepthRow.holds Try.pinned (OpenSpec.ofChange fnExactStackDepthSpec)

/-- ITS FALSE NEIGHBOUR: 'it returns false'. Refute it at one input. -/
def fnExactStackDepthWrong : ChangeSpec := { name := "fnExactStackDepth", fn := fun _ => fun
  | [d] => { results := [.lit (.bool false)], args := [d] }
  | _ => none }
def FnExactStackDepthWrongFalsely : Prop := fnExactStackDepthRow.holds Try.pinned (OpenSpec.ofChange fnExactStackDepthWrong)

/-- 'laws.FnExactIsOutside': WHATEVER THE INPUT: true; the input reads as it did. -/
def fnExactIsOutsideSpec : ChangeSpec := { name := "fnExactIsOutside", fn := fun _ => fun
  | [d1, d2] => { results := [.lit (.bool true)], args := [d1, d2] }
  | _ => none }
def fnExactIsOutsideRow : OpenClaim := { program := "ytdjcehopalhalaa", sum := "c5f0066ff562e64eaa79631535726fd0c8ad44c00977c5edf4f694d762eb1ab7", func := "loop.example/g00809/laws.FnExactIsOutside", spec := "fnExactIsOutside", unfollowed := true, recurses := true, apart := false }
def FnExactIsOutsideSaid : Prop := fnExactIsOutsideRow.holds Try.pinned (OpenSpec.ofChange fnExactIsOutsideSpec)

/-- ITS FALSE NEIGHBOUR: 'it returns false'. Refute it at one input. -/
def fnExactIsOutsideWrong : ChangeSpec := { name := "fnExactIsOutside", fn := fun _ => fun
  | [d1, d2] => { results := [.lit (.bool false)], args := [d1, d2] }
  | _ => none }
def FnExactIsOutsideWrongFalsely : Prop := fnExactIsOutsideRow.holds Try.pinned (OpenSpec.ofChange fnExactIsOutsideWrong)

/-- 'laws.FnExactGridOf': WHATEVER THE INPUT: true; the input reads as it did. -/
def fnExactGridOfSpec : ChangeSpec := { name := "fnExactGridOf", fn := fun _ => fun
  | [d1, d2, d3, d4] => { results := [.lit (.bool true)], args := [d1, d2, d3, d4] }
  | _ => none }
def fnExactGridOfRow : OpenClaim := { program := "ytdjcehopalhalaa", sum := "c5f0066ff562e64eaa79631535726fd0c8ad44c00977c5edf4f694d762eb1ab7", func := "loop.example/g00809/laws.FnExactGridOf", spec := "fnExactGridOf", unfollowed := true, recurses := true, apart := false }
def FnExactGridOfSaid : Prop := fnExactGridOfRow.holds Try.pinned (OpenSpec.ofChange fnExactGridOfSpec)

/-- ITS FALSE NEIGHBOUR: 'it returns false'. Refute it at one input. -/
def fnExactGridOfWrong : ChangeSpec := { name := "fnExactGridOf", fn := fun _ => fun
  | [d1, d2, d3, d4] => { results := [.lit (.bool false)], args := [d1, d2, d3, d4] }
  | _ => none }
def FnExactGridOfWrongFalsely : Prop := fnExactGridOfRow.holds Try.pinned (OpenSpec.ofChange fnExactGridOfWrong)

/-- 'laws.FnExactSameScene': WHATEVER THE INPUT: true; the input reads as it did. -/
def fnExactSameSceneSpec : ChangeSpec := { name := "fnExactSameScene", fn := fun _ => fun
  | [d1, d2] => { results := [.lit (.bool true)], args := [d1, d2] }
  | _ => none }
def fnExactSameSceneRow : OpenClaim := { program := "ytdjcehopalhalaa", sum := "c5f0066ff562e64eaa79631535726fd0c8ad44c00977c5edf4f694d762eb1ab7", func := "loop.example/g00809/laws.FnExactSameScene", spec := "fnExactSameScene", unfollowed := true, recurses := true, apart := false }
def FnExactSameSceneSaid : Prop := fnExactSameSceneRow.holds Try.pinned (OpenSpec.ofChange fnExactSameSceneSpec)

/-- ITS FALSE NEIGHBOUR: 'it returns false'. Refute it at one input. -/
def fnExactSameSceneWrong : ChangeSpec := { name := "fnExactSameScene", fn := fun _ => fun
  | [d1, d2] => { results := [.lit (.bool false)], args := [d1, d2] }
  | _ => none }
def FnExactSameSceneWrongFalsely : Prop := fnExactSameSceneRow.holds Try.pinned (OpenSpec.ofChange fnExactSameSceneWrong)

/- THE SECOND FORM. 'bulk': how many values and letters a reading holds, each counted each time it is reached (what is shared counts as often as it is met; a slice's spare places count too). A statement '..UptoSaid' is the law's where the arguments, and the package variables that the reading takes, are together of bulk at most 1048576: NARROWER than '..Said'. Prove '..Said' where nothing that the law and all that it calls make is longer than what came in: it says more and counts as full. Else prove '..UptoSaid'. A law counts once. -/
mutual
def uptoBulk {H : Type} : DataW H → Nat
  | .lit (.string bytes) => bytes.length + 1
  | .lit _ => 1
  | .nil => 1
  | .ptr d => uptoBulk d + 1
  | .slice elems spare => uptoBulkAll elems + uptoBulkAll spare + 1
  | .agg parts => uptoBulkAll parts + 1
  | .iface _ d => uptoBulk d + 1
  | .map entries => uptoBulkEntries entries + 1
  | .held _ => 1
def uptoBulkAll {H : Type} : List (DataW H) → Nat
  | [] => 0
  | d :: r => uptoBulk d + uptoBulkAll r
def uptoBulkEntries {H : Type} : List (Lit × DataW H) → Nat
  | [] => 0
  | x :: r => uptoBulkEntry x + uptoBulkEntries r
def uptoBulkEntry {H : Type} : Lit × DataW H → Nat
  | (.string bytes, d) => bytes.length + uptoBulk d + 1
  | (_, d) => uptoBulk d + 1
 end
def uptoSmall : (H : Type) → List (DataW H) → Bool := fun _ ds => decide (uptoBulkAll ds ≤ 1048576)
def OpenSpec.upto (s : _root_.Go.ChangeSpec) : _root_.Go.OpenSpec := { _root_.Go.OpenSpec.ofChange s with cond := some uptoSmall }

/-- 'laws.FnDerivatives', WHERE WHAT IT READS IS OF BULK AT MOST 1048576: true; the input reads as it did. -/
def fnDerivativesUptoRow : OpenClaim := { program := "ytdjcehopalhalaa", sum := "c5f0066ff562e64eaa79631535726fd0c8ad44c00977c5edf4f694d762eb1ab7", func := "loop.example/g00809/laws.FnDerivatives", spec := "fnDerivatives", apart := false, narrowed := true }
def FnDerivativesUptoSaid : Prop := fnDerivativesUptoRow.holds Try.pinned (OpenSpec.upto fnDerivativesSpec)

/-- 'laws.FnRaster', WHERE WHAT IT READS IS OF BULK AT MOST 1048576: true; the input reads as it did. -/
def fnRasterUptoRow : OpenClaim := { program := "ytdjcehopalhalaa", sum := "c5f0066ff562e64eaa79631535726fd0c8ad44c00977c5edf4f694d762eb1ab7", func := "loop.example/g00809/laws.FnRaster", spec := "fnRaster", unfollowed := true, recurses := true, apart := false, narrowed := true }
def FnRasterUptoSaid : Prop := fnRasterUptoRow.holds Try.pinned (OpenSpec.upto fnRasterSpec)

/-- 'laws.FnExactDifferences', WHERE WHAT IT READS IS OF BULK AT MOST 1048576: true; the input reads as it did. -/
def fnExactDifferencesUptoRow : OpenClaim := { program := "ytdjcehopalhalaa", sum := "c5f0066ff562e64eaa79631535726fd0c8ad44c00977c5edf4f694d762eb1ab7", func := "loop.example/g00809/laws.FnExactDifferences", spec := "fnExactDifferences", apart := false, narrowed := true }
def FnExactDifferencesUptoSaid : Prop := fnExactDifferencesUptoRow.holds Try.pinned (OpenSpec.upto fnExactDifferencesSpec)

/-- 'laws.FnFragments', WHERE WHAT IT READS IS OF BULK AT MOST 1048576: true; the input reads as it did. -/
def fnFragmentsUptoRow : OpenClaim := { program := "ytdjcehopalhalaa", sum := "c5f0066ff562e64eaa79631535726fd0c8ad44c00977c5edf4f694d762eb1ab7", func := "loop.example/g00809/laws.FnFragments", spec := "fnFragments", unfollowed := true, recurses := true, apart := false, narrowed := true }
def FnFragmentsUptoSaid : Prop := fnFragmentsUptoRow.holds Try.pinned (OpenSpec.upto fnFragmentsSpec)

/-- 'laws.FnExactCountInstructions', WHERE WHAT IT READS IS OF BULK AT MOST 1048576: true; the input reads as it did. -/
def fnExactCountInstructionsUptoRow : OpenClaim := { program := "ytdjcehopalhalaa", sum := "c5f0066ff562e64eaa79631535726fd0c8ad44c00977c5edf4f694d762eb1ab7", func := "loop.example/g00809/laws.FnExactCountInstructions", spec := "fnExactCountInstructions", apart := false, narrowed := true }
def FnExactCountInstructionsUptoSaid : Prop := fnExactCountInstructionsUptoRow.holds Try.pinned (OpenSpec.upto fnExactCountInstructionsSpec)

/-- 'laws.FnExactSameCode', WHERE WHAT IT READS IS OF BULK AT MOST 1048576: true; the input reads as it did. -/
def fnExactSameCodeUptoRow : OpenClaim := { program := "ytdjcehopalhalaa", sum := "c5f0066ff562e64eaa79631535726fd0c8ad44c00977c5edf4f694d762eb1ab7", func := "loop.example/g00809/laws.FnExactSameCode", spec := "fnExactSameCode", apart := false, narrowed := true }
def FnExactSameCodeUptoSaid : Prop := fnExactSameCodeUptoRow.holds Try.pinned (OpenSpec.upto fnExactSameCodeSpec)

/-- 'laws.FnComposite', WHERE WHAT IT READS IS OF BULK AT MOST 1048576: true; the input reads as it did. -/
def fnCompositeUptoRow : OpenClaim := { program := "ytdjcehopalhalaa", sum := "c5f0066ff562e64eaa79631535726fd0c8ad44c00977c5edf4f694d762eb1ab7", func := "loop.example/g00809/laws.FnComposite", spec := "fnComposite", unfollowed := true, recurses := true, apart := false, narrowed := true }
def FnCompositeUptoSaid : Prop := fnCompositeUptoRow.holds Try.pinned (OpenSpec.upto fnCompositeSpec)

/-- 'laws.FnExactInsertFragment', WHERE WHAT IT READS IS OF BULK AT MOST 1048576: true; the input reads as it did. -/
def fnExactInsertFragmentUptoRow : OpenClaim := { program := "ytdjcehopalhalaa", sum := "c5f0066ff562e64eaa79631535726fd0c8ad44c00977c5edf4f694d762eb1ab7", func := "loop.example/g00809/laws.FnExactInsertFragment", spec := "fnExactInsertFragment", unfollowed := true, recurses := true, apart := false, narrowed := true }
def FnExactInsertFragmentUptoSaid : Prop := fnExactInsertFragmentUptoRow.holds Try.pinned (OpenSpec.upto fnExactInsertFragmentSpec)

/-- 'laws.FnDepth', WHERE WHAT IT READS IS OF BULK AT MOST 1048576: true; the input reads as it did. -/
def fnDepthUptoRow : OpenClaim := { program := "ytdjcehopalhalaa", sum := "c5f0066ff562e64eaa79631535726fd0c8ad44c00977c5edf4f694d762eb1ab7", func := "loop.example/g00809/laws.FnDepth", spec := "fnDepth", unfollowed := true, recurses := true, apart := false, narrowed := true }
def FnDepthUptoSaid : Prop := fnDepthUptoRow.holds Try.pinned (OpenSpec.upto fnDepthSpec)

/-- 'laws.FnExactScreenBounds', WHERE WHAT IT READS IS OF BULK AT MOST 1048576: true; the input reads as it did. -/
def fnExactScreenBoundsUptoRow : OpenClaim := { program := "ytdjcehopalhalaa", sum := "c5f0066ff562e64eaa79631535726fd0c8ad44c00977c5edf4f694d762eb1ab7", func := "loop.example/g00809/laws.FnExactScreenBounds", spec := "fnExactScreenBounds", unfollowed := true, recurses := true, apart := false, narrowed := true }
def FnExactScreenBoundsUptoSaid : Prop := fnExactScreenBoundsUptoRow.holds Try.pinned (OpenSpec.upto fnExactScreenBoundsSpec)

/-- 'laws.FnExactIsValidGrid', WHERE WHAT IT READS IS OF BULK AT MOST 1048576: true; the input reads as it did. -/
def fnExactIsValidGridUptoRow : OpenClaim := { program := "ytdjcehopalhalaa", sum := "c5f0066ff562e64eaa79631535726fd0c8ad44c00977c5edf4f694d762eb1ab7", func := "loop.example/g00809/laws.FnExactIsValidGrid", spec := "fnExactIsValidGrid", apart := false, narrowed := true }
def FnExactIsValidGridUptoSaid : Prop := fnExactIsValidGridUptoRow.holds Try.pinned (OpenSpec.upto fnExactIsValidGridSpec)

/-- 'laws.FnExactStackDepth', WHERE WHAT IT READS IS OF BULK AT MOST 1048576: true; the input reads as it did. -/
def fnExactStackDepthUptoRow : OpenClaim := { program := "ytdjcehopalhalaa", sum := "c5f0066ff562e64eaa79631535726fd0c8ad44c00977c5edf4f694d762eb1ab7", func := "loop.example/g00809/laws.FnExactStackDepth", spec := "fnExactStackDepth", apart := false, narrowed := true }
def FnExactStackDepthUptoSaid : Prop := fnExactStackDepthUptoRow.holds Try.pinned (OpenSpec.upto fnExactStackDepthSpec)

/-- 'laws.FnExactIsOutside', WHERE WHAT IT READS IS OF BULK AT MOST 1048576: true; the input reads as it did. -/
def fnExactIsOutsideUptoRow : OpenClaim := { program := "ytdjcehopalhalaa", sum := "c5f0066ff562e64eaa79631535726fd0c8ad44c00977c5edf4f694d762eb1ab7", func := "loop.example/g00809/laws.FnExactIsOutside", spec := "fnExactIsOutside", unfollowed := true, recurses := true, apart := false, narrowed := true }
def FnExactIsOutsideUptoSaid : Prop := fnExactIsOutsideUptoRow.holds Try.pinned (OpenSpec.upto fnExactIsOutsideSpec)

/-- 'laws.FnExactGridOf', WHERE WHAT IT READS IS OF BULK AT MOST 1048576: true; the input reads as it did. -/
def fnExactGridOfUptoRow : OpenClaim := { program := "ytdjcehopalhalaa", sum := "c5f0066ff562e64eaa79631535726fd0c8ad44c00977c5edf4f694d762eb1ab7", func := "loop.example/g00809/laws.FnExactGridOf", spec := "fnExactGridOf", unfollowed := true, recurses := true, apart := false, narrowed := true }
def FnExactGridOfUptoSaid : Prop := fnExactGridOfUptoRow.holds Try.pinned (OpenSpec.upto fnExactGridOfSpec)

/-- 'laws.FnExactSameScene', WHERE WHAT IT READS IS OF BULK AT MOST 1048576: true; the input reads as it did. -/
def fnExactSameSceneUptoRow : OpenClaim := { program := "ytdjcehopalhalaa", sum := "c5f0066ff562e64eaa79631535726fd0c8ad44c00977c5edf4f694d762eb1ab7", func := "loop.example/g00809/laws.FnExactSameScene", spec := "fnExactSameScene", unfollowed := true, recurses := true, apart := false, narrowed := true }
def FnExactSameSceneUptoSaid : Prop := fnExactSameSceneUptoRow.holds Try.pinned (OpenSpec.upto fnExactSameSceneSpec)

end Rows
end Go.Proofs.Ytdjcehopalhalaa
