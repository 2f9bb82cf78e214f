/-
  No cell of these rows narrows 'for every input' (looked for: loops, veiled, ifaces, maps, wideKeys, modest, calm, conditions, laid).
  DERIVED. THE GIVEN ROWS OF THIS SEAT. 6 by the template 'for every input the law returns true; each argument reads behind the call as it read before'; 0 by the template 'total and deterministic' (their statements: YtffjfkolhpcldaaTotals.lean).
  GIVEN WITH THE SEED: the statements are not yours to turn. If you find one false, say at which input.
  Laid BY PROGRAM, IN A SANDBOX (cutbox-rows.mjs): the forced cells as the released guide's own fill.sh prints them over the translation 7bd6744cd8925e4c… (all of the seat's roots in one cut). By AI agents, Wed Nov 11 2026. No macro, syntax, notation, axiom, sorry.
-/
import Derived.Test.YtffjfkolhpcldaaChecked
import GoSem.Claim
import GoSem.ClaimJoined
import GoSem.ClaimMapViews
import Derived.JoinedTies
import Derived.KernelRfl
namespace Go.Proofs.Ytffjfkolhpcldaa
/- THE CELL 'sum', in the pinned program and in every row, IS THE sha256 OF THE DUMP (.gsa) THAT YtffjfkolhpcldaaProg.lean LOADS. Nothing in Lean hashes anything: it is a label: what it is worth is what the hold of that sum in a sandbox is worth. -/
noncomputable def Try.pinned : Pinned := { name := "ytffjfkolhpcldaa", sum := "7bd6744cd8925e4c4078a05d721917de7023f4ceae1d48510dadb72a0dd6a732", checked := Try.checked }
namespace Rows
def none {H : Type} : Left H := { results := [], args := [] }

/-- 'laws.FnExactSaturate': WHATEVER THE INPUT: true; the input reads as it did. -/
def fnExactSaturateSpec : ChangeSpec := { name := "fnExactSaturate", fn := fun _ => fun
  | [d] => { results := [.lit (.bool true)], args := [d] }
  | _ => none }
def fnExactSaturateRow : OpenClaim := { program := "ytffjfkolhpcldaa", sum := "7bd6744cd8925e4c4078a05d721917de7023f4ceae1d48510dadb72a0dd6a732", func := "loop.example/g00809/laws.FnExactSaturate", spec := "fnExactSaturate", apart := false }
def FnExactSaturateSaid : Prop := fnExactSaturateRow.holds Try.pinned (OpenSpec.ofChange fnExactSaturateSpec)

/-- ITS FALSE NEIGHBOUR: 'it returns false'. Refute it at one input. -/
def fnExactSaturateWrong : ChangeSpec := { name := "fnExactSaturate", fn := fun _ => fun
  | [d] => { results := [.lit (.bool false)], args := [d] }
  | _ => none }
def FnExactSaturateWrongFalsely : Prop := fnExactSaturateRow.holds Try.pinned (OpenSpec.ofChange fnExactSaturateWrong)

/-- 'laws.FnExactGridValue': WHATEVER THE INPUT: true; the input reads as it did. -/
def fnExactGridValueSpec : ChangeSpec := { name := "fnExactGridValue", fn := fun _ => fun
  | [d1, d2, d3, d4] => { results := [.lit (.bool true)], args := [d1, d2, d3, d4] }
  | _ => none }
def fnExactGridValueRow : OpenClaim := { program := "ytffjfkolhpcldaa", sum := "7bd6744cd8925e4c4078a05d721917de7023f4ceae1d48510dadb72a0dd6a732", func := "loop.example/g00809/laws.FnExactGridValue", spec := "fnExactGridValue", apart := false }
def FnExactGridValueSaid : Prop := fnExactGridValueRow.holds Try.pinned (OpenSpec.ofChange fnExactGridValueSpec)

/-- ITS FALSE NEIGHBOUR: 'it returns false'. Refute it at one input. -/
def fnExactGridValueWrong : ChangeSpec := { name := "fnExactGridValue", fn := fun _ => fun
  | [d1, d2, d3, d4] => { results := [.lit (.bool false)], args := [d1, d2, d3, d4] }
  | _ => none }
def FnExactGridValueWrongFalsely : Prop := fnExactGridValueRow.holds Try.pinned (OpenSpec.ofChange fnExactGridValueWrong)

/-- 'laws.FnExactIsValidBucket': WHATEVER THE INPUT: true; the input reads as it did. -/
def fnExactIsValidBucketSpec : ChangeSpec := { name := "fnExactIsValidBucket", fn := fun _ => fun
  | [d1, d2] => { results := [.lit (.bool true)], args := [d1, d2] }
  | _ => none }
def fnExactIsValidBucketRow : OpenClaim := { program := "ytffjfkolhpcldaa", sum := "7bd6744cd8925e4c4078a05d721917de7023f4ceae1d48510dadb72a0dd6a732", func := "loop.example/g00809/laws.FnExactIsValidBucket", spec := "fnExactIsValidBucket", apart := false }
def FnExactIsValidBucketSaid : Prop := fnExactIsValidBucketRow.holds Try.pinned (OpenSpec.ofChange fnExactIsValidBucketSpec)

/-- ITS FALSE NEIGHBOUR: 'it returns false'. Refute it at one input. -/
def fnExactIsValidBucketWrong : ChangeSpec := { name := "fnExactIsValidBucket", fn := fun _ => fun
  | [d1, d2] => { results := [.lit (.bool false)], args := [d1, d2] }
  | _ => none }
def FnExactIsValidBucketWrongFalsely : Prop := fnExactIsValidBucketRow.holds Try.pinned (OpenSpec.ofChange fnExactIsValidBucketWrong)

/-- 'laws.FnExactFragmentLess': WHATEVER THE INPUT: true; the input reads as it did. -/
def fnExactFragmentLessSpec : ChangeSpec := { name := "fnExactFragmentLess", fn := fun _ => fun
  | [d1, d2] => { results := [.lit (.bool true)], args := [d1, d2] }
  | _ => none }
def fnExactFragmentLessRow : OpenClaim := { program := "ytffjfkolhpcldaa", sum := "7bd6744cd8925e4c4078a05d721917de7023f4ceae1d48510dadb72a0dd6a732", func := "loop.example/g00809/laws.FnExactFragmentLess", spec := "fnExactFragmentLess", apart := false }
def FnExactFragmentLessSaid : Prop := fnExactFragmentLessRow.holds Try.pinned (OpenSpec.ofChange fnExactFragmentLessSpec)

/-- ITS FALSE NEIGHBOUR: 'it returns false'. Refute it at one input. -/
def fnExactFragmentLessWrong : ChangeSpec := { name := "fnExactFragmentLess", fn := fun _ => fun
  | [d1, d2] => { results := [.lit (.bool false)], args := [d1, d2] }
  | _ => none }
def FnExactFragmentLessWrongFalsely : Prop := fnExactFragmentLessRow.holds Try.pinned (OpenSpec.ofChange fnExactFragmentLessWrong)

/-- 'laws.FnDerivatives': WHATEVER THE INPUT: true; the input reads as it did. -/
def fnDerivativesSpec : ChangeSpec := { name := "fnDerivatives", fn := fun _ => fun
  | [d] => { results := [.lit (.bool true)], args := [d] }
  | _ => none }
def fnDerivativesRow : OpenClaim := { program := "ytffjfkolhpcldaa", sum := "7bd6744cd8925e4c4078a05d721917de7023f4ceae1d48510dadb72a0dd6a732", func := "loop.example/g00809/laws.FnDerivatives", spec := "fnDerivatives", apart := false }
def FnDerivativesSaid : Prop := fnDerivativesRow.holds Try.pinned (OpenSpec.ofChange fnDerivativesSpec)

/-- ITS FALSE NEIGHBOUR: 'it returns false'. Refute it at one input. -/
def fnDerivativesWrong : ChangeSpec := { name := "fnDerivatives", fn := fun _ => fun
  | [d] => { results := [.lit (.bool false)], args := [d] }
  | _ => none }
def FnDerivativesWrongFalsely : Prop := fnDerivativesRow.holds Try.pinned (OpenSpec.ofChange fnDerivativesWrong)

/-- 'laws.FnExactSignedArea2': WHATEVER THE INPUT: true; the input reads as it did. -/
def fnExactSignedArea2Spec : ChangeSpec := { name := "fnExactSignedArea2", fn := fun _ => fun
  | [d] => { results := [.lit (.bool true)], args := [d] }
  | _ => none }
def fnExactSignedArea2Row : OpenClaim := { program := "ytffjfkolhpcldaa", sum := "7bd6744cd8925e4c4078a05d721917de7023f4ceae1d48510dadb72a0dd6a732", func := "loop.example/g00809/laws.FnExactSignedArea2", spec := "fnExactSignedArea2", unfollowed := true, recurses := true, apart := false }
def FnExactSignedArea2Said : Prop := fnExactSignedArea2Row.holds Try.pinned (OpenSpec.ofChange fnExactSignedArea2Spec)

/-- ITS FALSE NEIGHBOUR: 'it returns false'. Refute it at one input. -/
def fnExactSignedArea2Wrong : ChangeSpec := { name := "fnExactSignedArea2", fn := fun _ => fun
  | [d] => { results := [.lit (.bool false)], args := [d] }
  | _ => none }
def FnExactSignedArea2WrongFalsely : Prop := fnExactSignedArea2Row.holds Try.pinned (OpenSpec.ofChange fnExactSignedArea2Wrong)

/- THE SECOND FORM. 'bulk': how many values and letters a reading holds, each counted each time it is reached (what is shared counts as often as it is met; a slice's spare places count too). A statement '..UptoSaid' is the law's where the arguments, and the package variables that the reading takes, are together of bulk at most 1048576: NARROWER than '..Said'. Prove '..Said' where nothing that the law and all that it calls make is longer than what came in: it says more and counts as full. Else prove '..UptoSaid'. A law counts once. -/
mutual
def uptoBulk {H : Type} : DataW H → Nat
  | .lit (.string bytes) => bytes.length + 1
  | .lit _ => 1
  | .nil => 1
  | .ptr d => uptoBulk d + 1
  | .slice elems spare => uptoBulkAll elems + uptoBulkAll spare + 1
  | .agg parts => uptoBulkAll parts + 1
  | .iface _ d => uptoBulk d + 1
  | .map entries => uptoBulkEntries entries + 1
  | .held _ => 1
def uptoBulkAll {H : Type} : List (DataW H) → Nat
  | [] => 0
  | d :: r => uptoBulk d + uptoBulkAll r
def uptoBulkEntries {H : Type} : List (Lit × DataW H) → Nat
  | [] => 0
  | x :: r => uptoBulkEntry x + uptoBulkEntries r
def uptoBulkEntry {H : Type} : Lit × DataW H → Nat
  | (.string bytes, d) => bytes.length + uptoBulk d + 1
  | (_, d) => uptoBulk d + 1
 end
def uptoSmall : (H : Type) → List (DataW H) → Bool := fun _ ds => decide (uptoBulkAll ds ≤ 1048576)
def OpenSpec.upto (s : _root_.Go.ChangeSpec) : _root_.Go.OpenSpec := { _root_.Go.OpenSpec.ofChange s with cond := some uptoSmall }

/-- 'laws.FnExactSaturate', WHERE WHAT IT READS IS OF BULK AT MOST 1048576: true; the input reads as it did. -/
def fnExactSaturateUptoRow : OpenClaim := { program := "ytffjfkolhpcldaa", sum := "7bd6744cd8925e4c4078a05d721917de7023f4ceae1d48510dadb72a0dd6a732", func := "loop.example/g00809/laws.FnExactSaturate", spec := "fnExactSaturate", apart := false, narrowed := true }
def FnExactSaturateUptoSaid : Prop := fnExactSaturateUptoRow.holds Try.pinned (OpenSpec.upto fnExactSaturateSpec)

/-- 'laws.FnExactGridValue', WHERE WHAT IT READS IS OF BULK AT MOST 1048576: true; the input reads as it did. -/
def fnExactGridValueUptoRow : OpenClaim := { program := "ytffjfkolhpcldaa", sum := "7bd6744cd8925e4c4078a05d721917de7023f4ceae1d48510dadb72a0dd6a732", func := "loop.example/g00809/laws.FnExactGridValue", spec := "fnExactGridValue", apart := false, narrowed := true }
def FnExactGridValueUptoSaid : Prop := fnExactGridValueUptoRow.holds Try.pinned (OpenSpec.upto fnExactGridValueSpec)

/-- 'laws.FnExactIsValidBucket', WHERE WHAT IT READS IS OF BULK AT MOST 1048576: true; the input reads as it did. -/
def fnExactIsValidBucketUptoRow : OpenClaim := { program := "ytffjfkolhpcldaa", sum := "7bd6744cd8925e4c4078a05d721917de7023f4ceae1d48510dadb72a0dd6a732", func := "loop.example/g00809/laws.FnExactIsValidBucket", spec := "fnExactIsValidBucket", apart := false, narrowed := true }
def FnExactIsValidBucketUptoSaid : Prop := fnExactIsValidBucketUptoRow.holds Try.pinned (OpenSpec.upto fnExactIsValidBucketSpec)

/-- 'laws.FnExactFragmentLess', WHERE WHAT IT READS IS OF BULK AT MOST 1048576: true; the input reads as it did. -/
def fnExactFragmentLessUptoRow : OpenClaim := { program := "ytffjfkolhpcldaa", sum := "7bd6744cd8925e4c4078a05d721917de7023f4ceae1d48510dadb72a0dd6a732", func := "loop.example/g00809/laws.FnExactFragmentLess", spec := "fnExactFragmentLess", apart := false, narrowed := true }
def FnExactFragmentLessUptoSaid : Prop := fnExactFragmentLessUptoRow.holds Try.pinned (OpenSpec.upto fnExactFragmentLessSpec)

/-- 'laws.FnDerivatives', WHERE WHAT IT READS IS OF BULK AT MOST 1048576: true; the input reads as it did. -/
def fnDerivativesUptoRow : OpenClaim := { program := "ytffjfkolhpcldaa", sum := "7bd6744cd8925e4c4078a05d721917de7023f4ceae1d48510dadb72a0dd6a732", func := "loop.example/g00809/laws.FnDerivatives", spec := "fnDerivatives", apart := false, narrowed := true }
def FnDerivativesUptoSaid : Prop := fnDerivativesUptoRow.holds Try.pinned (OpenSpec.upto fnDerivativesSpec)

/-- 'laws.FnExactSignedArea2', WHERE WHAT IT READS IS OF BULK AT MOST 1048576: true; the input reads as it did. -/
def fnExactSignedArea2UptoRow : OpenClaim := { program := "ytffjfkolhpcldaa", sum := "7bd6744cd8925e4c4078a05d721917de7023f4ceae1d48510dadb72a0dd6a732", func := "loop.example/g00809/laws.FnExactSignedArea2", spec := "fnExactSignedArea2", unfollowed := true, recurses := true, apart := false, narrowed := true }
def FnExactSignedArea2UptoSaid : Prop := fnExactSignedArea2UptoRow.holds Try.pinned (OpenSpec.upto fnExactSignedArea2Spec)

end Rows
end Go.Proofs.Ytffjfkolhpcldaa
