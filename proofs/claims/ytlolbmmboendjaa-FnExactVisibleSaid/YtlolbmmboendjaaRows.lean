/-
  No cell of these rows narrows 'for every input' (looked for: loops, veiled, ifaces, maps, wideKeys, modest, calm, conditions, laid).
  DERIVED. THE GIVEN ROWS OF THIS SEAT. 12 by the template 'for every input the law returns true; each argument reads behind the call as it read before'; 0 by the template 'total and deterministic' (their statements: YtlolbmmboendjaaTotals.lean).
  GIVEN WITH THE SEED: the statements are not yours to turn. If you find one false, say at which input.
  Laid BY PROGRAM, IN A SANDBOX (cutbox-rows.mjs): the forced cells as the released guide's own fill.sh prints them over the translation c858d595f39d21b4… (all of the seat's roots in one cut). By AI agents, Wed Nov 11 2026. No macro, syntax, notation, axiom, sorry.
-/
import Derived.Test.YtlolbmmboendjaaChecked
import GoSem.Claim
import GoSem.ClaimJoined
import GoSem.ClaimMapViews
import Derived.JoinedTies
import Derived.KernelRfl
namespace Go.Proofs.Ytlolbmmboendjaa
/- THE CELL 'sum', in the pinned program and in every row, IS THE sha256 OF THE DUMP (.gsa) THAT YtlolbmmboendjaaProg.lean LOADS. Nothing in Lean hashes anything: it is a label: what it is worth is what the hold of that sum in a sandbox is worth. -/
noncomputable def Try.pinned : Pinned := { name := "ytlolbmmboendjaa", sum := "c858d595f39d21b46f8f73c21d5b052d06148ae746b68c1f8513f2bdb2138613", checked := Try.checked }
namespace Rows
def none {H : Type} : Left H := { results := [], args := [] }

/-- 'laws.FnRaster': WHATEVER THE INPUT: true; the input reads as it did. -/
def fnRasterSpec : ChangeSpec := { name := "fnRaster", fn := fun _ => fun
  | [d] => { results := [.lit (.bool true)], args := [d] }
  | _ => none }
def fnRasterRow : OpenClaim := { program := "ytlolbmmboendjaa", sum := "c858d595f39d21b46f8f73c21d5b052d06148ae746b68c1f8513f2bdb2138613", func := "loop.example/g00809/laws.FnRaster", spec := "fnRaster", unfollowed := true, recurses := true, apart := false }
def FnRasterSaid : Prop := fnRasterRow.holds Try.pinned (OpenSpec.ofChange fnRasterSpec)

/-- ITS FALSE NEIGHBOUR: 'it returns false'. Refute it at one input. -/
def fnRasterWrong : ChangeSpec := { name := "fnRaster", fn := fun _ => fun
  | [d] => { results := [.lit (.bool false)], args := [d] }
  | _ => none }
def FnRasterWrongFalsely : Prop := fnRasterRow.holds Try.pinned (OpenSpec.ofChange fnRasterWrong)

/-- 'laws.FnExactIsValidSurface': WHATEVER THE INPUT: true; the input reads as it did. -/
def fnExactIsValidSurfaceSpec : ChangeSpec := { name := "fnExactIsValidSurface", fn := fun _ => fun
  | [d1, d2] => { results := [.lit (.bool true)], args := [d1, d2] }
  | _ => none }
def fnExactIsValidSurfaceRow : OpenClaim := { program := "ytlolbmmboendjaa", sum := "c858d595f39d21b46f8f73c21d5b052d06148ae746b68c1f8513f2bdb2138613", func := "loop.example/g00809/laws.FnExactIsValidSurface", spec := "fnExactIsValidSurface", unfollowed := true, recurses := true, apart := false }
def FnExactIsValidSurfaceSaid : Prop := fnExactIsValidSurfaceRow.holds Try.pinned (OpenSpec.ofChange fnExactIsValidSurfaceSpec)

/-- ITS FALSE NEIGHBOUR: 'it returns false'. Refute it at one input. -/
def fnExactIsValidSurfaceWrong : ChangeSpec := { name := "fnExactIsValidSurface", fn := fun _ => fun
  | [d1, d2] => { results := [.lit (.bool false)], args := [d1, d2] }
  | _ => none }
def FnExactIsValidSurfaceWrongFalsely : Prop := fnExactIsValidSurfaceRow.holds Try.pinned (OpenSpec.ofChange fnExactIsValidSurfaceWrong)

/-- 'laws.FnExactNearestOpaque': WHATEVER THE INPUT: true; the input reads as it did. -/
def fnExactNearestOpaqueSpec : ChangeSpec := { name := "fnExactNearestOpaque", fn := fun _ => fun
  | [d] => { results := [.lit (.bool true)], args := [d] }
  | _ => none }
def fnExactNearestOpaqueRow : OpenClaim := { program := "ytlolbmmboendjaa", sum := "c858d595f39d21b46f8f73c21d5b052d06148ae746b68c1f8513f2bdb2138613", func := "loop.example/g00809/laws.FnExactNearestOpaque", spec := "fnExactNearestOpaque", apart := false }
def FnExactNearestOpaqueSaid : Prop := fnExactNearestOpaqueRow.holds Try.pinned (OpenSpec.ofChange fnExactNearestOpaqueSpec)

/-- ITS FALSE NEIGHBOUR: 'it returns false'. Refute it at one input. -/
def fnExactNearestOpaqueWrong : ChangeSpec := { name := "fnExactNearestOpaque", fn := fun _ => fun
  | [d] => { results := [.lit (.bool false)], args := [d] }
  | _ => none }
def FnExactNearestOpaqueWrongFalsely : Prop := fnExactNearestOpaqueRow.holds Try.pinned (OpenSpec.ofChange fnExactNearestOpaqueWrong)

/-- 'laws.FnExactBucketBox': WHATEVER THE INPUT: true; the input reads as it did. -/
def fnExactBucketBoxSpec : ChangeSpec := { name := "fnExactBucketBox", fn := fun _ => fun
  | [d1, d2] => { results := [.lit (.bool true)], args := [d1, d2] }
  | _ => none }
def fnExactBucketBoxRow : OpenClaim := { program := "ytlolbmmboendjaa", sum := "c858d595f39d21b46f8f73c21d5b052d06148ae746b68c1f8513f2bdb2138613", func := "loop.example/g00809/laws.FnExactBucketBox", spec := "fnExactBucketBox", apart := false }
def FnExactBucketBoxSaid : Prop := fnExactBucketBoxRow.holds Try.pinned (OpenSpec.ofChange fnExactBucketBoxSpec)

/-- ITS FALSE NEIGHBOUR: 'it returns false'. Refute it at one input. -/
def fnExactBucketBoxWrong : ChangeSpec := { name := "fnExactBucketBox", fn := fun _ => fun
  | [d1, d2] => { results := [.lit (.bool false)], args := [d1, d2] }
  | _ => none }
def FnExactBucketBoxWrongFalsely : Prop := fnExactBucketBoxRow.holds Try.pinned (OpenSpec.ofChange fnExactBucketBoxWrong)

/-- 'laws.FnExactIsValidTexture': WHATEVER THE INPUT: true; the input reads as it did. -/
def fnExactIsValidTextureSpec : ChangeSpec := { name := "fnExactIsValidTexture", fn := fun _ => fun
  | [d] => { results := [.lit (.bool true)], args := [d] }
  | _ => none }
def fnExactIsValidTextureRow : OpenClaim := { program := "ytlolbmmboendjaa", sum := "c858d595f39d21b46f8f73c21d5b052d06148ae746b68c1f8513f2bdb2138613", func := "loop.example/g00809/laws.FnExactIsValidTexture", spec := "fnExactIsValidTexture", apart := false }
def FnExactIsValidTextureSaid : Prop := fnExactIsValidTextureRow.holds Try.pinned (OpenSpec.ofChange fnExactIsValidTextureSpec)

/-- ITS FALSE NEIGHBOUR: 'it returns false'. Refute it at one input. -/
def fnExactIsValidTextureWrong : ChangeSpec := { name := "fnExactIsValidTexture", fn := fun _ => fun
  | [d] => { results := [.lit (.bool false)], args := [d] }
  | _ => none }
def FnExactIsValidTextureWrongFalsely : Prop := fnExactIsValidTextureRow.holds Try.pinned (OpenSpec.ofChange fnExactIsValidTextureWrong)

/-- 'laws.FnExactComposite': WHATEVER THE INPUT: true; the input reads as it did. -/
def fnExactCompositeSpec : ChangeSpec := { name := "fnExactComposite", fn := fun _ => fun
  | [d] => { results := [.lit (.bool true)], args := [d] }
  | _ => none }
def fnExactCompositeRow : OpenClaim := { program := "ytlolbmmboendjaa", sum := "c858d595f39d21b46f8f73c21d5b052d06148ae746b68c1f8513f2bdb2138613", func := "loop.example/g00809/laws.FnExactComposite", spec := "fnExactComposite", apart := false }
def FnExactCompositeSaid : Prop := fnExactCompositeRow.holds Try.pinned (OpenSpec.ofChange fnExactCompositeSpec)

/-- ITS FALSE NEIGHBOUR: 'it returns false'. Refute it at one input. -/
def fnExactCompositeWrong : ChangeSpec := { name := "fnExactComposite", fn := fun _ => fun
  | [d] => { results := [.lit (.bool false)], args := [d] }
  | _ => none }
def FnExactCompositeWrongFalsely : Prop := fnExactCompositeRow.holds Try.pinned (OpenSpec.ofChange fnExactCompositeWrong)

/-- 'laws.FnExactNewCache': WHATEVER THE INPUT: true; the input reads as it did. -/
def fnExactNewCacheSpec : ChangeSpec := { name := "fnExactNewCache", fn := fun _ => fun
  | [d] => { results := [.lit (.bool true)], args := [d] }
  | _ => none }
def fnExactNewCacheRow : OpenClaim := { program := "ytlolbmmboendjaa", sum := "c858d595f39d21b46f8f73c21d5b052d06148ae746b68c1f8513f2bdb2138613", func := "loop.example/g00809/laws.FnExactNewCache", spec := "fnExactNewCache", apart := false }
def FnExactNewCacheSaid : Prop := fnExactNewCacheRow.holds Try.pinned (OpenSpec.ofChange fnExactNewCacheSpec)

/-- ITS FALSE NEIGHBOUR: 'it returns false'. Refute it at one input. -/
def fnExactNewCacheWrong : ChangeSpec := { name := "fnExactNewCache", fn := fun _ => fun
  | [d] => { results := [.lit (.bool false)], args := [d] }
  | _ => none }
def FnExactNewCacheWrongFalsely : Prop := fnExactNewCacheRow.holds Try.pinned (OpenSpec.ofChange fnExactNewCacheWrong)

/-- 'laws.FnExactSameCache': WHATEVER THE INPUT: true; the input reads as it did. -/
def fnExactSameCacheSpec : ChangeSpec := { name := "fnExactSameCache", fn := fun _ => fun
  | [d1, d2] => { results := [.lit (.bool true)], args := [d1, d2] }
  | _ => none }
def fnExactSameCacheRow : OpenClaim := { program := "ytlolbmmboendjaa", sum := "c858d595f39d21b46f8f73c21d5b052d06148ae746b68c1f8513f2bdb2138613", func := "loop.example/g00809/laws.FnExactSameCache", spec := "fnExactSameCache", apart := false }
def FnExactSameCacheSaid : Prop := fnExactSameCacheRow.holds Try.pinned (OpenSpec.ofChange fnExactSameCacheSpec)

/-- ITS FALSE NEIGHBOUR: 'it returns false'. Refute it at one input. -/
def fnExactSameCacheWrong : ChangeSpec := { name := "fnExactSameCache", fn := fun _ => fun
  | [d1, d2] => { results := [.lit (.bool false)], args := [d1, d2] }
  | _ => none }
def FnExactSameCacheWrongFalsely : Prop := fnExactSameCacheRow.holds Try.pinned (OpenSpec.ofChange fnExactSameCacheWrong)

/-- 'laws.FnExactIsValidCache': WHATEVER THE INPUT: true; the input reads as it did. -/
def fnExactIsValidCacheSpec : ChangeSpec := { name := "fnExactIsValidCache", fn := fun _ => fun
  | [d] => { results := [.lit (.bool true)], args := [d] }
  | _ => none }
def fnExactIsValidCacheRow : OpenClaim := { program := "ytlolbmmboendjaa", sum := "c858d595f39d21b46f8f73c21d5b052d06148ae746b68c1f8513f2bdb2138613", func := "loop.example/g00809/laws.FnExactIsValidCache", spec := "fnExactIsValidCache", apart := false }
def FnExactIsValidCacheSaid : Prop := fnExactIsValidCacheRow.holds Try.pinned (OpenSpec.ofChange fnExactIsValidCacheSpec)

/-- ITS FALSE NEIGHBOUR: 'it returns false'. Refute it at one input. -/
def fnExactIsValidCacheWrong : ChangeSpec := { name := "fnExactIsValidCache", fn := fun _ => fun
  | [d] => { results := [.lit (.bool false)], args := [d] }
  | _ => none }
def FnExactIsValidCacheWrongFalsely : Prop := fnExactIsValidCacheRow.holds Try.pinned (OpenSpec.ofChange fnExactIsValidCacheWrong)

/-- 'laws.FnExactCovers': WHATEVER THE INPUT: true; the input reads as it did. -/
def fnExactCoversSpec : ChangeSpec := { name := "fnExactCovers", fn := fun _ => fun
  | [d1, d2, d3] => { results := [.lit (.bool true)], args := [d1, d2, d3] }
  | _ => none }
def fnExactCoversRow : OpenClaim := { program := "ytlolbmmboendjaa", sum := "c858d595f39d21b46f8f73c21d5b052d06148ae746b68c1f8513f2bdb2138613", func := "loop.example/g00809/laws.FnExactCovers", spec := "fnExactCovers", unfollowed := true, recurses := true, apart := false }
def FnExactCoversSaid : Prop := fnExactCoversRow.holds Try.pinned (OpenSpec.ofChange fnExactCoversSpec)

/-- ITS FALSE NEIGHBOUR: 'it returns false'. Refute it at one input. -/
def fnExactCoversWrong : ChangeSpec := { name := "fnExactCovers", fn := fun _ => fun
  | [d1, d2, d3] => { results := [.lit (.bool false)], args := [d1, d2, d3] }
  | _ => none }
def FnExactCoversWrongFalsely : Prop := fnExactCoversRow.holds Try.pinned (OpenSpec.ofChange fnExactCoversWrong)

/-- 'laws.FnExactVisible': WHATEVER THE INPUT: true; the input reads as it did. -/
def fnExactVisibleSpec : ChangeSpec := { name := "fnExactVisible", fn := fun _ => fun
  | [d] => { results := [.lit (.bool true)], args := [d] }
  | _ => none }
def fnExactVisibleRow : OpenClaim := { program := "ytlolbmmboendjaa", sum := "c858d595f39d21b46f8f73c21d5b052d06148ae746b68c1f8513f2bdb2138613", func := "loop.example/g00809/laws.FnExactVisible", spec := "fnExactVisible", apart := false }
def FnExactVisibleSaid : Prop := fnExactVisibleRow.holds Try.pinned (OpenSpec.ofChange fnExactVisibleSpec)

/-- ITS FALSE NEIGHBOUR: 'it returns false'. Refute it at one input. -/
def fnExactVisibleWrong : ChangeSpec := { name := "fnExactVisible", fn := fun _ => fun
  | [d] => { results := [.lit (.bool false)], args := [d] }
  | _ => none }
def FnExactVisibleWrongFalsely : Prop := fnExactVisibleRow.holds Try.pinned (OpenSpec.ofChange fnExactVisibleWrong)

/-- 'laws.FnExactDifferences': WHATEVER THE INPUT: true; the input reads as it did. -/
def fnExactDifferencesSpec : ChangeSpec := { name := "fnExactDifferences", fn := fun _ => fun
  | [d1, d2, d3] => { results := [.lit (.bool true)], args := [d1, d2, d3] }
  | _ => none }
def fnExactDifferencesRow : OpenClaim := { program := "ytlolbmmboendjaa", sum := "c858d595f39d21b46f8f73c21d5b052d06148ae746b68c1f8513f2bdb2138613", func := "loop.example/g00809/laws.FnExactDifferences", spec := "fnExactDifferences", apart := false }
def FnExactDifferencesSaid : Prop := fnExactDifferencesRow.holds Try.pinned (OpenSpec.ofChange fnExactDifferencesSpec)

/-- ITS FALSE NEIGHBOUR: 'it returns false'. Refute it at one input. -/
def fnExactDifferencesWrong : ChangeSpec := { name := "fnExactDifferences", fn := fun _ => fun
  | [d1, d2, d3] => { results := [.lit (.bool false)], args := [d1, d2, d3] }
  | _ => none }
def FnExactDifferencesWrongFalsely : Prop := fnExactDifferencesRow.holds Try.pinned (OpenSpec.ofChange fnExactDifferencesWrong)

/- THE SECOND FORM. 'bulk': how many values and letters a reading holds, each counted each time it is reached (what is shared counts as often as it is met; a slice's spare places count too). A statement '..UptoSaid' is the law's where the arguments, and the package variables that the reading takes, are together of bulk at most 1048576: NARROWER than '..Said'. Prove '..Said' where nothing that the law and all that it calls make is longer than what came in: it says more and counts as full. Else prove '..UptoSaid'. A law counts once. -/
mutual
def uptoBulk {H : Type} : DataW H → Nat
  | .lit (.string bytes) => bytes.length + 1
  | .lit _ => 1
  | .nil => 1
  | .ptr d => uptoBulk d + 1
  | .slice elems spare => uptoBulkAll elems + uptoBulkAll spare + 1
  | .agg parts => uptoBulkAll parts + 1
  | .iface _ d => uptoBulk d + 1
  | .map entries => uptoBulkEntries entries + 1
  | .held _ => 1
def uptoBulkAll {H : Type} : List (DataW H) → Nat
  | [] => 0
  | d :: r => uptoBulk d + uptoBulkAll r
def uptoBulkEntries {H : Type} : List (Lit × DataW H) → Nat
  | [] => 0
  | x :: r => uptoBulkEntry x + uptoBulkEntries r
def uptoBulkEntry {H : Type} : Lit × DataW H → Nat
  | (.string bytes, d) => bytes.length + uptoBulk d + 1
  | (_, d) => uptoBulk d + 1
 end
def uptoSmall : (H : Type) → List (DataW H) → Bool := fun _ ds => decide (uptoBulkAll ds ≤ 1048576)
def OpenSpec.upto (s : _root_.Go.ChangeSpec) : _root_.Go.OpenSpec := { _root_.Go.OpenSpec.ofChange s with cond := some uptoSmall }

/-- 'laws.FnRaster', WHERE WHAT IT READS IS OF BULK AT MOST 1048576: true; the input reads as it did. -/
def fnRasterUptoRow : OpenClaim := { program := "ytlolbmmboendjaa", sum := "c858d595f39d21b46f8f73c21d5b052d06148ae746b68c1f8513f2bdb2138613", func := "loop.example/g00809/laws.FnRaster", spec := "fnRaster", unfollowed := true, recurses := true, apart := false, narrowed := true }
def FnRasterUptoSaid : Prop := fnRasterUptoRow.holds Try.pinned (OpenSpec.upto fnRasterSpec)

/-- 'laws.FnExactIsValidSurface', WHERE WHAT IT READS IS OF BULK AT MOST 1048576: true; the input reads as it did. -/
def fnExactIsValidSurfaceUptoRow : OpenClaim := { program := "ytlolbmmboendjaa", sum := "c858d595f39d21b46f8f73c21d5b052d06148ae746b68c1f8513f2bdb2138613", func := "loop.example/g00809/laws.FnExactIsValidSurface", spec := "fnExactIsValidSurface", unfollowed := true, recurses := true, apart := false, narrowed := true }
def FnExactIsValidSurfaceUptoSaid : Prop := fnExactIsValidSurfaceUptoRow.holds Try.pinned (OpenSpec.upto fnExactIsValidSurfaceSpec)

/-- 'laws.FnExactNearestOpaque', WHERE WHAT IT READS IS OF BULK AT MOST 1048576: true; the input reads as it did. -/
def fnExactNearestOpaqueUptoRow : OpenClaim := { program := "ytlolbmmboendjaa", sum := "c858d595f39d21b46f8f73c21d5b052d06148ae746b68c1f8513f2bdb2138613", func := "loop.example/g00809/laws.FnExactNearestOpaque", spec := "fnExactNearestOpaque", apart := false, narrowed := true }
def FnExactNearestOpaqueUptoSaid : Prop := fnExactNearestOpaqueUptoRow.holds Try.pinned (OpenSpec.upto fnExactNearestOpaqueSpec)

/-- 'laws.FnExactBucketBox', WHERE WHAT IT READS IS OF BULK AT MOST 1048576: true; the input reads as it did. -/
def fnExactBucketBoxUptoRow : OpenClaim := { program := "ytlolbmmboendjaa", sum := "c858d595f39d21b46f8f73c21d5b052d06148ae746b68c1f8513f2bdb2138613", func := "loop.example/g00809/laws.FnExactBucketBox", spec := "fnExactBucketBox", apart := false, narrowed := true }
def FnExactBucketBoxUptoSaid : Prop := fnExactBucketBoxUptoRow.holds Try.pinned (OpenSpec.upto fnExactBucketBoxSpec)

/-- 'laws.FnExactIsValidTexture', WHERE WHAT IT READS IS OF BULK AT MOST 1048576: true; the input reads as it did. -/
def fnExactIsValidTextureUptoRow : OpenClaim := { program := "ytlolbmmboendjaa", sum := "c858d595f39d21b46f8f73c21d5b052d06148ae746b68c1f8513f2bdb2138613", func := "loop.example/g00809/laws.FnExactIsValidTexture", spec := "fnExactIsValidTexture", apart := false, narrowed := true }
def FnExactIsValidTextureUptoSaid : Prop := fnExactIsValidTextureUptoRow.holds Try.pinned (OpenSpec.upto fnExactIsValidTextureSpec)

/-- 'laws.FnExactComposite', WHERE WHAT IT READS IS OF BULK AT MOST 1048576: true; the input reads as it did. -/
def fnExactCompositeUptoRow : OpenClaim := { program := "ytlolbmmboendjaa", sum := "c858d595f39d21b46f8f73c21d5b052d06148ae746b68c1f8513f2bdb2138613", func := "loop.example/g00809/laws.FnExactComposite", spec := "fnExactComposite", apart := false, narrowed := true }
def FnExactCompositeUptoSaid : Prop := fnExactCompositeUptoRow.holds Try.pinned (OpenSpec.upto fnExactCompositeSpec)

/-- 'laws.FnExactNewCache', WHERE WHAT IT READS IS OF BULK AT MOST 1048576: true; the input reads as it did. -/
def fnExactNewCacheUptoRow : OpenClaim := { program := "ytlolbmmboendjaa", sum := "c858d595f39d21b46f8f73c21d5b052d06148ae746b68c1f8513f2bdb2138613", func := "loop.example/g00809/laws.FnExactNewCache", spec := "fnExactNewCache", apart := false, narrowed := true }
def FnExactNewCacheUptoSaid : Prop := fnExactNewCacheUptoRow.holds Try.pinned (OpenSpec.upto fnExactNewCacheSpec)

/-- 'laws.FnExactSameCache', WHERE WHAT IT READS IS OF BULK AT MOST 1048576: true; the input reads as it did. -/
def fnExactSameCacheUptoRow : OpenClaim := { program := "ytlolbmmboendjaa", sum := "c858d595f39d21b46f8f73c21d5b052d06148ae746b68c1f8513f2bdb2138613", func := "loop.example/g00809/laws.FnExactSameCache", spec := "fnExactSameCache", apart := false, narrowed := true }
def FnExactSameCacheUptoSaid : Prop := fnExactSameCacheUptoRow.holds Try.pinned (OpenSpec.upto fnExactSameCacheSpec)

/-- 'laws.FnExactIsValidCache', WHERE WHAT IT READS IS OF BULK AT MOST 1048576: true; the input reads as it did. -/
def fnExactIsValidCacheUptoRow : OpenClaim := { program := "ytlolbmmboendjaa", sum := "c858d595f39d21b46f8f73c21d5b052d06148ae746b68c1f8513f2bdb2138613", func := "loop.example/g00809/laws.FnExactIsValidCache", spec := "fnExactIsValidCache", apart := false, narrowed := true }
def FnExactIsValidCacheUptoSaid : Prop := fnExactIsValidCacheUptoRow.holds Try.pinned (OpenSpec.upto fnExactIsValidCacheSpec)

/-- 'laws.FnExactCovers', WHERE WHAT IT READS IS OF BULK AT MOST 1048576: true; the input reads as it did. -/
def fnExactCoversUptoRow : OpenClaim := { program := "ytlolbmmboendjaa", sum := "c858d595f39d21b46f8f73c21d5b052d06148ae746b68c1f8513f2bdb2138613", func := "loop.example/g00809/laws.FnExactCovers", spec := "fnExactCovers", unfollowed := true, recurses := true, apart := false, narrowed := true }
def FnExactCoversUptoSaid : Prop := fnExactCoversUptoRow.holds Try.pinned (OpenSpec.upto fnExactCoversSpec)

/-- 'laws.FnExactVisible', WHERE WHAT IT READS IS OF BULK AT MOST 1048576: true; the input reads as it did. -/
def fnExactVisibleUptoRow : OpenClaim := { program := "ytlolbmmboendjaa", sum := "c858d595f39d21b46f8f73c21d5b052d06148ae746b68c1f8513f2bdb2138613", func := "loop.example/g00809/laws.FnExactVisible", spec := "fnExactVisible", apart := false, narrowed := true }
def FnExactVisibleUptoSaid : Prop := fnExactVisibleUptoRow.holds Try.pinned (OpenSpec.upto fnExactVisibleSpec)

/-- 'laws.FnExactDifferences', WHERE WHAT IT READS IS OF BULK AT MOST 1048576: true; the input reads as it did. -/
def fnExactDifferencesUptoRow : OpenClaim := { program := "ytlolbmmboendjaa", sum := "c858d595f39d21b46f8f73c21d5b052d06148ae746b68c1f8513f2bdb2138613", func := "loop.example/g00809/laws.FnExactDifferences", spec := "fnExactDifferences", apart := false, narrowed := true }
def FnExactDifferencesUptoSaid : Prop := fnExactDifferencesUptoRow.holds Try.pinned (OpenSpec.upto fnExactDifferencesSpec)

end Rows
end Go.Proofs.Ytlolbmmboendjaa
