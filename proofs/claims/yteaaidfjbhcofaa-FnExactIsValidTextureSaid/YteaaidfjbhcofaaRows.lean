/-
  No cell of these rows narrows 'for every input' (looked for: loops, veiled, ifaces, maps, wideKeys, modest, calm, conditions, laid).
  DERIVED. THE GIVEN ROWS OF THIS SEAT. 20 by the template 'for every input the law returns true; each argument reads behind the call as it read before'; 0 by the template 'total and deterministic' (their statements: YteaaidfjbhcofaaTotals.lean).
  GIVEN WITH THE SEED: the statements are not yours to turn. If you find one false, say at which input.
  Laid BY PROGRAM, IN A SANDBOX (cutbox-rows.mjs): the forced cells as the released guide's own fill.sh prints them over the translation 11dc5478b16465d6… (all of the seat's roots in one cut). By AI agents, Wed Nov 11 2026. No macro, syntax, notation, axiom, sorry.
-/
import Derived.Test.YteaaidfjbhcofaaChecked
import GoSem.Claim
import GoSem.ClaimJoined
import GoSem.ClaimMapViews
import Derived.JoinedTies
import Derived.KernelRfl
namespace Go.Proofs.Yteaaidfjbhcofaa
/- THE CELL 'sum', in the pinned program and in every row, IS THE sha256 OF THE DUMP (.gsa) THAT YteaaidfjbhcofaaProg.lean LOADS. Nothing in Lean hashes anything: it is a label: what it is worth is what the hold of that sum in a sandbox is worth. -/
noncomputable def Try.pinned : Pinned := { name := "yteaaidfjbhcofaa", sum := "11dc5478b16465d64d067dc938258c8ee8ab56dfc4e5e87bc92a83497b9f275e", checked := Try.checked }
namespace Rows
def none {H : Type} : Left H := { results := [], args := [] }

/-- 'laws.FnDerivatives': WHATEVER THE INPUT: true; the input reads as it did. -/
def fnDerivativesSpec : ChangeSpec := { name := "fnDerivatives", fn := fun _ => fun
  | [d] => { results := [.lit (.bool true)], args := [d] }
  | _ => none }
def fnDerivativesRow : OpenClaim := { program := "yteaaidfjbhcofaa", sum := "11dc5478b16465d64d067dc938258c8ee8ab56dfc4e5e87bc92a83497b9f275e", func := "loop.example/g00809/laws.FnDerivatives", spec := "fnDerivatives", apart := false }
def FnDerivativesSaid : Prop := fnDerivativesRow.holds Try.pinned (OpenSpec.ofChange fnDerivativesSpec)

/-- ITS FALSE NEIGHBOUR: 'it returns false'. Refute it at one input. -/
def fnDerivativesWrong : ChangeSpec := { name := "fnDerivatives", fn := fun _ => fun
  | [d] => { results := [.lit (.bool false)], args := [d] }
  | _ => none }
def FnDerivativesWrongFalsely : Prop := fnDerivativesRow.holds Try.pinned (OpenSpec.ofChange fnDerivativesWrong)

/-- 'laws.FnExactSignedArea2': WHATEVER THE INPUT: true; the input reads as it did. -/
def fnExactSignedArea2Spec : ChangeSpec := { name := "fnExactSignedArea2", fn := fun _ => fun
  | [d] => { results := [.lit (.bool true)], args := [d] }
  | _ => none }
def fnExactSignedArea2Row : OpenClaim := { program := "yteaaidfjbhcofaa", sum := "11dc5478b16465d64d067dc938258c8ee8ab56dfc4e5e87bc92a83497b9f275e", func := "loop.example/g00809/laws.FnExactSignedArea2", spec := "fnExactSignedArea2", unfollowed := true, recurses := true, leaving := true, apart := false }
def FnExactSignedArea2Said : Prop := fnExactSignedArea2Row.holds Try.pinned (OpenSpec.ofChange fnExactSignedArea2Spec)

/-- ITS FALSE NEIGHBOUR: 'it returns false'. Refute it at one input. -/
def fnExactSignedArea2Wrong : ChangeSpec := { name := "fnExactSignedArea2", fn := fun _ => fun
  | [d] => { results := [.lit (.bool false)], args := [d] }
  | _ => none }
def FnExactSignedArea2WrongFalsely : Prop := fnExactSignedArea2Row.holds Try.pinned (OpenSpec.ofChange fnExactSignedArea2Wrong)

/-- 'laws.FnRaster': WHATEVER THE INPUT: true; the input reads as it did. -/
def fnRasterSpec : ChangeSpec := { name := "fnRaster", fn := fun _ => fun
  | [d] => { results := [.lit (.bool true)], args := [d] }
  | _ => none }
def fnRasterRow : OpenClaim := { program := "yteaaidfjbhcofaa", sum := "11dc5478b16465d64d067dc938258c8ee8ab56dfc4e5e87bc92a83497b9f275e", func := "loop.example/g00809/laws.FnRaster", spec := "fnRaster", unfollowed := true, recurses := true, leaving := true, apart := false }
def FnRasterSaid : Prop := fnRasterRow.holds Try.pinned (OpenSpec.ofChange fnRasterSpec)

/-- ITS FALSE NEIGHBOUR: 'it returns false'. Refute it at one input. -/
def fnRasterWrong : ChangeSpec := { name := "fnRaster", fn := fun _ => fun
  | [d] => { results := [.lit (.bool false)], args := [d] }
  | _ => none }
def FnRasterWrongFalsely : Prop := fnRasterRow.holds Try.pinned (OpenSpec.ofChange fnRasterWrong)

/-- 'laws.FnExactIsValidSurface': WHATEVER THE INPUT: true; the input reads as it did. -/
def fnExactIsValidSurfaceSpec : ChangeSpec := { name := "fnExactIsValidSurface", fn := fun _ => fun
  | [d1, d2] => { results := [.lit (.bool true)], args := [d1, d2] }
  | _ => none }
def fnExactIsValidSurfaceRow : OpenClaim := { program := "yteaaidfjbhcofaa", sum := "11dc5478b16465d64d067dc938258c8ee8ab56dfc4e5e87bc92a83497b9f275e", func := "loop.example/g00809/laws.FnExactIsValidSurface", spec := "fnExactIsValidSurface", unfollowed := true, recurses := true, leaving := true, apart := false }
def FnExactIsValidSurfaceSaid : Prop := fnExactIsValidSurfaceRow.holds Try.pinned (OpenSpec.ofChange fnExactIsValidSurfaceSpec)

/-- ITS FALSE NEIGHBOUR: 'it returns false'. Refute it at one input. -/
def fnExactIsValidSurfaceWrong : ChangeSpec := { name := "fnExactIsValidSurface", fn := fun _ => fun
  | [d1, d2] => { results := [.lit (.bool false)], args := [d1, d2] }
  | _ => none }
def FnExactIsValidSurfaceWrongFalsely : Prop := fnExactIsValidSurfaceRow.holds Try.pinned (OpenSpec.ofChange fnExactIsValidSurfaceWrong)

/-- 'laws.FnExactBucketBox': WHATEVER THE INPUT: true; the input reads as it did. -/
def fnExactBucketBoxSpec : ChangeSpec := { name := "fnExactBucketBox", fn := fun _ => fun
  | [d1, d2] => { results := [.lit (.bool true)], args := [d1, d2] }
  | _ => none }
def fnExactBucketBoxRow : OpenClaim := { program := "yteaaidfjbhcofaa", sum := "11dc5478b16465d64d067dc938258c8ee8ab56dfc4e5e87bc92a83497b9f275e", func := "loop.example/g00809/laws.FnExactBucketBox", spec := "fnExactBucketBox", apart := false }
def FnExactBucketBoxSaid : Prop := fnExactBucketBoxRow.holds Try.pinned (OpenSpec.ofChange fnExactBucketBoxSpec)

/-- ITS FALSE NEIGHBOUR: 'it returns false'. Refute it at one input. -/
def fnExactBucketBoxWrong : ChangeSpec := { name := "fnExactBucketBox", fn := fun _ => fun
  | [d1, d2] => { results := [.lit (.bool false)], args := [d1, d2] }
  | _ => none }
def FnExactBucketBoxWrongFalsely : Prop := fnExactBucketBoxRow.holds Try.pinned (OpenSpec.ofChange fnExactBucketBoxWrong)

/-- 'laws.FnExactIsValidTexture': WHATEVER THE INPUT: true; the input reads as it did. -/
def fnExactIsValidTextureSpec : ChangeSpec := { name := "fnExactIsValidTexture", fn := fun _ => fun
  | [d] => { results := [.lit (.bool true)], args := [d] }
  | _ => none }
def fnExactIsValidTextureRow : OpenClaim := { program := "yteaaidfjbhcofaa", sum := "11dc5478b16465d64d067dc938258c8ee8ab56dfc4e5e87bc92a83497b9f275e", func := "loop.example/g00809/laws.FnExactIsValidTexture", spec := "fnExactIsValidTexture", apart := false }
def FnExactIsValidTextureSaid : Prop := fnExactIsValidTextureRow.holds Try.pinned (OpenSpec.ofChange fnExactIsValidTextureSpec)

/-- ITS FALSE NEIGHBOUR: 'it returns false'. Refute it at one input. -/
def fnExactIsValidTextureWrong : ChangeSpec := { name := "fnExactIsValidTexture", fn := fun _ => fun
  | [d] => { results := [.lit (.bool false)], args := [d] }
  | _ => none }
def FnExactIsValidTextureWrongFalsely : Prop := fnExactIsValidTextureRow.holds Try.pinned (OpenSpec.ofChange fnExactIsValidTextureWrong)

/-- 'laws.FnExactNewCache': WHATEVER THE INPUT: true; the input reads as it did. -/
def fnExactNewCacheSpec : ChangeSpec := { name := "fnExactNewCache", fn := fun _ => fun
  | [d] => { results := [.lit (.bool true)], args := [d] }
  | _ => none }
def fnExactNewCacheRow : OpenClaim := { program := "yteaaidfjbhcofaa", sum := "11dc5478b16465d64d067dc938258c8ee8ab56dfc4e5e87bc92a83497b9f275e", func := "loop.example/g00809/laws.FnExactNewCache", spec := "fnExactNewCache", apart := false }
def FnExactNewCacheSaid : Prop := fnExactNewCacheRow.holds Try.pinned (OpenSpec.ofChange fnExactNewCacheSpec)

/-- ITS FALSE NEIGHBOUR: 'it returns false'. Refute it at one input. -/
def fnExactNewCacheWrong : ChangeSpec := { name := "fnExactNewCache", fn := fun _ => fun
  | [d] => { results := [.lit (.bool false)], args := [d] }
  | _ => none }
def FnExactNewCacheWrongFalsely : Prop := fnExactNewCacheRow.holds Try.pinned (OpenSpec.ofChange fnExactNewCacheWrong)

/-- 'laws.FnExactSameCache': WHATEVER THE INPUT: true; the input reads as it did. -/
def fnExactSameCacheSpec : ChangeSpec := { name := "fnExactSameCache", fn := fun _ => fun
  | [d1, d2] => { results := [.lit (.bool true)], args := [d1, d2] }
  | _ => none }
def fnExactSameCacheRow : OpenClaim := { program := "yteaaidfjbhcofaa", sum := "11dc5478b16465d64d067dc938258c8ee8ab56dfc4e5e87bc92a83497b9f275e", func := "loop.example/g00809/laws.FnExactSameCache", spec := "fnExactSameCache", apart := false }
def FnExactSameCacheSaid : Prop := fnExactSameCacheRow.holds Try.pinned (OpenSpec.ofChange fnExactSameCacheSpec)

/-- ITS FALSE NEIGHBOUR: 'it returns false'. Refute it at one input. -/
def fnExactSameCacheWrong : ChangeSpec := { name := "fnExactSameCache", fn := fun _ => fun
  | [d1, d2] => { results := [.lit (.bool false)], args := [d1, d2] }
  | _ => none }
def FnExactSameCacheWrongFalsely : Prop := fnExactSameCacheRow.holds Try.pinned (OpenSpec.ofChange fnExactSameCacheWrong)

/-- 'laws.FnExactIsValidCache': WHATEVER THE INPUT: true; the input reads as it did. -/
def fnExactIsValidCacheSpec : ChangeSpec := { name := "fnExactIsValidCache", fn := fun _ => fun
  | [d] => { results := [.lit (.bool true)], args := [d] }
  | _ => none }
def fnExactIsValidCacheRow : OpenClaim := { program := "yteaaidfjbhcofaa", sum := "11dc5478b16465d64d067dc938258c8ee8ab56dfc4e5e87bc92a83497b9f275e", func := "loop.example/g00809/laws.FnExactIsValidCache", spec := "fnExactIsValidCache", apart := false }
def FnExactIsValidCacheSaid : Prop := fnExactIsValidCacheRow.holds Try.pinned (OpenSpec.ofChange fnExactIsValidCacheSpec)

/-- ITS FALSE NEIGHBOUR: 'it returns false'. Refute it at one input. -/
def fnExactIsValidCacheWrong : ChangeSpec := { name := "fnExactIsValidCache", fn := fun _ => fun
  | [d] => { results := [.lit (.bool false)], args := [d] }
  | _ => none }
def FnExactIsValidCacheWrongFalsely : Prop := fnExactIsValidCacheRow.holds Try.pinned (OpenSpec.ofChange fnExactIsValidCacheWrong)

/-- 'laws.FnExactCovers': WHATEVER THE INPUT: true; the input reads as it did. -/
def fnExactCoversSpec : ChangeSpec := { name := "fnExactCovers", fn := fun _ => fun
  | [d1, d2, d3] => { results := [.lit (.bool true)], args := [d1, d2, d3] }
  | _ => none }
def fnExactCoversRow : OpenClaim := { program := "yteaaidfjbhcofaa", sum := "11dc5478b16465d64d067dc938258c8ee8ab56dfc4e5e87bc92a83497b9f275e", func := "loop.example/g00809/laws.FnExactCovers", spec := "fnExactCovers", unfollowed := true, recurses := true, leaving := true, apart := false }
def FnExactCoversSaid : Prop := fnExactCoversRow.holds Try.pinned (OpenSpec.ofChange fnExactCoversSpec)

/-- ITS FALSE NEIGHBOUR: 'it returns false'. Refute it at one input. -/
def fnExactCoversWrong : ChangeSpec := { name := "fnExactCovers", fn := fun _ => fun
  | [d1, d2, d3] => { results := [.lit (.bool false)], args := [d1, d2, d3] }
  | _ => none }
def FnExactCoversWrongFalsely : Prop := fnExactCoversRow.holds Try.pinned (OpenSpec.ofChange fnExactCoversWrong)

/-- 'laws.FnExactDifferences': WHATEVER THE INPUT: true; the input reads as it did. -/
def fnExactDifferencesSpec : ChangeSpec := { name := "fnExactDifferences", fn := fun _ => fun
  | [d1, d2, d3] => { results := [.lit (.bool true)], args := [d1, d2, d3] }
  | _ => none }
def fnExactDifferencesRow : OpenClaim := { program := "yteaaidfjbhcofaa", sum := "11dc5478b16465d64d067dc938258c8ee8ab56dfc4e5e87bc92a83497b9f275e", func := "loop.example/g00809/laws.FnExactDifferences", spec := "fnExactDifferences", apart := false }
def FnExactDifferencesSaid : Prop := fnExactDifferencesRow.holds Try.pinned (OpenSpec.ofChange fnExactDifferencesSpec)

/-- ITS FALSE NEIGHBOUR: 'it returns false'. Refute it at one input. -/
def fnExactDifferencesWrong : ChangeSpec := { name := "fnExactDifferences", fn := fun _ => fun
  | [d1, d2, d3] => { results := [.lit (.bool false)], args := [d1, d2, d3] }
  | _ => none }
def FnExactDifferencesWrongFalsely : Prop := fnExactDifferencesRow.holds Try.pinned (OpenSpec.ofChange fnExactDifferencesWrong)

/-- 'laws.FnExactIsSorted': WHATEVER THE INPUT: true; the input reads as it did. -/
def fnExactIsSortedSpec : ChangeSpec := { name := "fnExactIsSorted", fn := fun _ => fun
  | [d] => { results := [.lit (.bool true)], args := [d] }
  | _ => none }
def fnExactIsSortedRow : OpenClaim := { program := "yteaaidfjbhcofaa", sum := "11dc5478b16465d64d067dc938258c8ee8ab56dfc4e5e87bc92a83497b9f275e", func := "loop.example/g00809/laws.FnExactIsSorted", spec := "fnExactIsSorted", apart := false }
def FnExactIsSortedSaid : Prop := fnExactIsSortedRow.holds Try.pinned (OpenSpec.ofChange fnExactIsSortedSpec)

/-- ITS FALSE NEIGHBOUR: 'it returns false'. Refute it at one input. -/
def fnExactIsSortedWrong : ChangeSpec := { name := "fnExactIsSorted", fn := fun _ => fun
  | [d] => { results := [.lit (.bool false)], args := [d] }
  | _ => none }
def FnExactIsSortedWrongFalsely : Prop := fnExactIsSortedRow.holds Try.pinned (OpenSpec.ofChange fnExactIsSortedWrong)

/-- 'laws.FnExactSurfaceNear': WHATEVER THE INPUT: true; the input reads as it did. -/
def fnExactSurfaceNearSpec : ChangeSpec := { name := "fnExactSurfaceNear", fn := fun _ => fun
  | [d] => { results := [.lit (.bool true)], args := [d] }
  | _ => none }
def fnExactSurfaceNearRow : OpenClaim := { program := "yteaaidfjbhcofaa", sum := "11dc5478b16465d64d067dc938258c8ee8ab56dfc4e5e87bc92a83497b9f275e", func := "loop.example/g00809/laws.FnExactSurfaceNear", spec := "fnExactSurfaceNear", unfollowed := true, recurses := true, leaving := true, apart := false }
def FnExactSurfaceNearSaid : Prop := fnExactSurfaceNearRow.holds Try.pinned (OpenSpec.ofChange fnExactSurfaceNearSpec)

/-- ITS FALSE NEIGHBOUR: 'it returns false'. Refute it at one input. -/
def fnExactSurfaceNearWrong : ChangeSpec := { name := "fnExactSurfaceNear", fn := fun _ => fun
  | [d] => { results := [.lit (.bool false)], args := [d] }
  | _ => none }
def FnExactSurfaceNearWrongFalsely : Prop := fnExactSurfaceNearRow.holds Try.pinned (OpenSpec.ofChange fnExactSurfaceNearWrong)

/-- 'laws.FnExactAxisRange': WHATEVER THE INPUT: true; the input reads as it did. -/
def fnExactAxisRangeSpec : ChangeSpec := { name := "fnExactAxisRange", fn := fun _ => fun
  | [d1, d2, d3, d4, d5, d6] => { results := [.lit (.bool true)], args := [d1, d2, d3, d4, d5, d6] }
  | _ => none }
def fnExactAxisRangeRow : OpenClaim := { program := "yteaaidfjbhcofaa", sum := "11dc5478b16465d64d067dc938258c8ee8ab56dfc4e5e87bc92a83497b9f275e", func := "loop.example/g00809/laws.FnExactAxisRange", spec := "fnExactAxisRange", apart := false }
def FnExactAxisRangeSaid : Prop := fnExactAxisRangeRow.holds Try.pinned (OpenSpec.ofChange fnExactAxisRangeSpec)

/-- ITS FALSE NEIGHBOUR: 'it returns false'. Refute it at one input. -/
def fnExactAxisRangeWrong : ChangeSpec := { name := "fnExactAxisRange", fn := fun _ => fun
  | [d1, d2, d3, d4, d5, d6] => { results := [.lit (.bool false)], args := [d1, d2, d3, d4, d5, d6] }
  | _ => none }
def FnExactAxisRangeWrongFalsely : Prop := fnExactAxisRangeRow.holds Try.pinned (OpenSpec.ofChange fnExactAxisRangeWrong)

/-- 'laws.FnExactBucketsOf': WHATEVER THE INPUT: true; the input reads as it did. -/
def fnExactBucketsOfSpec : ChangeSpec := { name := "fnExactBucketsOf", fn := fun _ => fun
  | [d1, d2] => { results := [.lit (.bool true)], args := [d1, d2] }
  | _ => none }
def fnExactBucketsOfRow : OpenClaim := { program := "yteaaidfjbhcofaa", sum := "11dc5478b16465d64d067dc938258c8ee8ab56dfc4e5e87bc92a83497b9f275e", func := "loop.example/g00809/laws.FnExactBucketsOf", spec := "fnExactBucketsOf", unfollowed := true, recurses := true, leaving := true, apart := false }
def FnExactBucketsOfSaid : Prop := fnExactBucketsOfRow.holds Try.pinned (OpenSpec.ofChange fnExactBucketsOfSpec)

/-- ITS FALSE NEIGHBOUR: 'it returns false'. Refute it at one input. -/
def fnExactBucketsOfWrong : ChangeSpec := { name := "fnExactBucketsOf", fn := fun _ => fun
  | [d1, d2] => { results := [.lit (.bool false)], args := [d1, d2] }
  | _ => none }
def FnExactBucketsOfWrongFalsely : Prop := fnExactBucketsOfRow.holds Try.pinned (OpenSpec.ofChange fnExactBucketsOfWrong)

/-- 'laws.FnFragments': WHATEVER THE INPUT: true; the input reads as it did. -/
def fnFragmentsSpec : ChangeSpec := { name := "fnFragments", fn := fun _ => fun
  | [d] => { results := [.lit (.bool true)], args := [d] }
  | _ => none }
def fnFragmentsRow : OpenClaim := { program := "yteaaidfjbhcofaa", sum := "11dc5478b16465d64d067dc938258c8ee8ab56dfc4e5e87bc92a83497b9f275e", func := "loop.example/g00809/laws.FnFragments", spec := "fnFragments", unfollowed := true, recurses := true, leaving := true, apart := false }
def FnFragmentsSaid : Prop := fnFragmentsRow.holds Try.pinned (OpenSpec.ofChange fnFragmentsSpec)

/-- ITS FALSE NEIGHBOUR: 'it returns false'. Refute it at one input. -/
def fnFragmentsWrong : ChangeSpec := { name := "fnFragments", fn := fun _ => fun
  | [d] => { results := [.lit (.bool false)], args := [d] }
  | _ => none }
def FnFragmentsWrongFalsely : Prop := fnFragmentsRow.holds Try.pinned (OpenSpec.ofChange fnFragmentsWrong)

/-- 'laws.FnExactSurfaceBox': WHATEVER THE INPUT: true; the input reads as it did. -/
def fnExactSurfaceBoxSpec : ChangeSpec := { name := "fnExactSurfaceBox", fn := fun _ => fun
  | [d] => { results := [.lit (.bool true)], args := [d] }
  | _ => none }
def fnExactSurfaceBoxRow : OpenClaim := { program := "yteaaidfjbhcofaa", sum := "11dc5478b16465d64d067dc938258c8ee8ab56dfc4e5e87bc92a83497b9f275e", func := "loop.example/g00809/laws.FnExactSurfaceBox", spec := "fnExactSurfaceBox", unfollowed := true, recurses := true, leaving := true, apart := false }
def FnExactSurfaceBoxSaid : Prop := fnExactSurfaceBoxRow.holds Try.pinned (OpenSpec.ofChange fnExactSurfaceBoxSpec)

/-- ITS FALSE NEIGHBOUR: 'it returns false'. Refute it at one input. -/
def fnExactSurfaceBoxWrong : ChangeSpec := { name := "fnExactSurfaceBox", fn := fun _ => fun
  | [d] => { results := [.lit (.bool false)], args := [d] }
  | _ => none }
def FnExactSurfaceBoxWrongFalsely : Prop := fnExactSurfaceBoxRow.holds Try.pinned (OpenSpec.ofChange fnExactSurfaceBoxWrong)

/-- 'laws.FnExactSurfaceAt': WHATEVER THE INPUT: true; the input reads as it did. -/
def fnExactSurfaceAtSpec : ChangeSpec := { name := "fnExactSurfaceAt", fn := fun _ => fun
  | [d1, d2] => { results := [.lit (.bool true)], args := [d1, d2] }
  | _ => none }
def fnExactSurfaceAtRow : OpenClaim := { program := "yteaaidfjbhcofaa", sum := "11dc5478b16465d64d067dc938258c8ee8ab56dfc4e5e87bc92a83497b9f275e", func := "loop.example/g00809/laws.FnExactSurfaceAt", spec := "fnExactSurfaceAt", unfollowed := true, recurses := true, leaving := true, apart := false }
def FnExactSurfaceAtSaid : Prop := fnExactSurfaceAtRow.holds Try.pinned (OpenSpec.ofChange fnExactSurfaceAtSpec)

/-- ITS FALSE NEIGHBOUR: 'it returns false'. Refute it at one input. -/
def fnExactSurfaceAtWrong : ChangeSpec := { name := "fnExactSurfaceAt", fn := fun _ => fun
  | [d1, d2] => { results := [.lit (.bool false)], args := [d1, d2] }
  | _ => none }
def FnExactSurfaceAtWrongFalsely : Prop := fnExactSurfaceAtRow.holds Try.pinned (OpenSpec.ofChange fnExactSurfaceAtWrong)

/-- 'laws.FnExactTriangleBounds': WHATEVER THE INPUT: true; the input reads as it did. -/
def fnExactTriangleBoundsSpec : ChangeSpec := { name := "fnExactTriangleBounds", fn := fun _ => fun
  | [d] => { results := [.lit (.bool true)], args := [d] }
  | _ => none }
def fnExactTriangleBoundsRow : OpenClaim := { program := "yteaaidfjbhcofaa", sum := "11dc5478b16465d64d067dc938258c8ee8ab56dfc4e5e87bc92a83497b9f275e", func := "loop.example/g00809/laws.FnExactTriangleBounds", spec := "fnExactTriangleBounds", unfollowed := true, recurses := true, leaving := true, apart := false }
def FnExactTriangleBoundsSaid : Prop := fnExactTriangleBoundsRow.holds Try.pinned (OpenSpec.ofChange fnExactTriangleBoundsSpec)

/-- ITS FALSE NEIGHBOUR: 'it returns false'. Refute it at one input. -/
def fnExactTriangleBoundsWrong : ChangeSpec := { name := "fnExactTriangleBounds", fn := fun _ => fun
  | [d] => { results := [.lit (.bool false)], args := [d] }
  | _ => none }
def FnExactTriangleBoundsWrongFalsely : Prop := fnExactTriangleBoundsRow.holds Try.pinned (OpenSpec.ofChange fnExactTriangleBoundsWrong)

/-- 'laws.FnExactDepthAt': WHATEVER THE INPUT: true; the input reads as it did. -/
def fnExactDepthAtSpec : ChangeSpec := { name := "fnExactDepthAt", fn := fun _ => fun
  | [d1, d2, d3] => { results := [.lit (.bool true)], args := [d1, d2, d3] }
  | _ => none }
def fnExactDepthAtRow : OpenClaim := { program := "yteaaidfjbhcofaa", sum := "11dc5478b16465d64d067dc938258c8ee8ab56dfc4e5e87bc92a83497b9f275e", func := "loop.example/g00809/laws.FnExactDepthAt", spec := "fnExactDepthAt", unfollowed := true, recurses := true, leaving := true, apart := false }
def FnExactDepthAtSaid : Prop := fnExactDepthAtRow.holds Try.pinned (OpenSpec.ofChange fnExactDepthAtSpec)

/-- ITS FALSE NEIGHBOUR: 'it returns false'. Refute it at one input. -/
def fnExactDepthAtWrong : ChangeSpec := { name := "fnExactDepthAt", fn := fun _ => fun
  | [d1, d2, d3] => { results := [.lit (.bool false)], args := [d1, d2, d3] }
  | _ => none }
def FnExactDepthAtWrongFalsely : Prop := fnExactDepthAtRow.holds Try.pinned (OpenSpec.ofChange fnExactDepthAtWrong)

/- THE SECOND FORM. 'bulk': how many values and letters a reading holds, each counted each time it is reached (what is shared counts as often as it is met; a slice's spare places count too). A statement '..UptoSaid' is the law's where the arguments, and the package variables that the reading takes, are together of bulk at most 1048576: NARROWER than '..Said'. Prove '..Said' where nothing that the law and all that it calls make is longer than what came in: it says more and counts as full. Else prove '..UptoSaid'. A law counts once. -/
mutual
def uptoBulk {H : Type} : DataW H → Nat
  | .lit (.string bytes) => bytes.length + 1
  | .lit _ => 1
  | .nil => 1
  | .ptr d => uptoBulk d + 1
  | .slice elems spare => uptoBulkAll elems + uptoBulkAll spare + 1
  | .agg parts => uptoBulkAll parts + 1
  | .iface _ d => uptoBulk d + 1
  | .map entries => uptoBulkEntries entries + 1
  | .held _ => 1
def uptoBulkAll {H : Type} : List (DataW H) → Nat
  | [] => 0
  | d :: r => uptoBulk d + uptoBulkAll r
def uptoBulkEntries {H : Type} : List (Lit × DataW H) → Nat
  | [] => 0
  | x :: r => uptoBulkEntry x + uptoBulkEntries r
def uptoBulkEntry {H : Type} : Lit × DataW H → Nat
  | (.string bytes, d) => bytes.length + uptoBulk d + 1
  | (_, d) => uptoBulk d + 1
 end
def uptoSmall : (H : Type) → List (DataW H) → Bool := fun _ ds => decide (uptoBulkAll ds ≤ 1048576)
def OpenSpec.upto (s : _root_.Go.ChangeSpec) : _root_.Go.OpenSpec := { _root_.Go.OpenSpec.ofChange s with cond := some uptoSmall }

/-- 'laws.FnDerivatives', WHERE WHAT IT READS IS OF BULK AT MOST 1048576: true; the input reads as it did. -/
def fnDerivativesUptoRow : OpenClaim := { program := "yteaaidfjbhcofaa", sum := "11dc5478b16465d64d067dc938258c8ee8ab56dfc4e5e87bc92a83497b9f275e", func := "loop.example/g00809/laws.FnDerivatives", spec := "fnDerivatives", apart := false, narrowed := true }
def FnDerivativesUptoSaid : Prop := fnDerivativesUptoRow.holds Try.pinned (OpenSpec.upto fnDerivativesSpec)

/-- 'laws.FnExactSignedArea2', WHERE WHAT IT READS IS OF BULK AT MOST 1048576: true; the input reads as it did. -/
def fnExactSignedArea2UptoRow : OpenClaim := { program := "yteaaidfjbhcofaa", sum := "11dc5478b16465d64d067dc938258c8ee8ab56dfc4e5e87bc92a83497b9f275e", func := "loop.example/g00809/laws.FnExactSignedArea2", spec := "fnExactSignedArea2", unfollowed := true, recurses := true, leaving := true, apart := false, narrowed := true }
def FnExactSignedArea2UptoSaid : Prop := fnExactSignedArea2UptoRow.holds Try.pinned (OpenSpec.upto fnExactSignedArea2Spec)

/-- 'laws.FnRaster', WHERE WHAT IT READS IS OF BULK AT MOST 1048576: true; the input reads as it did. -/
def fnRasterUptoRow : OpenClaim := { program := "yteaaidfjbhcofaa", sum := "11dc5478b16465d64d067dc938258c8ee8ab56dfc4e5e87bc92a83497b9f275e", func := "loop.example/g00809/laws.FnRaster", spec := "fnRaster", unfollowed := true, recurses := true, leaving := true, apart := false, narrowed := true }
def FnRasterUptoSaid : Prop := fnRasterUptoRow.holds Try.pinned (OpenSpec.upto fnRasterSpec)

/-- 'laws.FnExactIsValidSurface', WHERE WHAT IT READS IS OF BULK AT MOST 1048576: true; the input reads as it did. -/
def fnExactIsValidSurfaceUptoRow : OpenClaim := { program := "yteaaidfjbhcofaa", sum := "11dc5478b16465d64d067dc938258c8ee8ab56dfc4e5e87bc92a83497b9f275e", func := "loop.example/g00809/laws.FnExactIsValidSurface", spec := "fnExactIsValidSurface", unfollowed := true, recurses := true, leaving := true, apart := false, narrowed := true }
def FnExactIsValidSurfaceUptoSaid : Prop := fnExactIsValidSurfaceUptoRow.holds Try.pinned (OpenSpec.upto fnExactIsValidSurfaceSpec)

/-- 'laws.FnExactBucketBox', WHERE WHAT IT READS IS OF BULK AT MOST 1048576: true; the input reads as it did. -/
def fnExactBucketBoxUptoRow : OpenClaim := { program := "yteaaidfjbhcofaa", sum := "11dc5478b16465d64d067dc938258c8ee8ab56dfc4e5e87bc92a83497b9f275e", func := "loop.example/g00809/laws.FnExactBucketBox", spec := "fnExactBucketBox", apart := false, narrowed := true }
def FnExactBucketBoxUptoSaid : Prop := fnExactBucketBoxUptoRow.holds Try.pinned (OpenSpec.upto fnExactBucketBoxSpec)

/-- 'laws.FnExactIsValidTexture', WHERE WHAT IT READS IS OF BULK AT MOST 1048576: true; the input reads as it did. -/
def fnExactIsValidTextureUptoRow : OpenClaim := { program := "yteaaidfjbhcofaa", sum := "11dc5478b16465d64d067dc938258c8ee8ab56dfc4e5e87bc92a83497b9f275e", func := "loop.example/g00809/laws.FnExactIsValidTexture", spec := "fnExactIsValidTexture", apart := false, narrowed := true }
def FnExactIsValidTextureUptoSaid : Prop := fnExactIsValidTextureUptoRow.holds Try.pinned (OpenSpec.upto fnExactIsValidTextureSpec)

/-- 'laws.FnExactNewCache', WHERE WHAT IT READS IS OF BULK AT MOST 1048576: true; the input reads as it did. -/
def fnExactNewCacheUptoRow : OpenClaim := { program := "yteaaidfjbhcofaa", sum := "11dc5478b16465d64d067dc938258c8ee8ab56dfc4e5e87bc92a83497b9f275e", func := "loop.example/g00809/laws.FnExactNewCache", spec := "fnExactNewCache", apart := false, narrowed := true }
def FnExactNewCacheUptoSaid : Prop := fnExactNewCacheUptoRow.holds Try.pinned (OpenSpec.upto fnExactNewCacheSpec)

/-- 'laws.FnExactSameCache', WHERE WHAT IT READS IS OF BULK AT MOST 1048576: true; the input reads as it did. -/
def fnExactSameCacheUptoRow : OpenClaim := { program := "yteaaidfjbhcofaa", sum := "11dc5478b16465d64d067dc938258c8ee8ab56dfc4e5e87bc92a83497b9f275e", func := "loop.example/g00809/laws.FnExactSameCache", spec := "fnExactSameCache", apart := false, narrowed := true }
def FnExactSameCacheUptoSaid : Prop := fnExactSameCacheUptoRow.holds Try.pinned (OpenSpec.upto fnExactSameCacheSpec)

/-- 'laws.FnExactIsValidCache', WHERE WHAT IT READS IS OF BULK AT MOST 1048576: true; the input reads as it did. -/
def fnExactIsValidCacheUptoRow : OpenClaim := { program := "yteaaidfjbhcofaa", sum := "11dc5478b16465d64d067dc938258c8ee8ab56dfc4e5e87bc92a83497b9f275e", func := "loop.example/g00809/laws.FnExactIsValidCache", spec := "fnExactIsValidCache", apart := false, narrowed := true }
def FnExactIsValidCacheUptoSaid : Prop := fnExactIsValidCacheUptoRow.holds Try.pinned (OpenSpec.upto fnExactIsValidCacheSpec)

/-- 'laws.FnExactCovers', WHERE WHAT IT READS IS OF BULK AT MOST 1048576: true; the input reads as it did. -/
def fnExactCoversUptoRow : OpenClaim := { program := "yteaaidfjbhcofaa", sum := "11dc5478b16465d64d067dc938258c8ee8ab56dfc4e5e87bc92a83497b9f275e", func := "loop.example/g00809/laws.FnExactCovers", spec := "fnExactCovers", unfollowed := true, recurses := true, leaving := true, apart := false, narrowed := true }
def FnExactCoversUptoSaid : Prop := fnExactCoversUptoRow.holds Try.pinned (OpenSpec.upto fnExactCoversSpec)

/-- 'laws.FnExactDifferences', WHERE WHAT IT READS IS OF BULK AT MOST 1048576: true; the input reads as it did. -/
def fnExactDifferencesUptoRow : OpenClaim := { program := "yteaaidfjbhcofaa", sum := "11dc5478b16465d64d067dc938258c8ee8ab56dfc4e5e87bc92a83497b9f275e", func := "loop.example/g00809/laws.FnExactDifferences", spec := "fnExactDifferences", apart := false, narrowed := true }
def FnExactDifferencesUptoSaid : Prop := fnExactDifferencesUptoRow.holds Try.pinned (OpenSpec.upto fnExactDifferencesSpec)

/-- 'laws.FnExactIsSorted', WHERE WHAT IT READS IS OF BULK AT MOST 1048576: true; the input reads as it did. -/
def fnExactIsSortedUptoRow : OpenClaim := { program := "yteaaidfjbhcofaa", sum := "11dc5478b16465d64d067dc938258c8ee8ab56dfc4e5e87bc92a83497b9f275e", func := "loop.example/g00809/laws.FnExactIsSorted", spec := "fnExactIsSorted", apart := false, narrowed := true }
def FnExactIsSortedUptoSaid : Prop := fnExactIsSortedUptoRow.holds Try.pinned (OpenSpec.upto fnExactIsSortedSpec)

/-- 'laws.FnExactSurfaceNear', WHERE WHAT IT READS IS OF BULK AT MOST 1048576: true; the input reads as it did. -/
def fnExactSurfaceNearUptoRow : OpenClaim := { program := "yteaaidfjbhcofaa", sum := "11dc5478b16465d64d067dc938258c8ee8ab56dfc4e5e87bc92a83497b9f275e", func := "loop.example/g00809/laws.FnExactSurfaceNear", spec := "fnExactSurfaceNear", unfollowed := true, recurses := true, leaving := true, apart := false, narrowed := true }
def FnExactSurfaceNearUptoSaid : Prop := fnExactSurfaceNearUptoRow.holds Try.pinned (OpenSpec.upto fnExactSurfaceNearSpec)

/-- 'laws.FnExactAxisRange', WHERE WHAT IT READS IS OF BULK AT MOST 1048576: true; the input reads as it did. -/
def fnExactAxisRangeUptoRow : OpenClaim := { program := "yteaaidfjbhcofaa", sum := "11dc5478b16465d64d067dc938258c8ee8ab56dfc4e5e87bc92a83497b9f275e", func := "loop.example/g00809/laws.FnExactAxisRange", spec := "fnExactAxisRange", apart := false, narrowed := true }
def FnExactAxisRangeUptoSaid : Prop := fnExactAxisRangeUptoRow.holds Try.pinned (OpenSpec.upto fnExactAxisRangeSpec)

/-- 'laws.FnExactBucketsOf', WHERE WHAT IT READS IS OF BULK AT MOST 1048576: true; the input reads as it did. -/
def fnExactBucketsOfUptoRow : OpenClaim := { program := "yteaaidfjbhcofaa", sum := "11dc5478b16465d64d067dc938258c8ee8ab56dfc4e5e87bc92a83497b9f275e", func := "loop.example/g00809/laws.FnExactBucketsOf", spec := "fnExactBucketsOf", unfollowed := true, recurses := true, leaving := true, apart := false, narrowed := true }
def FnExactBucketsOfUptoSaid : Prop := fnExactBucketsOfUptoRow.holds Try.pinned (OpenSpec.upto fnExactBucketsOfSpec)

/-- 'laws.FnFragments', WHERE WHAT IT READS IS OF BULK AT MOST 1048576: true; the input reads as it did. -/
def fnFragmentsUptoRow : OpenClaim := { program := "yteaaidfjbhcofaa", sum := "11dc5478b16465d64d067dc938258c8ee8ab56dfc4e5e87bc92a83497b9f275e", func := "loop.example/g00809/laws.FnFragments", spec := "fnFragments", unfollowed := true, recurses := true, leaving := true, apart := false, narrowed := true }
def FnFragmentsUptoSaid : Prop := fnFragmentsUptoRow.holds Try.pinned (OpenSpec.upto fnFragmentsSpec)

/-- 'laws.FnExactSurfaceBox', WHERE WHAT IT READS IS OF BULK AT MOST 1048576: true; the input reads as it did. -/
def fnExactSurfaceBoxUptoRow : OpenClaim := { program := "yteaaidfjbhcofaa", sum := "11dc5478b16465d64d067dc938258c8ee8ab56dfc4e5e87bc92a83497b9f275e", func := "loop.example/g00809/laws.FnExactSurfaceBox", spec := "fnExactSurfaceBox", unfollowed := true, recurses := true, leaving := true, apart := false, narrowed := true }
def FnExactSurfaceBoxUptoSaid : Prop := fnExactSurfaceBoxUptoRow.holds Try.pinned (OpenSpec.upto fnExactSurfaceBoxSpec)

/-- 'laws.FnExactSurfaceAt', WHERE WHAT IT READS IS OF BULK AT MOST 1048576: true; the input reads as it did. -/
def fnExactSurfaceAtUptoRow : OpenClaim := { program := "yteaaidfjbhcofaa", sum := "11dc5478b16465d64d067dc938258c8ee8ab56dfc4e5e87bc92a83497b9f275e", func := "loop.example/g00809/laws.FnExactSurfaceAt", spec := "fnExactSurfaceAt", unfollowed := true, recurses := true, leaving := true, apart := false, narrowed := true }
def FnExactSurfaceAtUptoSaid : Prop := fnExactSurfaceAtUptoRow.holds Try.pinned (OpenSpec.upto fnExactSurfaceAtSpec)

/-- 'laws.FnExactTriangleBounds', WHERE WHAT IT READS IS OF BULK AT MOST 1048576: true; the input reads as it did. -/
def fnExactTriangleBoundsUptoRow : OpenClaim := { program := "yteaaidfjbhcofaa", sum := "11dc5478b16465d64d067dc938258c8ee8ab56dfc4e5e87bc92a83497b9f275e", func := "loop.example/g00809/laws.FnExactTriangleBounds", spec := "fnExactTriangleBounds", unfollowed := true, recurses := true, leaving := true, apart := false, narrowed := true }
def FnExactTriangleBoundsUptoSaid : Prop := fnExactTriangleBoundsUptoRow.holds Try.pinned (OpenSpec.upto fnExactTriangleBoundsSpec)

/-- 'laws.FnExactDepthAt', WHERE WHAT IT READS IS OF BULK AT MOST 1048576: true; the input reads as it did. -/
def fnExactDepthAtUptoRow : OpenClaim := { program := "yteaaidfjbhcofaa", sum := "11dc5478b16465d64d067dc938258c8ee8ab56dfc4e5e87bc92a83497b9f275e", func := "loop.example/g00809/laws.FnExactDepthAt", spec := "fnExactDepthAt", unfollowed := true, recurses := true, leaving := true, apart := false, narrowed := true }
def FnExactDepthAtUptoSaid : Prop := fnExactDepthAtUptoRow.holds Try.pinned (OpenSpec.upto fnExactDepthAtSpec)

end Rows
end Go.Proofs.Yteaaidfjbhcofaa
