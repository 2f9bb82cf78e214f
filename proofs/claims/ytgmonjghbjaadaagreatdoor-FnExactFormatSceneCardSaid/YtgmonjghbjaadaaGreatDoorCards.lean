/-
  DERIVED. GIVEN WITH THE SEED: THE CARDS: each row of YtgmonjghbjaadaaGreatDoorRows.lean that lists a variable, with what it lists TIED to the program's text (the seventh form; the later family's looks); each row that meets fmt, with fmt's text TOLD by the authors' own Lean function (tested against real Go, not proved from fmt's source: count such statements apart). THE CARD IS WHAT COUNTS. Prove the row's statement (the work); the ties are given (YtgmonjghbjaadaaGreatDoorTie.lean); close each card by the builder's one call (the guide's Derived/Test/ToyasCard.lean, 'card_holds'). Laid BY PROGRAM, IN A SANDBOX (cutbox-door.mjs). By AI agents, Wed Nov 11 2026. No macro, syntax, notation, axiom, sorry.
-/
import Derived.Test.YtgmonjghbjaadaaGreatDoorRows
import GoSem.ClaimSeven
namespace Go.Proofs.YtgmonjghbjaadaaGreatDoor
namespace Rows

/-- THE TIED CARD OF 'laws.FnExactFormatScene'. -/
def fnExactFormatSceneCard : Claim7 := { stood := { row := fnExactFormatSceneRow, standIns := [], harness := (true, "7fa400f9773922b29cf8219a62e4d43fe84aceedd4851460af145b195a7435af"), looks := true }, kinds := [], alts := [], laidByText := true, laidKinds := [.data, .data, .data, .data, .pinned], laidTests := true, laidLooks := .later }
def FnExactFormatSceneCardSaid : Prop := Claim7.holds Tryz.pinned (.plain (OpenSpec.ofChange fnExactFormatSceneSpec)) fnExactFormatSceneCard

/-- THE SECOND FORM's CARD OF 'laws.FnExactFormatScene'. -/
def fnExactFormatSceneUptoCard : Claim7 := { stood := { row := fnExactFormatSceneUptoRow, standIns := [], harness := (true, "7fa400f9773922b29cf8219a62e4d43fe84aceedd4851460af145b195a7435af"), looks := true }, kinds := [], alts := [], laidByText := true, laidKinds := [.data, .data, .data, .data, .pinned], laidTests := true, laidLooks := .later }
def FnExactFormatSceneUptoCardSaid : Prop := Claim7.holds Tryz.pinned (.plain (OpenSpec.upto fnExactFormatSceneSpec)) fnExactFormatSceneUptoCard
end Rows
end Go.Proofs.YtgmonjghbjaadaaGreatDoor
