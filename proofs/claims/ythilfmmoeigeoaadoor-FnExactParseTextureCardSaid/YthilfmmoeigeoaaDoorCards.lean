/-
  DERIVED. GIVEN WITH THE SEED: THE CARDS: each row of YthilfmmoeigeoaaDoorRows.lean that lists a variable, with what it lists TIED to the program's text (the seventh form; the later family's looks); each row that meets fmt, with fmt's text TOLD by the authors' own Lean function (tested against real Go, not proved from fmt's source: count such statements apart). THE CARD IS WHAT COUNTS. Prove the row's statement (the work); the ties are given (YthilfmmoeigeoaaDoorTie.lean); close each card by the builder's one call (the guide's Derived/Test/ToyasCard.lean, 'card_holds'). Laid BY PROGRAM, IN A SANDBOX (cutbox-door.mjs). By AI agents, Wed Nov 11 2026. No macro, syntax, notation, axiom, sorry.
-/
import Derived.Test.YthilfmmoeigeoaaDoorRows
import GoSem.ClaimSeven
namespace Go.Proofs.YthilfmmoeigeoaaDoor
namespace Rows

/-- THE TIED CARD OF 'laws.FnExactFormatTexture'. -/
def fnExactFormatTextureCard : Claim7 := { stood := { row := fnExactFormatTextureRow, standIns := [], harness := (true, "065e27afe2b15a252f768930810805fc23c8e0b971ed7ea93fd05743c90184d2"), looks := true }, kinds := [], alts := [], laidByText := true, laidKinds := [.data, .data, .data], laidTests := true, laidLooks := .later }
def FnExactFormatTextureCardSaid : Prop := Claim7.holds Tryd.pinned (.plain (OpenSpec.ofChange fnExactFormatTextureSpec)) fnExactFormatTextureCard

/-- THE TIED CARD OF 'laws.FnExactFormatCode'. -/
def fnExactFormatCodeCard : Claim7 := { stood := { row := fnExactFormatCodeRow, standIns := [], harness := (true, "065e27afe2b15a252f768930810805fc23c8e0b971ed7ea93fd05743c90184d2"), looks := true }, kinds := [], alts := [], laidByText := true, laidKinds := [.data, .data, .data], laidTests := true, laidLooks := .later }
def FnExactFormatCodeCardSaid : Prop := Claim7.holds Tryd.pinned (.plain (OpenSpec.ofChange fnExactFormatCodeSpec)) fnExactFormatCodeCard

/-- THE TIED CARD OF 'laws.FnExactParseTexture'. -/
def fnExactParseTextureCard : Claim7 := { stood := { row := fnExactParseTextureRow, standIns := [], harness := (true, "065e27afe2b15a252f768930810805fc23c8e0b971ed7ea93fd05743c90184d2"), looks := true }, kinds := [], alts := [], laidByText := true, laidKinds := [.data, .data, .data, .sentinel, .sentinel], laidTests := true, laidLooks := .later }
def FnExactParseTextureCardSaid : Prop := Claim7.holds Tryd.pinned (.plain (OpenSpec.ofChange fnExactParseTextureSpec)) fnExactParseTextureCard

/-- THE SECOND FORM's CARD OF 'laws.FnExactFormatTexture'. -/
def fnExactFormatTextureUptoCard : Claim7 := { stood := { row := fnExactFormatTextureUptoRow, standIns := [], harness := (true, "065e27afe2b15a252f768930810805fc23c8e0b971ed7ea93fd05743c90184d2"), looks := true }, kinds := [], alts := [], laidByText := true, laidKinds := [.data, .data, .data], laidTests := true, laidLooks := .later }
def FnExactFormatTextureUptoCardSaid : Prop := Claim7.holds Tryd.pinned (.plain (OpenSpec.upto fnExactFormatTextureSpec)) fnExactFormatTextureUptoCard

/-- THE SECOND FORM's CARD OF 'laws.FnExactFormatCode'. -/
def fnExactFormatCodeUptoCard : Claim7 := { stood := { row := fnExactFormatCodeUptoRow, standIns := [], harness := (true, "065e27afe2b15a252f768930810805fc23c8e0b971ed7ea93fd05743c90184d2"), looks := true }, kinds := [], alts := [], laidByText := true, laidKinds := [.data, .data, .data], laidTests := true, laidLooks := .later }
def FnExactFormatCodeUptoCardSaid : Prop := Claim7.holds Tryd.pinned (.plain (OpenSpec.upto fnExactFormatCodeSpec)) fnExactFormatCodeUptoCard

/-- THE SECOND FORM's CARD OF 'laws.FnExactParseTexture'. -/
def fnExactParseTextureUptoCard : Claim7 := { stood := { row := fnExactParseTextureUptoRow, standIns := [], harness := (true, "065e27afe2b15a252f768930810805fc23c8e0b971ed7ea93fd05743c90184d2"), looks := true }, kinds := [], alts := [], laidByText := true, laidKinds := [.data, .data, .data, .sentinel, .sentinel], laidTests := true, laidLooks := .later }
def FnExactParseTextureUptoCardSaid : Prop := Claim7.holds Tryd.pinned (.plain (OpenSpec.upto fnExactParseTextureSpec)) fnExactParseTextureUptoCard
end Rows
end Go.Proofs.YthilfmmoeigeoaaDoor
