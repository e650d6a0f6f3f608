/-
  DERIVED. GIVEN WITH THE SEED: THE CARDS: each row of YtologfdegdljeaaDoorRows.lean that lists a variable, with what it lists TIED to the program's text (the seventh form; the later family's looks); each row that meets fmt, with fmt's text TOLD by the authors' own Lean function (tested against real Go, not proved from fmt's source: count such statements apart). THE CARD IS WHAT COUNTS. Prove the row's statement (the work); the ties are given (YtologfdegdljeaaDoorTie.lean); close each card by the builder's one call (the guide's Derived/Test/ToyasCard.lean, 'card_holds'). Laid BY PROGRAM, IN A SANDBOX (cutbox-door.mjs). By AI agents, Wed Nov 11 2026. No macro, syntax, notation, axiom, sorry.
-/
import Derived.Test.YtologfdegdljeaaDoorRows
import GoSem.ClaimSeven
namespace Go.Proofs.YtologfdegdljeaaDoor
namespace Rows

/-- THE TIED CARD OF 'tinyoslaw.Codes'. -/
def codesCard : Claim7 := { stood := { row := codesRow, standIns := [], harness := (true, "71544c87fafaecc6e60482a4280d0c2a28ecd80337526c1427743fa9cb5effa4"), looks := true }, kinds := [], alts := [], laidByText := true, laidKinds := [.handle], laidTests := true, laidLooks := .later }
def CodesCardSaid : Prop := Claim7.holds Tryd.pinned (.plain (OpenSpec.ofChange codesSpec)) codesCard

/-- THE TIED CARD OF 'tinyoslaw.Stacks'. -/
def stacksCard : Claim7 := { stood := { row := stacksRow, standIns := [], harness := (true, "71544c87fafaecc6e60482a4280d0c2a28ecd80337526c1427743fa9cb5effa4"), looks := true }, kinds := [], alts := [], laidByText := true, laidKinds := [.handle], laidTests := true, laidLooks := .later }
def StacksCardSaid : Prop := Claim7.holds Tryd.pinned (.plain (OpenSpec.ofChange stacksSpec)) stacksCard

/-- THE TIED CARD OF 'tinyoslaw.Loads'. -/
def loadsCard : Claim7 := { stood := { row := loadsRow, standIns := [], harness := (true, "71544c87fafaecc6e60482a4280d0c2a28ecd80337526c1427743fa9cb5effa4"), looks := true }, kinds := [], alts := [], laidByText := true, laidKinds := [.handle, .data], laidTests := true, laidLooks := .later }
def LoadsCardSaid : Prop := Claim7.holds Tryd.pinned (.plain (OpenSpec.ofChange loadsSpec)) loadsCard

/-- THE SECOND FORM's CARD OF 'tinyoslaw.Codes'. -/
def codesUptoCard : Claim7 := { stood := { row := codesUptoRow, standIns := [], harness := (true, "71544c87fafaecc6e60482a4280d0c2a28ecd80337526c1427743fa9cb5effa4"), looks := true }, kinds := [], alts := [], laidByText := true, laidKinds := [.handle], laidTests := true, laidLooks := .later }
def CodesUptoCardSaid : Prop := Claim7.holds Tryd.pinned (.plain (OpenSpec.upto codesSpec)) codesUptoCard

/-- THE SECOND FORM's CARD OF 'tinyoslaw.Stacks'. -/
def stacksUptoCard : Claim7 := { stood := { row := stacksUptoRow, standIns := [], harness := (true, "71544c87fafaecc6e60482a4280d0c2a28ecd80337526c1427743fa9cb5effa4"), looks := true }, kinds := [], alts := [], laidByText := true, laidKinds := [.handle], laidTests := true, laidLooks := .later }
def StacksUptoCardSaid : Prop := Claim7.holds Tryd.pinned (.plain (OpenSpec.upto stacksSpec)) stacksUptoCard

/-- THE SECOND FORM's CARD OF 'tinyoslaw.Loads'. -/
def loadsUptoCard : Claim7 := { stood := { row := loadsUptoRow, standIns := [], harness := (true, "71544c87fafaecc6e60482a4280d0c2a28ecd80337526c1427743fa9cb5effa4"), looks := true }, kinds := [], alts := [], laidByText := true, laidKinds := [.handle, .data], laidTests := true, laidLooks := .later }
def LoadsUptoCardSaid : Prop := Claim7.holds Tryd.pinned (.plain (OpenSpec.upto loadsSpec)) loadsUptoCard
end Rows
end Go.Proofs.YtologfdegdljeaaDoor
