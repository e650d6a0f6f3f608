/-
  DERIVED. GIVEN WITH THE SEED: THE CARDS: each row of YtjdaddmjpicflaaGreatDoorRows.lean that lists a variable, with what it lists TIED to the program's text (the seventh form; the later family's looks); each row that meets fmt, with fmt's text TOLD by the authors' own Lean function (tested against real Go, not proved from fmt's source: count such statements apart). THE CARD IS WHAT COUNTS. Prove the row's statement (the work); the ties are given (YtjdaddmjpicflaaGreatDoorTie.lean); close each card by the builder's one call (the guide's Derived/Test/ToyasCard.lean, 'card_holds'). Laid BY PROGRAM, IN A SANDBOX (cutbox-door.mjs). By AI agents, Wed Nov 11 2026. No macro, syntax, notation, axiom, sorry.
-/
import Derived.Test.YtjdaddmjpicflaaGreatDoorRows
import GoSem.ClaimSeven
namespace Go.Proofs.YtjdaddmjpicflaaGreatDoor
namespace Rows

/-- THE TIED CARD OF 'tinyoslaw.Codings'. -/
def codingsCard : Claim7 := { stood := { row := codingsRow, standIns := [], harness := (true, "300225b735b7e41a38b7a7bb57e4bc55028b125c809bf574d9ae59fe43e049cc"), looks := true }, kinds := [], alts := [], laidByText := true, laidKinds := [.data, .handle, .data, .data, .pinned], laidTests := true, laidLooks := .later }
def CodingsCardSaid : Prop := Claim7.holds Tryz.pinned (.plain (OpenSpec.ofChange codingsSpec)) codingsCard

/-- THE SECOND FORM's CARD OF 'tinyoslaw.Codings'. -/
def codingsUptoCard : Claim7 := { stood := { row := codingsUptoRow, standIns := [], harness := (true, "300225b735b7e41a38b7a7bb57e4bc55028b125c809bf574d9ae59fe43e049cc"), looks := true }, kinds := [], alts := [], laidByText := true, laidKinds := [.data, .handle, .data, .data, .pinned], laidTests := true, laidLooks := .later }
def CodingsUptoCardSaid : Prop := Claim7.holds Tryz.pinned (.plain (OpenSpec.upto codingsSpec)) codingsUptoCard
end Rows
end Go.Proofs.YtjdaddmjpicflaaGreatDoor
