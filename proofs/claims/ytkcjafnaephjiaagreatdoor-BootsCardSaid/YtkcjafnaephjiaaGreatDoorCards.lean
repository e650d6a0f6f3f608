/-
  DERIVED. GIVEN WITH THE SEED: THE CARDS: each row of YtkcjafnaephjiaaGreatDoorRows.lean that lists a variable, with what it lists TIED to the program's text (the seventh form; the later family's looks); each row that meets fmt, with fmt's text TOLD by the authors' own Lean function (tested against real Go, not proved from fmt's source: count such statements apart). THE CARD IS WHAT COUNTS. Prove the row's statement (the work); the ties are given (YtkcjafnaephjiaaGreatDoorTie.lean); close each card by the builder's one call (the guide's Derived/Test/ToyasCard.lean, 'card_holds'). Laid BY PROGRAM, IN A SANDBOX (cutbox-door.mjs). By AI agents, Wed Nov 11 2026. No macro, syntax, notation, axiom, sorry.
-/
import Derived.Test.YtkcjafnaephjiaaGreatDoorRows
import GoSem.ClaimSeven
namespace Go.Proofs.YtkcjafnaephjiaaGreatDoor
namespace Rows

/-- THE TIED CARD OF 'tinyoslaw.Boots'. -/
def bootsCard : Claim7 := { stood := { row := bootsRow, standIns := [], harness := (true, "9eec9272bd2f848005c33eb2d8356d5c202df93e23e12df86fd59d8e8d2fe37b"), looks := true }, kinds := [], alts := [], laidByText := true, laidKinds := [.data, .handle, .data, .pinned], laidTests := true, laidLooks := .later }
def BootsCardSaid : Prop := Claim7.holds Tryz.pinned (.plain (OpenSpec.ofChange bootsSpec)) bootsCard

/-- THE SECOND FORM's CARD OF 'tinyoslaw.Boots'. -/
def bootsUptoCard : Claim7 := { stood := { row := bootsUptoRow, standIns := [], harness := (true, "9eec9272bd2f848005c33eb2d8356d5c202df93e23e12df86fd59d8e8d2fe37b"), looks := true }, kinds := [], alts := [], laidByText := true, laidKinds := [.data, .handle, .data, .pinned], laidTests := true, laidLooks := .later }
def BootsUptoCardSaid : Prop := Claim7.holds Tryz.pinned (.plain (OpenSpec.upto bootsSpec)) bootsUptoCard
end Rows
end Go.Proofs.YtkcjafnaephjiaaGreatDoor
