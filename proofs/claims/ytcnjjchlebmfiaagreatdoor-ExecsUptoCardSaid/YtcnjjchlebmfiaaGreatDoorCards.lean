/-
  DERIVED. GIVEN WITH THE SEED: THE CARDS: each row of YtcnjjchlebmfiaaGreatDoorRows.lean that lists a variable, with what it lists TIED to the program's text (the seventh form; the later family's looks); each row that meets fmt, with fmt's text TOLD by the authors' own Lean function (tested against real Go, not proved from fmt's source: count such statements apart). THE CARD IS WHAT COUNTS. Prove the row's statement (the work); the ties are given (YtcnjjchlebmfiaaGreatDoorTie.lean); close each card by the builder's one call (the guide's Derived/Test/ToyasCard.lean, 'card_holds'). Laid BY PROGRAM, IN A SANDBOX (cutbox-door.mjs). By AI agents, Wed Nov 11 2026. No macro, syntax, notation, axiom, sorry.
-/
import Derived.Test.YtcnjjchlebmfiaaGreatDoorRows
import GoSem.ClaimSeven
namespace Go.Proofs.YtcnjjchlebmfiaaGreatDoor
namespace Rows

/-- THE TIED CARD OF 'tinyoslaw.Alone'. -/
def aloneCard : Claim7 := { stood := { row := aloneRow, standIns := [], harness := (true, "05cf186daf8182cefe823f66653360684337f1df7503dd31cfe76c440be5a211"), looks := true }, kinds := [], alts := [], laidByText := true, laidKinds := [.data, .handle, .data, .data, .pinned], laidTests := true, laidLooks := .later }
def AloneCardSaid : Prop := Claim7.holds Tryz.pinned (.plain (OpenSpec.ofChange aloneSpec)) aloneCard

/-- THE TIED CARD OF 'tinyoslaw.Forged'. -/
def forgedCard : Claim7 := { stood := { row := forgedRow, standIns := [], harness := (true, "05cf186daf8182cefe823f66653360684337f1df7503dd31cfe76c440be5a211"), looks := true }, kinds := [], alts := [], laidByText := true, laidKinds := [.data, .handle, .data, .data, .pinned], laidTests := true, laidLooks := .later }
def ForgedCardSaid : Prop := Claim7.holds Tryz.pinned (.plain (OpenSpec.ofChange forgedSpec)) forgedCard

/-- THE TIED CARD OF 'tinyoslaw.Spoilt'. -/
def spoiltCard : Claim7 := { stood := { row := spoiltRow, standIns := [], harness := (true, "05cf186daf8182cefe823f66653360684337f1df7503dd31cfe76c440be5a211"), looks := true }, kinds := [], alts := [], laidByText := true, laidKinds := [.data, .handle, .data, .data, .pinned], laidTests := true, laidLooks := .later }
def SpoiltCardSaid : Prop := Claim7.holds Tryz.pinned (.plain (OpenSpec.ofChange spoiltSpec)) spoiltCard

/-- THE TIED CARD OF 'tinyoslaw.Pipes'. -/
def pipesCard : Claim7 := { stood := { row := pipesRow, standIns := [], harness := (true, "05cf186daf8182cefe823f66653360684337f1df7503dd31cfe76c440be5a211"), looks := true }, kinds := [], alts := [], laidByText := true, laidKinds := [.data, .handle, .data, .data, .pinned], laidTests := true, laidLooks := .later }
def PipesCardSaid : Prop := Claim7.holds Tryz.pinned (.plain (OpenSpec.ofChange pipesSpec)) pipesCard

/-- THE TIED CARD OF 'tinyoslaw.Execs'. -/
def execsCard : Claim7 := { stood := { row := execsRow, standIns := [], harness := (true, "05cf186daf8182cefe823f66653360684337f1df7503dd31cfe76c440be5a211"), looks := true }, kinds := [], alts := [], laidByText := true, laidKinds := [.data, .handle, .data, .data, .pinned], laidTests := true, laidLooks := .later }
def ExecsCardSaid : Prop := Claim7.holds Tryz.pinned (.plain (OpenSpec.ofChange execsSpec)) execsCard

/-- THE SECOND FORM's CARD OF 'tinyoslaw.Alone'. -/
def aloneUptoCard : Claim7 := { stood := { row := aloneUptoRow, standIns := [], harness := (true, "05cf186daf8182cefe823f66653360684337f1df7503dd31cfe76c440be5a211"), looks := true }, kinds := [], alts := [], laidByText := true, laidKinds := [.data, .handle, .data, .data, .pinned], laidTests := true, laidLooks := .later }
def AloneUptoCardSaid : Prop := Claim7.holds Tryz.pinned (.plain (OpenSpec.upto aloneSpec)) aloneUptoCard

/-- THE SECOND FORM's CARD OF 'tinyoslaw.Forged'. -/
def forgedUptoCard : Claim7 := { stood := { row := forgedUptoRow, standIns := [], harness := (true, "05cf186daf8182cefe823f66653360684337f1df7503dd31cfe76c440be5a211"), looks := true }, kinds := [], alts := [], laidByText := true, laidKinds := [.data, .handle, .data, .data, .pinned], laidTests := true, laidLooks := .later }
def ForgedUptoCardSaid : Prop := Claim7.holds Tryz.pinned (.plain (OpenSpec.upto forgedSpec)) forgedUptoCard

/-- THE SECOND FORM's CARD OF 'tinyoslaw.Spoilt'. -/
def spoiltUptoCard : Claim7 := { stood := { row := spoiltUptoRow, standIns := [], harness := (true, "05cf186daf8182cefe823f66653360684337f1df7503dd31cfe76c440be5a211"), looks := true }, kinds := [], alts := [], laidByText := true, laidKinds := [.data, .handle, .data, .data, .pinned], laidTests := true, laidLooks := .later }
def SpoiltUptoCardSaid : Prop := Claim7.holds Tryz.pinned (.plain (OpenSpec.upto spoiltSpec)) spoiltUptoCard

/-- THE SECOND FORM's CARD OF 'tinyoslaw.Pipes'. -/
def pipesUptoCard : Claim7 := { stood := { row := pipesUptoRow, standIns := [], harness := (true, "05cf186daf8182cefe823f66653360684337f1df7503dd31cfe76c440be5a211"), looks := true }, kinds := [], alts := [], laidByText := true, laidKinds := [.data, .handle, .data, .data, .pinned], laidTests := true, laidLooks := .later }
def PipesUptoCardSaid : Prop := Claim7.holds Tryz.pinned (.plain (OpenSpec.upto pipesSpec)) pipesUptoCard

/-- THE SECOND FORM's CARD OF 'tinyoslaw.Execs'. -/
def execsUptoCard : Claim7 := { stood := { row := execsUptoRow, standIns := [], harness := (true, "05cf186daf8182cefe823f66653360684337f1df7503dd31cfe76c440be5a211"), looks := true }, kinds := [], alts := [], laidByText := true, laidKinds := [.data, .handle, .data, .data, .pinned], laidTests := true, laidLooks := .later }
def ExecsUptoCardSaid : Prop := Claim7.holds Tryz.pinned (.plain (OpenSpec.upto execsSpec)) execsUptoCard
end Rows
end Go.Proofs.YtcnjjchlebmfiaaGreatDoor
