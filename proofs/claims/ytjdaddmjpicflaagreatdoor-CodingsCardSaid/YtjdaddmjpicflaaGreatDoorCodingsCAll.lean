/- The law Codings: process 1 does any number of steps (at most 399), up to an Ecall: each answers as the document says, and so do the processes, the files and what is used behind each. No condition; the card ties errors.errorType, machine.fixed and the tables of unicode/utf8 to the program's text. -/
import Derived.Test.YtjdaddmjpicflaaGreatDoorP45
import Derived.Test.YtjdaddmjpicflaaGreatDoorP46
import Derived.Test.YtjdaddmjpicflaaGreatDoorP47
import Derived.Test.YtjdaddmjpicflaaGreatDoorP48
set_option linter.unusedVariables false
set_option linter.unusedSimpArgs false
set_option maxRecDepth 100000
set_option maxHeartbeats 16000000
namespace Go.Proofs.YtjdaddmjpicflaaGreatDoor.codings
open Go.ChangeShapes Go.WideShapes Go.ChangeAt Go.RowKit
set_option maxRecDepth 100000
theorem card:Rows.CodingsCardSaid:=
 Claim7.holds_tied_plain_at .later [] _ _ _ _ said (λ_ h=>by cases h) wfText (λ_ h=>by cases h) codings_row_tie rfl ⟨rfl,rfl⟩ (by kernel_rfl) rfl plain goesNot
#print axioms card
end Go.Proofs.YtjdaddmjpicflaaGreatDoor.codings
