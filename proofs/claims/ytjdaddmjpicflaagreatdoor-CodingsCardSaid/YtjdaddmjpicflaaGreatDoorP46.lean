/- The law Codings: closed facts of the card. -/
import Derived.Test.YtjdaddmjpicflaaGreatDoorP39
set_option linter.unusedVariables false
set_option linter.unusedSimpArgs false
set_option maxRecDepth 100000
set_option maxHeartbeats 16000000
namespace Go.Proofs.YtjdaddmjpicflaaGreatDoor.codings
open Go.ChangeShapes Go.WideShapes Go.ChangeAt Go.RowKit
set_option maxRecDepth 100000
theorem wfText:Rows.codingsRow.wfByText (OpenSpec.ofChange Rows.codingsSpec)=true:=by kernel_rfl
end Go.Proofs.YtjdaddmjpicflaaGreatDoor.codings
