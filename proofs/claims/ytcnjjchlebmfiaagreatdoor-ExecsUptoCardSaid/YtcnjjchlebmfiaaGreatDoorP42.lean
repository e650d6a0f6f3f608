/-.-/
import Derived.Test.YtcnjjchlebmfiaaGreatDoorP35
set_option linter.all false
set_option maxRecDepth 100000
set_option maxHeartbeats 16000000
namespace Go.Proofs.YtcnjjchlebmfiaaGreatDoor.execs
open Go.ChangeShapes Go.WideShapes Go.ChangeAt Go.RowKit
theorem acB:Rows.execsUptoRow.wfByText (Rows.OpenSpec.upto Rows.execsSpec)=true:=by kernel_rfl
end Go.Proofs.YtcnjjchlebmfiaaGreatDoor.execs
