/- The law Execs: the card. -/
import Derived.Test.YtcnjjchlebmfiaaGreatDoorP41
import Derived.Test.YtcnjjchlebmfiaaGreatDoorP42
import Derived.Test.YtcnjjchlebmfiaaGreatDoorP43
import Derived.Test.YtcnjjchlebmfiaaGreatDoorP44
set_option linter.all false
set_option maxRecDepth 100000
set_option maxHeartbeats 16000000
namespace Go.Proofs.YtcnjjchlebmfiaaGreatDoor.execs
open Go.ChangeShapes Go.WideShapes Go.ChangeAt Go.RowKit
theorem card:Rows.ExecsUptoCardSaid:=
 Claim7.holds_tied_plain_at .later [] _ _ _ _ said (λ_ h=>by cases h) acB (λ_ h=>by cases h) execsUpto_row_tie rfl ⟨rfl,rfl⟩ (by kernel_rfl) rfl plain aas
#print axioms card
end Go.Proofs.YtcnjjchlebmfiaaGreatDoor.execs
