/-.-/
import Derived.Test.YtcnjjchlebmfiaaGreatDoorP37
import Derived.Test.YtcnjjchlebmfiaaGreatDoorP38
set_option linter.all false
set_option maxRecDepth 100000
set_option maxHeartbeats 16000000
namespace Go.Proofs.YtcnjjchlebmfiaaGreatDoor.execs
open Go.Proofs.Tryz
open Go.ChangeShapes Go.WideShapes Go.ChangeAt Go.RowKit
theorem lifted(os:Os)(started:os.Started)(H:Type)(enc:TypeId×Value→H)(F:Stop.Interp) :
 ReturnsInHanded {} Tryz.checked os 7 .any ((Rows.OpenSpec.upto Rows.execsSpec).preRow enc prog Tryz.f7 Rows.execsUptoRow.domain false Rows.execsUptoRow.laid) (((Rows.OpenSpec.upto Rows.execsSpec).at F).post enc prog Tryz.f7 false true false false):=by
 obtain⟨places,hx⟩:=reads os enc
 refine returnsInHanded_of_row (C:=Tryz.checked) (s:=Rows.OpenSpec.upto Rows.execsSpec) own started (by kernel_rfl) func7
  (witness_row_at (enc:=enc) (C:=Tryz.checked) false (laidWorld os) zi rfl (l1 os) (l2 os) (l3 os)
    (OpenSpec.preRow_of_cond 8 hx (by kernel_rfl) (λk hk=>by cases hk;kernel_rfl) (by kernel_rfl) (laid_met os))) ?_
 intro W base args ds gs before hval hW _ hcond hsz hL hS _;exact contract H enc W base args ds gs before hval hW hsz hcond hL hS
end Go.Proofs.YtcnjjchlebmfiaaGreatDoor.execs
