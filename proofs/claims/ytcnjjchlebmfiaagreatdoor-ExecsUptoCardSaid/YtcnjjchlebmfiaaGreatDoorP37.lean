/-.-/
import Derived.Test.YtcnjjchlebmfiaaGreatDoorP36
set_option linter.all false
set_option maxRecDepth 100000
set_option maxHeartbeats 16000000
namespace Go.Proofs.YtcnjjchlebmfiaaGreatDoor.execs
open Go.Proofs.Tryz
open Go.ChangeShapes Go.WideShapes Go.ChangeAt Go.RowKit
theorem reads(os:Os){H:Type}(enc:TypeId×Value→H):∃places,DataW.whole enc prog ((laidWorld os).forCall (λ_ _=>0) ⟨#[],zi,[]⟩).memory Tryz.f7.params.toList Rows.execsSpec.vars false zi.toList 8 =
 some ([.agg [.agg [.lit (.int .i64 0),.lit (.int .i64 0),.lit (.int .i64 0),.lit (.int .i64 0),.lit (.int .i64 0)],.nil],.nil],[],places):=
 ⟨[],by kernel_rfl⟩
end Go.Proofs.YtcnjjchlebmfiaaGreatDoor.execs
