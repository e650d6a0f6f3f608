/- The law Codings: the form's claim. -/
import Derived.Test.YtjdaddmjpicflaaGreatDoorP40
set_option linter.unusedVariables false
set_option linter.unusedSimpArgs false
set_option maxRecDepth 100000
set_option maxHeartbeats 16000000
namespace Go.Proofs.YtjdaddmjpicflaaGreatDoor.codings
open Go.ChangeShapes Go.WideShapes Go.ChangeAt Go.RowKit
set_option maxRecDepth 100000
theorem reads (os:Os) {H:Type} (enc:TypeId×Value→H):∃places,DataW.whole enc Tryz.prog ((laidWorld os).forCall (λ_ _=>0) ⟨#[],wArgs,[]⟩).memory Tryz.f3.params.toList Rows.codingsSpec.vars false wArgs.toList 8 =
 some ([.agg [.agg [.lit (.int .i64 0),.lit (.int .i64 0),.lit (.int .i64 0),.lit (.int .i64 0),.lit (.int .i64 0)],.nil],.lit (.int .i64 0)],[],places):=
 ⟨[],by kernel_rfl⟩
end Go.Proofs.YtjdaddmjpicflaaGreatDoor.codings
