/-.-/
import Derived.Test.YtcnjjchlebmfiaaGreatDoorP36
set_option linter.all false
set_option maxRecDepth 100000
set_option maxHeartbeats 16000000
namespace Go.Proofs.YtcnjjchlebmfiaaGreatDoor.execs
open Go.Proofs.Tryz
open Go.ChangeShapes Go.WideShapes Go.ChangeAt Go.RowKit
theorem l1(os:Os):((laidWorld os).forCall (λ_ _=>0) ⟨#[],zi,[]⟩).variablesB prog=true:=by kernel_rfl
theorem l2(os:Os):((((laidWorld os).forCall (λ_ _=>0) ⟨#[],zi,[]⟩).heap.toList.drop prog.globals.size).take ((begin prog (λ_ _=>0) default).world.heap.size-prog.globals.size)=(begin prog (λ_ _=>0) default).world.heap.toList.drop prog.globals.size):=by kernel_rfl
theorem l3(os:Os):Input.okWideB prog ((laidWorld os).forCall (λ_ _=>0) ⟨#[],zi,[]⟩) 7 ⟨#[],zi,[]⟩=true:=by kernel_rfl
end Go.Proofs.YtcnjjchlebmfiaaGreatDoor.execs
