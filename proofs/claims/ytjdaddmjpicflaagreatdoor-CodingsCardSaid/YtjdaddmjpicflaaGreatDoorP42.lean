/- The law Codings: the form's claim. -/
import Derived.Test.YtjdaddmjpicflaaGreatDoorP40
set_option linter.unusedVariables false
set_option linter.unusedSimpArgs false
set_option maxRecDepth 100000
set_option maxHeartbeats 16000000
namespace Go.Proofs.YtjdaddmjpicflaaGreatDoor.codings
open Go.ChangeShapes Go.WideShapes Go.ChangeAt Go.RowKit
set_option maxRecDepth 100000
theorem l1 (os:Os):((laidWorld os).forCall (λ_ _=>0) ⟨#[],wArgs,[]⟩).variablesB Tryz.prog=true:=by kernel_rfl
theorem l2 (os:Os):((((laidWorld os).forCall (λ_ _=>0) ⟨#[],wArgs,[]⟩).heap.toList.drop Tryz.prog.globals.size).take ((begin Tryz.prog (λ_ _=>0) default).world.heap.size-Tryz.prog.globals.size)=(begin Tryz.prog (λ_ _=>0) default).world.heap.toList.drop Tryz.prog.globals.size):=by kernel_rfl
theorem l3 (os:Os):Input.okWideB Tryz.prog ((laidWorld os).forCall (λ_ _=>0) ⟨#[],wArgs,[]⟩) 3 ⟨#[],wArgs,[]⟩=true:=by kernel_rfl
end Go.Proofs.YtjdaddmjpicflaaGreatDoor.codings
