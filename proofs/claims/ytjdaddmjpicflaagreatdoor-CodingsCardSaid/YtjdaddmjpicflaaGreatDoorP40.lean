/- The law Codings: the form's claim. -/
import Derived.Test.YtjdaddmjpicflaaGreatDoorP39
set_option linter.unusedVariables false
set_option linter.unusedSimpArgs false
set_option maxRecDepth 100000
set_option maxHeartbeats 16000000
namespace Go.Proofs.YtjdaddmjpicflaaGreatDoor.codings
open Go.ChangeShapes Go.WideShapes Go.ChangeAt Go.RowKit
set_option maxRecDepth 100000
noncomputable def laidWorld (os:Os):World:=
 {World.holding Tryz.prog os ⟨#[],#[],[]⟩with heap:=(((((World.holding Tryz.prog os ⟨#[],#[],[]⟩).heap.modify 0 (putCells #[.iface 204 (.agg #[.pointer (some ⟨6,41,none⟩)])])).modify 1 (putCells fixedV.toArray)).modify 5 (putCells rangesV.toArray)).modify 2 (putCells #[.int .i64 0,.int .i64 0,.int .i64 3,.int .i64 0,.int .i64 0,.int .i64 0,.int .i64 0,.int .i64 0,.int .i64 1,.int .i64 0,.int .i64 8,.int .i64 4,.int .i64 0,.int .i64 0,.int .i64 0,.int .i64 1,.int .i64 1,.int .i64 0,.int .i64 8,.int .i64 4,.int .i64 1,.int .i64 1])).modify 4 (putCells firstV.toArray)}
abbrev wArgs:Array Value:= #[.agg #[.int .i64 0,.int .i64 0,.int .i64 0,.int .i64 0,.int .i64 0,.slice none 0 0],.int .i64 0]
theorem laid_met (os:Os):laidMetH Tryz.prog Rows.codingsRow.laid ((laidWorld os).forCall (λ_ _=>0) ⟨#[],wArgs,[]⟩).memory:=
 laidMetH_of_parts (laidMet_of_run' 8 (by kernel_rfl) (by kernel_rfl)) (by kernel_rfl)
end Go.Proofs.YtjdaddmjpicflaaGreatDoor.codings
