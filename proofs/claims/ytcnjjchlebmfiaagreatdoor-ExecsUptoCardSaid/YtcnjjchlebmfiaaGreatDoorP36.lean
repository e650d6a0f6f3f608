/-.-/
import Derived.Test.YtcnjjchlebmfiaaGreatDoorP35
set_option linter.all false
set_option maxRecDepth 100000
set_option maxHeartbeats 16000000
namespace Go.Proofs.YtcnjjchlebmfiaaGreatDoor.execs
open Go.Proofs.Tryz
open Go.ChangeShapes Go.WideShapes Go.ChangeAt Go.RowKit
noncomputable def laidWorld(os:Os):World:=
 {World.holding prog os ⟨#[],#[],[]⟩with heap:=(((((World.holding prog os ⟨#[],#[],[]⟩).heap.modify 0 (putCells #[.iface 205 (.agg #[.pointer (6,46)])])).modify 2 (putCells Az.toArray)).modify 5 (putCells Zn.toArray)).modify 1 (putCells #[(0:Int),(0:Int),(3:Int),(0:Int),(0:Int),(0:Int),(0:Int),(0:Int),(1:Int),(0:Int),(8:Int),(4:Int),(0:Int),(0:Int),(0:Int),(1:Int),(1:Int),(0:Int),(8:Int),(4:Int),(1:Int),(1:Int)])).modify 4 (putCells abE.toArray)}
abbrev zi:Array Value:= #[.agg #[(0:Int),(0:Int),(0:Int),(0:Int),(0:Int),()],.slice none 0 0]
theorem laid_met(os:Os):laidMetH prog Rows.execsUptoRow.laid ((laidWorld os).forCall (λ_ _=>0) ⟨#[],zi,[]⟩).memory:=
 laidMetH_of_parts (laidMet_of_run' 8 (by kernel_rfl) (by kernel_rfl)) (by kernel_rfl)
end Go.Proofs.YtcnjjchlebmfiaaGreatDoor.execs
