/-.-/
import Derived.Test.YtcnjjchlebmfiaaGreatDoorP35
set_option linter.all false
set_option maxRecDepth 100000
set_option maxHeartbeats 16000000
namespace Go.Proofs.YtcnjjchlebmfiaaGreatDoor.execs
open Go.Proofs.Tryz
open Go.ChangeShapes Go.WideShapes Go.ChangeAt Go.RowKit
theorem ahD:prog.funcs.any Func.goes=false:=by kernel_rfl
theorem TL{P:Program}(h:P.funcs.any Func.goes=false)(c:OpenClaim)(hc:c.start=.entering):false=c.goesBy P:=by
 have h1:∀g:Nat,(P.funcs[g]?).any Func.goes=false:=λg=>by
  cases hg:P.funcs[g]? with
  | none=>rfl
  | some fn=>
    rw[Array.any_eq_false]at h;obtain⟨hl,e⟩:=Array.getElem?_eq_some_iff.1 hg;have:=h g hl;rw[e]at this
    simpa using this
 unfold OpenClaim.goesBy Program.goesAt Program.goesFrom;rw[hc];cases P.funcNamed c.func with
 | none=>rfl
 | some f=>simp[Program.goes,h,h1]
theorem aas:false=Rows.execsUptoRow.goesBy Tryz.pinned.checked.prog:=TL ahD Rows.execsUptoRow rfl
end Go.Proofs.YtcnjjchlebmfiaaGreatDoor.execs
