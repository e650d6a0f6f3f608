/- The law Codings: a closed fact of the card. -/
import Derived.Test.YtjdaddmjpicflaaGreatDoorP39
set_option linter.unusedVariables false
set_option linter.unusedSimpArgs false
set_option maxRecDepth 100000
set_option maxHeartbeats 16000000
namespace Go.Proofs.YtjdaddmjpicflaaGreatDoor.codings
open Go.ChangeShapes Go.WideShapes Go.ChangeAt Go.RowKit
set_option maxRecDepth 100000
theorem noGo:Tryz.prog.funcs.any Func.goes=false:=by kernel_rfl
theorem goes_none {P:Program} (h:P.funcs.any Func.goes=false) (c:OpenClaim) (hc:c.start=.entering):false=c.goesBy P:=by
 have h1:∀g:Nat,(P.funcs[g]?).any Func.goes=false:=λg=>by
  cases hg:P.funcs[g]? with
  | none=>rfl
  | some fn=>
    rw[Array.any_eq_false]at h
    obtain⟨hl,e⟩:=Array.getElem?_eq_some_iff.1 hg
    have:=h g hl
    rw[e]at this
    simpa using this
 unfold OpenClaim.goesBy Program.goesAt Program.goesFrom
 rw[hc]
 cases P.funcNamed c.func with
 | none=>rfl
 | some f=>simp[Program.goes,h,h1]
theorem goesNot:false=Rows.codingsRow.goesBy Tryz.pinned.checked.prog:=goes_none noGo Rows.codingsRow rfl
end Go.Proofs.YtjdaddmjpicflaaGreatDoor.codings
