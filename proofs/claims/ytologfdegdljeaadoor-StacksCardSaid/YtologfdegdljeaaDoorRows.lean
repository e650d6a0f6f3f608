/-
  NARROWER THAN 'FOR EVERY INPUT', by the rows' own cells (each row's printed sentence says how): Codes: laid · Stacks: laid · Loads: laid.
  DERIVED. THE GIVEN ROWS OF THIS SEAT. 3 by the template 'for every input the law returns true; each argument reads behind the call as it read before'; 0 by the template 'total and deterministic' (their statements: YtologfdegdljeaaDoorTotals.lean).
  GIVEN WITH THE SEED: the statements are not yours to turn. If you find one false, say at which input.
  Laid BY PROGRAM, IN A SANDBOX (cutbox-rows.mjs): the forced cells as the released guide's own fill.sh prints them over the translation 2118827058ec2ed7… (all of the seat's roots in one cut). By AI agents, Wed Nov 11 2026. No macro, syntax, notation, axiom, sorry.
-/
import Derived.Test.YtologfdegdljeaaDoorChecked
import GoSem.Claim
import GoSem.ClaimJoined
import GoSem.ClaimMapViews
import Derived.JoinedTies
import Derived.KernelRfl
namespace Go.Proofs.YtologfdegdljeaaDoor
/- THE CELL 'sum', in the pinned program and in every row, IS THE sha256 OF THE DUMP (.gsa) THAT YtologfdegdljeaaDoorProg.lean LOADS. Nothing in Lean hashes anything: it is a label: what it is worth is what the hold of that sum in a sandbox is worth. -/
noncomputable def Tryd.pinned : Pinned := { name := "ytologfdegdljeaadoor", sum := "2118827058ec2ed7822cb0e587da1ee0490b3a0a4abc89ba70abd453170efe6b", checked := Tryd.checked }
namespace Rows
def none {H : Type} : Left H := { results := [], args := [] }

/- WHAT THE LISTED PACKAGE-LEVEL VARIABLES READ AS WHEN THE CALL BEGINS. Each datum BY PROGRAM (the guide's laid-datum.mjs) off the statement by which the dump's own 'gosem.cut.vars' lays the variable. In a bare row this is a premise. The card (YtologfdegdljeaaDoorCards.lean) ties it to the program's text. -/
def laid_errors_errorType {H : Type} : DataW H := .iface "internal/reflectlite.rtype" (.agg [.ptr (.lit (.string [101, 114, 114, 111, 114]))])
def laid_tinyos_machine_fixed {H : Type} : DataW H := .agg [.agg [.lit (.int .i64 0), .lit (.int .i64 4), .lit (.int .u64 1179403647)], .agg [.lit (.int .i64 4), .lit (.int .i64 3), .lit (.int .u64 65794)], .agg [.lit (.int .i64 16), .lit (.int .i64 2), .lit (.int .u64 2)], .agg [.lit (.int .i64 18), .lit (.int .i64 2), .lit (.int .u64 243)], .agg [.lit (.int .i64 20), .lit (.int .i64 4), .lit (.int .u64 1)], .agg [.lit (.int .i64 32), .lit (.int .i64 8), .lit (.int .u64 64)], .agg [.lit (.int .i64 52), .lit (.int .i64 2), .lit (.int .u64 64)], .agg [.lit (.int .i64 54), .lit (.int .i64 2), .lit (.int .u64 56)]]

/-- 'tinyoslaw.Codes': WHATEVER THE INPUT: true; the input reads as it did. -/
def codesSpec : ChangeSpec := { name := "codes", fn := fun _ => fun
  | [d1, d2] => { results := [.lit (.bool true)], args := [d1, d2] }
  | _ => none }
def codesRow : OpenClaim := { program := "ytologfdegdljeaadoor", sum := "2118827058ec2ed7822cb0e587da1ee0490b3a0a4abc89ba70abd453170efe6b", func := "tinyos/tinyoslaw.Codes", spec := "codes", inPlace := ["internal/reflectlite.ValueOf", "(internal/reflectlite.Value).Type", "(internal/reflectlite.Value).IsNil", "internal/reflectlite.TypeOf", "(internal/reflectlite.Value).Elem", "(internal/reflectlite.Value).Set"], unfollowed := true, recurses := true, named := ["errors.errorType"], apart := false, laid := [("errors.errorType", laid_errors_errorType)] }
def CodesSaid : Prop := codesRow.holds Tryd.pinned (OpenSpec.ofChange codesSpec)

/-- ITS FALSE NEIGHBOUR: 'it returns false'. Refute it at one input. -/
def codesWrong : ChangeSpec := { name := "codes", fn := fun _ => fun
  | [d1, d2] => { results := [.lit (.bool false)], args := [d1, d2] }
  | _ => none }
def CodesWrongFalsely : Prop := codesRow.holds Tryd.pinned (OpenSpec.ofChange codesWrong)

/-- 'tinyoslaw.Stacks': WHATEVER THE INPUT: true; the input reads as it did. -/
def stacksSpec : ChangeSpec := { name := "stacks", fn := fun _ => fun
  | [d] => { results := [.lit (.bool true)], args := [d] }
  | _ => none }
def stacksRow : OpenClaim := { program := "ytologfdegdljeaadoor", sum := "2118827058ec2ed7822cb0e587da1ee0490b3a0a4abc89ba70abd453170efe6b", func := "tinyos/tinyoslaw.Stacks", spec := "stacks", inPlace := ["internal/reflectlite.ValueOf", "(internal/reflectlite.Value).Type", "(internal/reflectlite.Value).IsNil", "internal/reflectlite.TypeOf", "(internal/reflectlite.Value).Elem", "(internal/reflectlite.Value).Set"], unfollowed := true, recurses := true, named := ["errors.errorType"], apart := false, laid := [("errors.errorType", laid_errors_errorType)] }
def StacksSaid : Prop := stacksRow.holds Tryd.pinned (OpenSpec.ofChange stacksSpec)

/-- ITS FALSE NEIGHBOUR: 'it returns false'. Refute it at one input. -/
def stacksWrong : ChangeSpec := { name := "stacks", fn := fun _ => fun
  | [d] => { results := [.lit (.bool false)], args := [d] }
  | _ => none }
def StacksWrongFalsely : Prop := stacksRow.holds Tryd.pinned (OpenSpec.ofChange stacksWrong)

/-- 'tinyoslaw.Loads': WHATEVER THE INPUT: true; the input reads as it did. -/
def loadsSpec : ChangeSpec := { name := "loads", fn := fun _ => fun
  | [d] => { results := [.lit (.bool true)], args := [d] }
  | _ => none }
def loadsRow : OpenClaim := { program := "ytologfdegdljeaadoor", sum := "2118827058ec2ed7822cb0e587da1ee0490b3a0a4abc89ba70abd453170efe6b", func := "tinyos/tinyoslaw.Loads", spec := "loads", inPlace := ["internal/reflectlite.ValueOf", "(internal/reflectlite.Value).Type", "(internal/reflectlite.Value).IsNil", "internal/reflectlite.TypeOf", "(internal/reflectlite.Value).Elem", "(internal/reflectlite.Value).Set"], unfollowed := true, recurses := true, named := ["tinyos/machine.fixed", "errors.errorType"], apart := false, laid := [("errors.errorType", laid_errors_errorType), ("tinyos/machine.fixed", laid_tinyos_machine_fixed)] }
def LoadsSaid : Prop := loadsRow.holds Tryd.pinned (OpenSpec.ofChange loadsSpec)

/-- ITS FALSE NEIGHBOUR: 'it returns false'. Refute it at one input. -/
def loadsWrong : ChangeSpec := { name := "loads", fn := fun _ => fun
  | [d] => { results := [.lit (.bool false)], args := [d] }
  | _ => none }
def LoadsWrongFalsely : Prop := loadsRow.holds Tryd.pinned (OpenSpec.ofChange loadsWrong)

/- THE SECOND FORM. 'bulk': how many values and letters a reading holds, each counted each time it is reached (what is shared counts as often as it is met; a slice's spare places count too). A statement '..UptoSaid' is the law's where the arguments, and the package variables that the reading takes, are together of bulk at most 1048576: NARROWER than '..Said'. Prove '..Said' where nothing that the law and all that it calls make is longer than what came in: it says more and counts as full. Else prove '..UptoSaid'. A law counts once. -/
mutual
def uptoBulk {H : Type} : DataW H → Nat
  | .lit (.string bytes) => bytes.length + 1
  | .lit _ => 1
  | .nil => 1
  | .ptr d => uptoBulk d + 1
  | .slice elems spare => uptoBulkAll elems + uptoBulkAll spare + 1
  | .agg parts => uptoBulkAll parts + 1
  | .iface _ d => uptoBulk d + 1
  | .map entries => uptoBulkEntries entries + 1
  | .held _ => 1
def uptoBulkAll {H : Type} : List (DataW H) → Nat
  | [] => 0
  | d :: r => uptoBulk d + uptoBulkAll r
def uptoBulkEntries {H : Type} : List (Lit × DataW H) → Nat
  | [] => 0
  | x :: r => uptoBulkEntry x + uptoBulkEntries r
def uptoBulkEntry {H : Type} : Lit × DataW H → Nat
  | (.string bytes, d) => bytes.length + uptoBulk d + 1
  | (_, d) => uptoBulk d + 1
 end
def uptoSmall : (H : Type) → List (DataW H) → Bool := fun _ ds => decide (uptoBulkAll ds ≤ 1048576)
def OpenSpec.upto (s : _root_.Go.ChangeSpec) : _root_.Go.OpenSpec := { _root_.Go.OpenSpec.ofChange s with cond := some uptoSmall }

/-- 'tinyoslaw.Codes', WHERE WHAT IT READS IS OF BULK AT MOST 1048576: true; the input reads as it did. -/
def codesUptoRow : OpenClaim := { program := "ytologfdegdljeaadoor", sum := "2118827058ec2ed7822cb0e587da1ee0490b3a0a4abc89ba70abd453170efe6b", func := "tinyos/tinyoslaw.Codes", spec := "codes", inPlace := ["internal/reflectlite.ValueOf", "(internal/reflectlite.Value).Type", "(internal/reflectlite.Value).IsNil", "internal/reflectlite.TypeOf", "(internal/reflectlite.Value).Elem", "(internal/reflectlite.Value).Set"], unfollowed := true, recurses := true, named := ["errors.errorType"], apart := false, laid := [("errors.errorType", laid_errors_errorType)], narrowed := true }
def CodesUptoSaid : Prop := codesUptoRow.holds Tryd.pinned (OpenSpec.upto codesSpec)

/-- 'tinyoslaw.Stacks', WHERE WHAT IT READS IS OF BULK AT MOST 1048576: true; the input reads as it did. -/
def stacksUptoRow : OpenClaim := { program := "ytologfdegdljeaadoor", sum := "2118827058ec2ed7822cb0e587da1ee0490b3a0a4abc89ba70abd453170efe6b", func := "tinyos/tinyoslaw.Stacks", spec := "stacks", inPlace := ["internal/reflectlite.ValueOf", "(internal/reflectlite.Value).Type", "(internal/reflectlite.Value).IsNil", "internal/reflectlite.TypeOf", "(internal/reflectlite.Value).Elem", "(internal/reflectlite.Value).Set"], unfollowed := true, recurses := true, named := ["errors.errorType"], apart := false, laid := [("errors.errorType", laid_errors_errorType)], narrowed := true }
def StacksUptoSaid : Prop := stacksUptoRow.holds Tryd.pinned (OpenSpec.upto stacksSpec)

/-- 'tinyoslaw.Loads', WHERE WHAT IT READS IS OF BULK AT MOST 1048576: true; the input reads as it did. -/
def loadsUptoRow : OpenClaim := { program := "ytologfdegdljeaadoor", sum := "2118827058ec2ed7822cb0e587da1ee0490b3a0a4abc89ba70abd453170efe6b", func := "tinyos/tinyoslaw.Loads", spec := "loads", inPlace := ["internal/reflectlite.ValueOf", "(internal/reflectlite.Value).Type", "(internal/reflectlite.Value).IsNil", "internal/reflectlite.TypeOf", "(internal/reflectlite.Value).Elem", "(internal/reflectlite.Value).Set"], unfollowed := true, recurses := true, named := ["tinyos/machine.fixed", "errors.errorType"], apart := false, laid := [("errors.errorType", laid_errors_errorType), ("tinyos/machine.fixed", laid_tinyos_machine_fixed)], narrowed := true }
def LoadsUptoSaid : Prop := loadsUptoRow.holds Tryd.pinned (OpenSpec.upto loadsSpec)

end Rows
end Go.Proofs.YtologfdegdljeaaDoor
