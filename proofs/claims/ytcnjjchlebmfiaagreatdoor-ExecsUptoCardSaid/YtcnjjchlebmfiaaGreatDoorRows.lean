/-
  NARROWER THAN 'FOR EVERY INPUT', by the rows' own cells (each row's printed sentence says how): Alone: laid · Forged: laid · Spoilt: laid · Pipes: laid · Execs: laid.
  DERIVED. THE GIVEN ROWS OF THIS SEAT. 5 by the template 'for every input the law returns true; each argument reads behind the call as it read before'; 0 by the template 'total and deterministic' (their statements: YtcnjjchlebmfiaaGreatDoorTotals.lean).
  GIVEN WITH THE SEED: the statements are not yours to turn. If you find one false, say at which input.
  Laid BY PROGRAM, IN A SANDBOX (cutbox-rows.mjs): the forced cells as the released guide's own fill.sh prints them over the translation c7b79def1e54fa54… (all of the seat's roots in one cut). By AI agents, Wed Nov 11 2026. No macro, syntax, notation, axiom, sorry.
-/
import Derived.Test.YtcnjjchlebmfiaaGreatDoorChecked
import GoSem.PinnedTables
import GoSem.Claim
import GoSem.ClaimJoined
import GoSem.ClaimMapViews
import Derived.JoinedTies
import Derived.KernelRfl
namespace Go.Proofs.YtcnjjchlebmfiaaGreatDoor
/- THE CELL 'sum', in the pinned program and in every row, IS THE sha256 OF THE DUMP (.gsa) THAT YtcnjjchlebmfiaaGreatDoorProg.lean LOADS. Nothing in Lean hashes anything: it is a label: what it is worth is what the hold of that sum in a sandbox is worth. -/
noncomputable def Tryz.pinned : Pinned := { name := "ytcnjjchlebmfiaagreatdoor", sum := "c7b79def1e54fa545cd76991b8628506d737a273556551073b19324e23f6965a", checked := Tryz.checked }
namespace Rows
def none {H : Type} : Left H := { results := [], args := [] }

/- WHAT THE LISTED PACKAGE-LEVEL VARIABLES READ AS WHEN THE CALL BEGINS. Each datum BY PROGRAM (the guide's laid-datum.mjs) off the statement by which the dump's own 'gosem.cut.vars' lays the variable. In a bare row this is a premise. The card (YtcnjjchlebmfiaaGreatDoorCards.lean) ties it to the program's text. -/
def laid_unicode_utf8_acceptRanges {H : Type} : DataW H := .agg [.agg [.lit (.int .u8 128), .lit (.int .u8 191)], .agg [.lit (.int .u8 160), .lit (.int .u8 191)], .agg [.lit (.int .u8 128), .lit (.int .u8 159)], .agg [.lit (.int .u8 144), .lit (.int .u8 191)], .agg [.lit (.int .u8 128), .lit (.int .u8 143)], .agg [.lit (.int .u8 0), .lit (.int .u8 0)], .agg [.lit (.int .u8 0), .lit (.int .u8 0)], .agg [.lit (.int .u8 0), .lit (.int .u8 0)], .agg [.lit (.int .u8 0), .lit (.int .u8 0)], .agg [.lit (.int .u8 0), .lit (.int .u8 0)], .agg [.lit (.int .u8 0), .lit (.int .u8 0)], .agg [.lit (.int .u8 0), .lit (.int .u8 0)], .agg [.lit (.int .u8 0), .lit (.int .u8 0)], .agg [.lit (.int .u8 0), .lit (.int .u8 0)], .agg [.lit (.int .u8 0), .lit (.int .u8 0)], .agg [.lit (.int .u8 0), .lit (.int .u8 0)]]
def laid_errors_errorType {H : Type} : DataW H := .iface "internal/reflectlite.rtype" (.agg [.ptr (.lit (.string [101, 114, 114, 111, 114]))])
def laid_tinyos_machine_fixed {H : Type} : DataW H := .agg [.agg [.lit (.int .i64 0), .lit (.int .i64 4), .lit (.int .u64 1179403647)], .agg [.lit (.int .i64 4), .lit (.int .i64 3), .lit (.int .u64 65794)], .agg [.lit (.int .i64 16), .lit (.int .i64 2), .lit (.int .u64 2)], .agg [.lit (.int .i64 18), .lit (.int .i64 2), .lit (.int .u64 243)], .agg [.lit (.int .i64 20), .lit (.int .i64 4), .lit (.int .u64 1)], .agg [.lit (.int .i64 32), .lit (.int .i64 8), .lit (.int .u64 64)], .agg [.lit (.int .i64 52), .lit (.int .i64 2), .lit (.int .u64 64)], .agg [.lit (.int .i64 54), .lit (.int .i64 2), .lit (.int .u64 56)]]
def laid_tinyos_kernel_has {H : Type} : DataW H := .agg [.lit (.int .i64 0), .lit (.int .i64 0), .lit (.int .i64 3), .lit (.int .i64 0), .lit (.int .i64 0), .lit (.int .i64 0), .lit (.int .i64 0), .lit (.int .i64 0), .lit (.int .i64 1), .lit (.int .i64 0), .lit (.int .i64 8), .lit (.int .i64 4), .lit (.int .i64 0), .lit (.int .i64 0), .lit (.int .i64 0), .lit (.int .i64 1), .lit (.int .i64 1), .lit (.int .i64 0), .lit (.int .i64 8), .lit (.int .i64 4), .lit (.int .i64 1), .lit (.int .i64 1)]
/-- One of Go's own tables, pinned by name: the form's constant. -/
def laid_unicode_utf8_first : DataW Unit := Go.Pinned.utf8First

/-- 'tinyoslaw.Alone': WHATEVER THE INPUT: true; the input reads as it did. -/
def aloneSpec : ChangeSpec := { name := "alone", fn := fun _ => fun
  | [d1, d2, d3, d4] => { results := [.lit (.bool true)], args := [d1, d2, d3, d4] }
  | _ => none }
def aloneRow : OpenClaim := { program := "ytcnjjchlebmfiaagreatdoor", sum := "c7b79def1e54fa545cd76991b8628506d737a273556551073b19324e23f6965a", func := "tinyos/tinyoslaw.Alone", spec := "alone", inPlace := ["internal/bytealg.CountString", "internal/bytealg.IndexByteString", "internal/bytealg.IndexString", "internal/reflectlite.ValueOf", "(internal/reflectlite.Value).Type", "(internal/reflectlite.Value).IsNil", "internal/reflectlite.TypeOf", "(internal/reflectlite.Value).Elem", "(internal/reflectlite.Value).Set", "maps.clone"], unfollowed := true, recurses := true, named := ["unicode/utf8.first", "unicode/utf8.acceptRanges", "internal/bytealg.MaxLen", "tinyos/machine.fixed", "errors.errorType", "tinyos/kernel.has"], apart := false, laid := [("unicode/utf8.acceptRanges", laid_unicode_utf8_acceptRanges), ("errors.errorType", laid_errors_errorType), ("tinyos/machine.fixed", laid_tinyos_machine_fixed), ("tinyos/kernel.has", laid_tinyos_kernel_has), ("unicode/utf8.first", laid_unicode_utf8_first)] }
def AloneSaid : Prop := aloneRow.holds Tryz.pinned (OpenSpec.ofChange aloneSpec)

/-- ITS FALSE NEIGHBOUR: 'it returns false'. Refute it at one input. -/
def aloneWrong : ChangeSpec := { name := "alone", fn := fun _ => fun
  | [d1, d2, d3, d4] => { results := [.lit (.bool false)], args := [d1, d2, d3, d4] }
  | _ => none }
def AloneWrongFalsely : Prop := aloneRow.holds Tryz.pinned (OpenSpec.ofChange aloneWrong)

/-- 'tinyoslaw.Forged': WHATEVER THE INPUT: true; the input reads as it did. -/
def forgedSpec : ChangeSpec := { name := "forged", fn := fun _ => fun
  | [d1, d2, d3, d4, d5] => { results := [.lit (.bool true)], args := [d1, d2, d3, d4, d5] }
  | _ => none }
def forgedRow : OpenClaim := { program := "ytcnjjchlebmfiaagreatdoor", sum := "c7b79def1e54fa545cd76991b8628506d737a273556551073b19324e23f6965a", func := "tinyos/tinyoslaw.Forged", spec := "forged", inPlace := ["internal/bytealg.CountString", "internal/bytealg.IndexByteString", "internal/bytealg.IndexString", "internal/reflectlite.ValueOf", "(internal/reflectlite.Value).Type", "(internal/reflectlite.Value).IsNil", "internal/reflectlite.TypeOf", "(internal/reflectlite.Value).Elem", "(internal/reflectlite.Value).Set", "maps.clone"], unfollowed := true, recurses := true, named := ["unicode/utf8.first", "unicode/utf8.acceptRanges", "internal/bytealg.MaxLen", "tinyos/machine.fixed", "errors.errorType", "tinyos/kernel.has"], apart := false, laid := [("unicode/utf8.acceptRanges", laid_unicode_utf8_acceptRanges), ("errors.errorType", laid_errors_errorType), ("tinyos/machine.fixed", laid_tinyos_machine_fixed), ("tinyos/kernel.has", laid_tinyos_kernel_has), ("unicode/utf8.first", laid_unicode_utf8_first)] }
def ForgedSaid : Prop := forgedRow.holds Tryz.pinned (OpenSpec.ofChange forgedSpec)

/-- ITS FALSE NEIGHBOUR: 'it returns false'. Refute it at one input. -/
def forgedWrong : ChangeSpec := { name := "forged", fn := fun _ => fun
  | [d1, d2, d3, d4, d5] => { results := [.lit (.bool false)], args := [d1, d2, d3, d4, d5] }
  | _ => none }
def ForgedWrongFalsely : Prop := forgedRow.holds Tryz.pinned (OpenSpec.ofChange forgedWrong)

/-- 'tinyoslaw.Spoilt': WHATEVER THE INPUT: true; the input reads as it did. -/
def spoiltSpec : ChangeSpec := { name := "spoilt", fn := fun _ => fun
  | [d1, d2, d3, d4, d5] => { results := [.lit (.bool true)], args := [d1, d2, d3, d4, d5] }
  | _ => none }
def spoiltRow : OpenClaim := { program := "ytcnjjchlebmfiaagreatdoor", sum := "c7b79def1e54fa545cd76991b8628506d737a273556551073b19324e23f6965a", func := "tinyos/tinyoslaw.Spoilt", spec := "spoilt", inPlace := ["internal/bytealg.CountString", "internal/bytealg.IndexByteString", "internal/bytealg.IndexString", "internal/reflectlite.ValueOf", "(internal/reflectlite.Value).Type", "(internal/reflectlite.Value).IsNil", "internal/reflectlite.TypeOf", "(internal/reflectlite.Value).Elem", "(internal/reflectlite.Value).Set", "maps.clone"], unfollowed := true, recurses := true, named := ["unicode/utf8.first", "unicode/utf8.acceptRanges", "internal/bytealg.MaxLen", "tinyos/machine.fixed", "errors.errorType", "tinyos/kernel.has"], apart := false, laid := [("unicode/utf8.acceptRanges", laid_unicode_utf8_acceptRanges), ("errors.errorType", laid_errors_errorType), ("tinyos/machine.fixed", laid_tinyos_machine_fixed), ("tinyos/kernel.has", laid_tinyos_kernel_has), ("unicode/utf8.first", laid_unicode_utf8_first)] }
def SpoiltSaid : Prop := spoiltRow.holds Tryz.pinned (OpenSpec.ofChange spoiltSpec)

/-- ITS FALSE NEIGHBOUR: 'it returns false'. Refute it at one input. -/
def spoiltWrong : ChangeSpec := { name := "spoilt", fn := fun _ => fun
  | [d1, d2, d3, d4, d5] => { results := [.lit (.bool false)], args := [d1, d2, d3, d4, d5] }
  | _ => none }
def SpoiltWrongFalsely : Prop := spoiltRow.holds Tryz.pinned (OpenSpec.ofChange spoiltWrong)

/-- 'tinyoslaw.Pipes': WHATEVER THE INPUT: true; the input reads as it did. -/
def pipesSpec : ChangeSpec := { name := "pipes", fn := fun _ => fun
  | [d1, d2] => { results := [.lit (.bool true)], args := [d1, d2] }
  | _ => none }
def pipesRow : OpenClaim := { program := "ytcnjjchlebmfiaagreatdoor", sum := "c7b79def1e54fa545cd76991b8628506d737a273556551073b19324e23f6965a", func := "tinyos/tinyoslaw.Pipes", spec := "pipes", inPlace := ["internal/bytealg.CountString", "internal/bytealg.IndexByteString", "internal/bytealg.IndexString", "internal/reflectlite.ValueOf", "(internal/reflectlite.Value).Type", "(internal/reflectlite.Value).IsNil", "internal/reflectlite.TypeOf", "(internal/reflectlite.Value).Elem", "(internal/reflectlite.Value).Set", "maps.clone"], unfollowed := true, recurses := true, named := ["unicode/utf8.first", "unicode/utf8.acceptRanges", "internal/bytealg.MaxLen", "tinyos/machine.fixed", "errors.errorType", "tinyos/kernel.has"], apart := false, laid := [("unicode/utf8.acceptRanges", laid_unicode_utf8_acceptRanges), ("errors.errorType", laid_errors_errorType), ("tinyos/machine.fixed", laid_tinyos_machine_fixed), ("tinyos/kernel.has", laid_tinyos_kernel_has), ("unicode/utf8.first", laid_unicode_utf8_first)] }
def PipesSaid : Prop := pipesRow.holds Tryz.pinned (OpenSpec.ofChange pipesSpec)

/-- ITS FALSE NEIGHBOUR: 'it returns false'. Refute it at one input. -/
def pipesWrong : ChangeSpec := { name := "pipes", fn := fun _ => fun
  | [d1, d2] => { results := [.lit (.bool false)], args := [d1, d2] }
  | _ => none }
def PipesWrongFalsely : Prop := pipesRow.holds Tryz.pinned (OpenSpec.ofChange pipesWrong)

/-- 'tinyoslaw.Execs': WHATEVER THE INPUT: true; the input reads as it did. -/
def execsSpec : ChangeSpec := { name := "execs", fn := fun _ => fun
  | [d1, d2] => { results := [.lit (.bool true)], args := [d1, d2] }
  | _ => none }
def execsRow : OpenClaim := { program := "ytcnjjchlebmfiaagreatdoor", sum := "c7b79def1e54fa545cd76991b8628506d737a273556551073b19324e23f6965a", func := "tinyos/tinyoslaw.Execs", spec := "execs", inPlace := ["internal/bytealg.CountString", "internal/bytealg.IndexByteString", "internal/bytealg.IndexString", "internal/reflectlite.ValueOf", "(internal/reflectlite.Value).Type", "(internal/reflectlite.Value).IsNil", "internal/reflectlite.TypeOf", "(internal/reflectlite.Value).Elem", "(internal/reflectlite.Value).Set", "maps.clone"], unfollowed := true, recurses := true, named := ["unicode/utf8.first", "unicode/utf8.acceptRanges", "internal/bytealg.MaxLen", "tinyos/machine.fixed", "errors.errorType", "tinyos/kernel.has"], apart := false, laid := [("unicode/utf8.acceptRanges", laid_unicode_utf8_acceptRanges), ("errors.errorType", laid_errors_errorType), ("tinyos/machine.fixed", laid_tinyos_machine_fixed), ("tinyos/kernel.has", laid_tinyos_kernel_has), ("unicode/utf8.first", laid_unicode_utf8_first)] }
def ExecsSaid : Prop := execsRow.holds Tryz.pinned (OpenSpec.ofChange execsSpec)

/-- ITS FALSE NEIGHBOUR: 'it returns false'. Refute it at one input. -/
def execsWrong : ChangeSpec := { name := "execs", fn := fun _ => fun
  | [d1, d2] => { results := [.lit (.bool false)], args := [d1, d2] }
  | _ => none }
def ExecsWrongFalsely : Prop := execsRow.holds Tryz.pinned (OpenSpec.ofChange execsWrong)

/- THE SECOND FORM. 'bulk': how many values and letters a reading holds, each counted each time it is reached (what is shared counts as often as it is met; a slice's spare places count too). A statement '..UptoSaid' is the law's where the arguments, and the package variables that the reading takes, are together of bulk at most 1048576: NARROWER than '..Said'. Prove '..Said' where nothing that the law and all that it calls make is longer than what came in: it says more and counts as full. Else prove '..UptoSaid'. A law counts once. -/
mutual
def uptoBulk {H : Type} : DataW H → Nat
  | .lit (.string bytes) => bytes.length + 1
  | .lit _ => 1
  | .nil => 1
  | .ptr d => uptoBulk d + 1
  | .slice elems spare => uptoBulkAll elems + uptoBulkAll spare + 1
  | .agg parts => uptoBulkAll parts + 1
  | .iface _ d => uptoBulk d + 1
  | .map entries => uptoBulkEntries entries + 1
  | .held _ => 1
def uptoBulkAll {H : Type} : List (DataW H) → Nat
  | [] => 0
  | d :: r => uptoBulk d + uptoBulkAll r
def uptoBulkEntries {H : Type} : List (Lit × DataW H) → Nat
  | [] => 0
  | x :: r => uptoBulkEntry x + uptoBulkEntries r
def uptoBulkEntry {H : Type} : Lit × DataW H → Nat
  | (.string bytes, d) => bytes.length + uptoBulk d + 1
  | (_, d) => uptoBulk d + 1
 end
def uptoSmall : (H : Type) → List (DataW H) → Bool := fun _ ds => decide (uptoBulkAll ds ≤ 1048576)
def OpenSpec.upto (s : _root_.Go.ChangeSpec) : _root_.Go.OpenSpec := { _root_.Go.OpenSpec.ofChange s with cond := some uptoSmall }

/-- 'tinyoslaw.Alone', WHERE WHAT IT READS IS OF BULK AT MOST 1048576: true; the input reads as it did. -/
def aloneUptoRow : OpenClaim := { program := "ytcnjjchlebmfiaagreatdoor", sum := "c7b79def1e54fa545cd76991b8628506d737a273556551073b19324e23f6965a", func := "tinyos/tinyoslaw.Alone", spec := "alone", inPlace := ["internal/bytealg.CountString", "internal/bytealg.IndexByteString", "internal/bytealg.IndexString", "internal/reflectlite.ValueOf", "(internal/reflectlite.Value).Type", "(internal/reflectlite.Value).IsNil", "internal/reflectlite.TypeOf", "(internal/reflectlite.Value).Elem", "(internal/reflectlite.Value).Set", "maps.clone"], unfollowed := true, recurses := true, named := ["unicode/utf8.first", "unicode/utf8.acceptRanges", "internal/bytealg.MaxLen", "tinyos/machine.fixed", "errors.errorType", "tinyos/kernel.has"], apart := false, laid := [("unicode/utf8.acceptRanges", laid_unicode_utf8_acceptRanges), ("errors.errorType", laid_errors_errorType), ("tinyos/machine.fixed", laid_tinyos_machine_fixed), ("tinyos/kernel.has", laid_tinyos_kernel_has), ("unicode/utf8.first", laid_unicode_utf8_first)], narrowed := true }
def AloneUptoSaid : Prop := aloneUptoRow.holds Tryz.pinned (OpenSpec.upto aloneSpec)

/-- 'tinyoslaw.Forged', WHERE WHAT IT READS IS OF BULK AT MOST 1048576: true; the input reads as it did. -/
def forgedUptoRow : OpenClaim := { program := "ytcnjjchlebmfiaagreatdoor", sum := "c7b79def1e54fa545cd76991b8628506d737a273556551073b19324e23f6965a", func := "tinyos/tinyoslaw.Forged", spec := "forged", inPlace := ["internal/bytealg.CountString", "internal/bytealg.IndexByteString", "internal/bytealg.IndexString", "internal/reflectlite.ValueOf", "(internal/reflectlite.Value).Type", "(internal/reflectlite.Value).IsNil", "internal/reflectlite.TypeOf", "(internal/reflectlite.Value).Elem", "(internal/reflectlite.Value).Set", "maps.clone"], unfollowed := true, recurses := true, named := ["unicode/utf8.first", "unicode/utf8.acceptRanges", "internal/bytealg.MaxLen", "tinyos/machine.fixed", "errors.errorType", "tinyos/kernel.has"], apart := false, laid := [("unicode/utf8.acceptRanges", laid_unicode_utf8_acceptRanges), ("errors.errorType", laid_errors_errorType), ("tinyos/machine.fixed", laid_tinyos_machine_fixed), ("tinyos/kernel.has", laid_tinyos_kernel_has), ("unicode/utf8.first", laid_unicode_utf8_first)], narrowed := true }
def ForgedUptoSaid : Prop := forgedUptoRow.holds Tryz.pinned (OpenSpec.upto forgedSpec)

/-- 'tinyoslaw.Spoilt', WHERE WHAT IT READS IS OF BULK AT MOST 1048576: true; the input reads as it did. -/
def spoiltUptoRow : OpenClaim := { program := "ytcnjjchlebmfiaagreatdoor", sum := "c7b79def1e54fa545cd76991b8628506d737a273556551073b19324e23f6965a", func := "tinyos/tinyoslaw.Spoilt", spec := "spoilt", inPlace := ["internal/bytealg.CountString", "internal/bytealg.IndexByteString", "internal/bytealg.IndexString", "internal/reflectlite.ValueOf", "(internal/reflectlite.Value).Type", "(internal/reflectlite.Value).IsNil", "internal/reflectlite.TypeOf", "(internal/reflectlite.Value).Elem", "(internal/reflectlite.Value).Set", "maps.clone"], unfollowed := true, recurses := true, named := ["unicode/utf8.first", "unicode/utf8.acceptRanges", "internal/bytealg.MaxLen", "tinyos/machine.fixed", "errors.errorType", "tinyos/kernel.has"], apart := false, laid := [("unicode/utf8.acceptRanges", laid_unicode_utf8_acceptRanges), ("errors.errorType", laid_errors_errorType), ("tinyos/machine.fixed", laid_tinyos_machine_fixed), ("tinyos/kernel.has", laid_tinyos_kernel_has), ("unicode/utf8.first", laid_unicode_utf8_first)], narrowed := true }
def SpoiltUptoSaid : Prop := spoiltUptoRow.holds Tryz.pinned (OpenSpec.upto spoiltSpec)

/-- 'tinyoslaw.Pipes', WHERE WHAT IT READS IS OF BULK AT MOST 1048576: true; the input reads as it did. -/
def pipesUptoRow : OpenClaim := { program := "ytcnjjchlebmfiaagreatdoor", sum := "c7b79def1e54fa545cd76991b8628506d737a273556551073b19324e23f6965a", func := "tinyos/tinyoslaw.Pipes", spec := "pipes", inPlace := ["internal/bytealg.CountString", "internal/bytealg.IndexByteString", "internal/bytealg.IndexString", "internal/reflectlite.ValueOf", "(internal/reflectlite.Value).Type", "(internal/reflectlite.Value).IsNil", "internal/reflectlite.TypeOf", "(internal/reflectlite.Value).Elem", "(internal/reflectlite.Value).Set", "maps.clone"], unfollowed := true, recurses := true, named := ["unicode/utf8.first", "unicode/utf8.acceptRanges", "internal/bytealg.MaxLen", "tinyos/machine.fixed", "errors.errorType", "tinyos/kernel.has"], apart := false, laid := [("unicode/utf8.acceptRanges", laid_unicode_utf8_acceptRanges), ("errors.errorType", laid_errors_errorType), ("tinyos/machine.fixed", laid_tinyos_machine_fixed), ("tinyos/kernel.has", laid_tinyos_kernel_has), ("unicode/utf8.first", laid_unicode_utf8_first)], narrowed := true }
def PipesUptoSaid : Prop := pipesUptoRow.holds Tryz.pinned (OpenSpec.upto pipesSpec)

/-- 'tinyoslaw.Execs', WHERE WHAT IT READS IS OF BULK AT MOST 1048576: true; the input reads as it did. -/
def execsUptoRow : OpenClaim := { program := "ytcnjjchlebmfiaagreatdoor", sum := "c7b79def1e54fa545cd76991b8628506d737a273556551073b19324e23f6965a", func := "tinyos/tinyoslaw.Execs", spec := "execs", inPlace := ["internal/bytealg.CountString", "internal/bytealg.IndexByteString", "internal/bytealg.IndexString", "internal/reflectlite.ValueOf", "(internal/reflectlite.Value).Type", "(internal/reflectlite.Value).IsNil", "internal/reflectlite.TypeOf", "(internal/reflectlite.Value).Elem", "(internal/reflectlite.Value).Set", "maps.clone"], unfollowed := true, recurses := true, named := ["unicode/utf8.first", "unicode/utf8.acceptRanges", "internal/bytealg.MaxLen", "tinyos/machine.fixed", "errors.errorType", "tinyos/kernel.has"], apart := false, laid := [("unicode/utf8.acceptRanges", laid_unicode_utf8_acceptRanges), ("errors.errorType", laid_errors_errorType), ("tinyos/machine.fixed", laid_tinyos_machine_fixed), ("tinyos/kernel.has", laid_tinyos_kernel_has), ("unicode/utf8.first", laid_unicode_utf8_first)], narrowed := true }
def ExecsUptoSaid : Prop := execsUptoRow.holds Tryz.pinned (OpenSpec.upto execsSpec)

end Rows
end Go.Proofs.YtcnjjchlebmfiaaGreatDoor
