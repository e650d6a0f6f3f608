/- api.Tell of the errors that occur: nil gives 0; an Errno its number; a CallError that of its Errno. Condition: the library's variable errors.errorType holds the handle of the type error. -/
import Derived.Test.YtkcjafnaephjiaaGreatDoorChecked
import Derived.WalkKit
import Derived.LaidEql
import Derived.Stop.Asserts
import Derived.RowKitTokens
import Derived.Lib.Hide
import Derived.Test.YtkcjafnaephjiaaGreatDoorPart00
set_option linter.unusedVariables false
set_option linter.unusedSimpArgs false
namespace Go.Proofs.YtkcjafnaephjiaaGreatDoor
open Go.RowKit Go.Extern.Stop Go.Stop Go.Extern
set_option maxRecDepth 100000

/-! ### closed facts on the model's entries for internal/reflectlite at this program's types -/
namespace Rl
theorem valueOfP (t : Addr) (w : World) : (ReflectliteValue.unpack (.iface 100 (.pointer (some t)))).run Tryz.prog w
    = .ok (.agg #[.pointer (some ⟨5, 100, none⟩), .pointer (some ⟨w.heap.size, 0, none⟩), .int .u64 150]) (w.alloc (.cells #[.pointer (some t)] 100)) := by kernel_rfl
theorem typeP (a : Addr) (w : World) : (ReflectliteValue.methodAny (ReflectliteValue.valueError "reflectlite.Value.Type" 0) (fun t _ _ _ => ReflectliteType.toType t) #[.agg #[.pointer (some ⟨5, 100, none⟩), .pointer (some a), .int .u64 150]]).run Tryz.prog w
    = .ok (.iface 195 (.agg #[.pointer (some ⟨5, 100, none⟩)])) w := by kernel_rfl
theorem methodKind (h : Value) (w : World) : (Go.method 457 195 (.agg #[h]) "Kind").run Tryz.prog w = .ok (189, h) w := by kernel_rfl
theorem kindP (w : World) : ((ReflectliteType.abiMethod fun t => (fun a : Nat => Value.int IntKind.u8 (a : Int)) <$> Rtype.kind t) #[.pointer (some ⟨5, 100, none⟩)]).run Tryz.prog w = .ok (.int .u8 22) w := by kernel_rfl
theorem kindE (w : World) : ((ReflectliteType.abiMethod fun t => (fun a : Nat => Value.int IntKind.u8 (a : Int)) <$> Rtype.kind t) #[.pointer (some ⟨5, 45, none⟩)]).run Tryz.prog w = .ok (.int .u8 2) w := by kernel_rfl
theorem rlm (z : Sem Value) (f : TypeId → Addr → Nat → Nat → Sem Value) (v : Value) :
    ReflectliteValue.method z f #[v] = (do match ← ReflectliteValue.parts v with | none => z | some (t, a, fl) => f t a fl (fl % 32)) := rfl
theorem partsP (a : Addr) (w : World) : (ReflectliteValue.parts (.agg #[.pointer (some ⟨5, 100, none⟩), .pointer (some a), .int .u64 150])).run Tryz.prog w = .ok (some (100, a, 150)) w := by kernel_rfl
/-- (Value).IsNil at the Value of a pointer that is not nil. -/
theorem isNilP (a p : Addr) (W : World) (ha : W.cell? a = some (.pointer (some p))) :
    (ReflectliteValue.method (ReflectliteValue.valueError "reflectlite.Value.IsNil" 0) ReflectliteValue.isNil #[.agg #[.pointer (some ⟨5, 100, none⟩), .pointer (some a), .int .u64 150]]).run Tryz.prog W = .ok (.bool false) W := by
  rw [rlm]
  simp only [Sem.run_bind, partsP, Result.andThen]
  simp [ReflectliteValue.isNil, loadVar, isAgg, underlying, Tryz.underlying100, ha, Result.andThen]
theorem methodElem (h : Value) (w : World) : (Go.method 457 195 (.agg #[h]) "Elem").run Tryz.prog w = .ok (209, .agg #[h]) w := by kernel_rfl
theorem methodImplements (h : Value) (w : World) : (Go.method 457 195 (.agg #[h]) "Implements").run Tryz.prog w = .ok (210, .agg #[h]) w := by kernel_rfl
theorem methodAssignableTo (h : Value) (w : World) : (Go.method 457 195 (.agg #[h]) "AssignableTo").run Tryz.prog w = .ok (207, .agg #[h]) w := by kernel_rfl
theorem elemP (w : World) : (ReflectliteType.method ReflectliteType.elem #[.agg #[.pointer (some ⟨5, 100, none⟩)]]).run Tryz.prog w = .ok (.iface 195 (.agg #[.pointer (some ⟨5, 45, none⟩)])) w := by kernel_rfl
theorem implementsE (w : World) : (ReflectliteType.relation "Implements" ReflectliteType.implements_ #[.agg #[.pointer (some ⟨5, 45, none⟩)], .iface 195 (.agg #[.pointer (some ⟨5, 40, none⟩)])]).run Tryz.prog w = .ok (.bool true) w := by kernel_rfl
theorem typeOfE (v : Value) (w : World) : (ReflectliteType.typeOf #[.iface 45 v]).run Tryz.prog w = .ok (.iface 195 (.agg #[.pointer (some ⟨5, 45, none⟩)])) w := by kernel_rfl
theorem assignableE (w : World) : (ReflectliteType.relation "AssignableTo" ReflectliteType.assignableTo #[.agg #[.pointer (some ⟨5, 45, none⟩)], .iface 195 (.agg #[.pointer (some ⟨5, 45, none⟩)])]).run Tryz.prog w = .ok (.bool true) w := by kernel_rfl
theorem valueOfE (n : Int) (w : World) : (ReflectliteValue.unpack (.iface 45 (.int .i64 n))).run Tryz.prog w
    = .ok (.agg #[.pointer (some ⟨5, 45, none⟩), .pointer (some ⟨w.heap.size, 0, none⟩), .int .u64 130]) (w.alloc (.cells #[.int .i64 n] 45)) := by kernel_rfl
theorem elemOfP (w : World) : (Rtype.elem? 100).run Tryz.prog w = .ok (some 45) w := by kernel_rfl
theorem mkE (p : Addr) (w : World) : (ReflectliteValue.mk 45 p ReflectliteValue.flagAddr).run Tryz.prog w = .ok (.agg #[.pointer (some ⟨5, 45, none⟩), .pointer (some p), .int .u64 386]) w := by kernel_rfl
/-- (Value).Elem at the Value of a pointer that is not nil: the Value of the variable that it points to, addressable. -/
theorem elemVP (a p : Addr) (W : World) (ha : W.cell? a = some (.pointer (some p))) :
    (ReflectliteValue.method (ReflectliteValue.valueError "reflectlite.Value.Elem" 0) ReflectliteValue.elem #[.agg #[.pointer (some ⟨5, 100, none⟩), .pointer (some a), .int .u64 150]]).run Tryz.prog W
      = .ok (.agg #[.pointer (some ⟨5, 45, none⟩), .pointer (some p), .int .u64 386]) W := by
  rw [rlm]
  simp only [Sem.run_bind, partsP, Result.andThen]
  simp [ReflectliteValue.elem, loadVar, isAgg, underlying, Tryz.underlying100, ha, Result.andThen, elemOfP, mkE]
theorem rls (v x : Value) : ReflectliteValue.set #[v, x] = (do
    let (some (dst, a, fl), some (src, b, _)) := (← ReflectliteValue.parts v, ← ReflectliteValue.parts x)
      | unsupported (.noEntry "extern/(internal/reflectlite.Value).Set.zeroValue")
    if fl / ReflectliteValue.flagAddr % 2 == 0 then unsupported (.noEntry "extern/(internal/reflectlite.Value).Set.unaddressable")
    let val ← loadVar src b
    if ← Rtype.directlyAssignable dst src then storeVar dst a val
    else if ← Rtype.implements dst src then
      if (← Rtype.kind src) == 20 then
        match val with
        | .nilIface => unsupported (.noEntry "extern/reflectlite: a nil value of one interface type handed on as a value of another")
        | _ => storeVar dst a val
      else storeVar dst a (.iface src val)
    else panicString ("reflectlite.Set: value of type " ++ (← Rtype.spelt src) ++ " is not assignable to type " ++ (← Rtype.spelt dst))
    pure (.tuple #[])) := rfl
theorem partsEa (a : Addr) (w : World) : (ReflectliteValue.parts (.agg #[.pointer (some ⟨5, 45, none⟩), .pointer (some a), .int .u64 386])).run Tryz.prog w = .ok (some (45, a, 386)) w := by kernel_rfl
theorem partsE (a : Addr) (w : World) : (ReflectliteValue.parts (.agg #[.pointer (some ⟨5, 45, none⟩), .pointer (some a), .int .u64 130])).run Tryz.prog w = .ok (some (45, a, 130)) w := by kernel_rfl
theorem directE (w : World) : (Rtype.directlyAssignable 45 45).run Tryz.prog w = .ok true w := by kernel_rfl
/-- (Value).Set: the Errno variable at 'ta' gets what the Value's own variable 'b' holds. -/
theorem setE (ta b : Addr) (n : Int) (old : Value) (W : World) (hb : W.cell? b = some (.int .i64 n)) (ht : W.cell? ta = some old) (hf : W.frozen? ta = false) :
    (ReflectliteValue.set #[.agg #[.pointer (some ⟨5, 45, none⟩), .pointer (some ta), .int .u64 386], .agg #[.pointer (some ⟨5, 45, none⟩), .pointer (some b), .int .u64 130]]).run Tryz.prog W
      = .ok (.tuple #[]) (W.setCell ta (.int .i64 n)) := by
  rw [rls]
  simp only [Sem.run_bind, partsEa, partsE, Result.andThen]
  simp [ReflectliteValue.flagAddr, loadVar, isAgg, underlying, Tryz.underlying45, hb, Result.andThen, directE, storeVar, Value.cells, storeCells, Addr.add]
  rw [run_store Tryz.prog W ta _ _ (by rfl)]
  simp [ht, hf]
end Rl

/-- What errors.errorType holds. -/
def ErrVar (w : World) : Prop := w.cell? ⟨0, 0, none⟩ = some (.iface 195 (.agg #[.pointer (some ⟨5, 40, none⟩)]))

theorem ErrVar.lt {w : World} (h : ErrVar w) : 0 < w.heap.size := by
  have := World.block_lt_of_cell? _ _ h
  simpa using this
theorem ErrVar.bel {w w' : World} (h : ErrVar w) (hb : Bel w w') : ErrVar w' := (hb.cell (p := ⟨0, 0, none⟩) h.lt).trans h
theorem ErrVar.below {B : Nat} {w w' : World} (h : ErrVar w) (hB : 0 < B) (hb : Below B w w') : ErrVar w' := (hb.cell (p := ⟨0, 0, none⟩) hB).trans h

theorem as_nil (t : Value) (w : World) : Calls Tryz.prog 27 #[.nilIface, t] w fun e w' => e = .returned (.bool false) ∧ w = w' := by
  go_enter Tryz.func27, Tryz.ntmps27
  go_wp2
  go_ret
  exact ⟨rfl, rfl⟩
theorem tell_nil (w : World) : Calls Tryz.prog 12 #[.nilIface] w fun e w' => e = .returned (.int .i64 0) ∧ Bel w w' := by
  go_enter Tryz.func12, Tryz.ntmps12
  go_wp2
  go_ret
  exact ⟨rfl, (Below.refl _ _).alloc (Nat.le_refl _) _⟩

set_option maxHeartbeats 4000000 in
/-- errors.as at an Errno: the target gets it. -/
theorem as_errno (n : Int) (t a : Addr) (old : Value) (w : World) (ha : w.cell? a = some (.pointer (some t))) (ht0 : w.cell? t = some old) (hf0 : w.frozen? t = false) :
    Calls Tryz.prog 44 #[.iface 45 (.int .i64 n), .iface 100 (.pointer (some t)), .agg #[.pointer (some ⟨5, 100, none⟩), .pointer (some a), .int .u64 150], .iface 195 (.agg #[.pointer (some ⟨5, 45, none⟩)])] w
      fun ev w' => ev = .returned (.bool true) ∧ ∃ W1, Below w.heap.size w W1 ∧ w' = W1.setCell t (.int .i64 n) := by
  have h76 := @run_callFunc_extern Tryz.prog 41 _ (fun args => ReflectliteValue.unpack (args.getD 0 (.tuple #[]))) Tryz.func41 (by kernel_rfl) (by kernel_rfl) (by kernel_rfl) (by kernel_rfl)
  have h114 := @run_callFunc_extern Tryz.prog 66 _ ReflectliteType.typeOf Tryz.func66 (by kernel_rfl) (by kernel_rfl) (by kernel_rfl) (by kernel_rfl)
  have h411 := @run_callFunc_extern Tryz.prog 207 _ (ReflectliteType.relation "AssignableTo" ReflectliteType.assignableTo) Tryz.func207 (by kernel_rfl) (by kernel_rfl) (by kernel_rfl) (by kernel_rfl)
  have h115 := @run_callFunc_extern Tryz.prog 67 _ (ReflectliteValue.method (ReflectliteValue.valueError "reflectlite.Value.Elem" 0) ReflectliteValue.elem) Tryz.func67 (by kernel_rfl) (by kernel_rfl) (by kernel_rfl) (by kernel_rfl)
  have h116 := @run_callFunc_extern Tryz.prog 68 _ ReflectliteValue.set Tryz.func68 (by kernel_rfl) (by kernel_rfl) (by kernel_rfl) (by kernel_rfl)
  have tO := Rl.typeOfE
  have mA := Rl.methodAssignableTo
  have aE := Rl.assignableE
  have vE := Rl.valueOfE
  have htl : t.block < w.heap.size := World.block_lt_of_cell? _ _ ht0
  have hal : a.block < w.heap.size := World.block_lt_of_cell? _ _ ha
  have el := Rl.elemVP a t (w.alloc (.cells #[.pointer (some ⟨5, 100, none⟩), .pointer (some a), .int .u64 150] 145)) (by rw [World.cell?_alloc_lt _ _ a hal]; exact ha)
  have st := Rl.setE t ⟨w.heap.size + 1, 0, none⟩ n old ((w.alloc (.cells #[.pointer (some ⟨5, 100, none⟩), .pointer (some a), .int .u64 150] 145)).alloc (.cells #[.int .i64 n] 45))
    (by rw [World.cell?_alloc_at _ _ _ _ (by simp)]; rfl)
    (by rw [World.cell?_alloc_lt _ _ t (by simp; omega), World.cell?_alloc_lt _ _ t htl]; exact ht0)
    (by rw [World.frozen?_alloc_old _ _ t (by simp; omega), World.frozen?_alloc_old _ _ t (Nat.ne_of_lt htl)]; exact hf0)
  go_enter Tryz.func44, Tryz.ntmps44
  go_wp2
  refine wp_loop_rounds 1 ?_
  rw [rounds_succ]
  go_wp2
  go_ret
  exact ⟨rfl, _, ((Below.refl _ _).alloc (Nat.le_refl _) _).alloc (by simp) _, rfl⟩

/-- What errors.as answers at an error x whose number is n: the target gets it. -/
def AsHit (x : Value) (n : Int) (w0 : World) : Prop := ∀ (w : World) (t a : Addr) (old : Value), Below w0.heap.size w0 w → w.cell? a = some (.pointer (some t)) → w.cell? t = some old → w.frozen? t = false →
    Calls Tryz.prog 44 #[x, .iface 100 (.pointer (some t)), .agg #[.pointer (some ⟨5, 100, none⟩), .pointer (some a), .int .u64 150], .iface 195 (.agg #[.pointer (some ⟨5, 45, none⟩)])] w
      fun ev w' => ev = .returned (.bool true) ∧ ∃ W1, Below w.heap.size w W1 ∧ w' = W1.setCell t (.int .i64 n)

set_option maxHeartbeats 8000000 in
theorem As_hit (u : TypeId) (v : Value) (n : Int) (t : Addr) (old : Value) (w : World) (hx : AsHit (.iface u v) n w) (hg : ErrVar w) (ht0 : w.cell? t = some old) (hf0 : w.frozen? t = false) :
    Calls Tryz.prog 27 #[.iface u v, .iface 100 (.pointer (some t))] w
      fun ev w' => ev = .returned (.bool true) ∧ ∃ W1, Below w.heap.size w W1 ∧ w' = W1.setCell t (.int .i64 n) := by
  have h76 := @run_callFunc_extern Tryz.prog 41 _ (fun args => ReflectliteValue.unpack (args.getD 0 (.tuple #[]))) Tryz.func41 (by kernel_rfl) (by kernel_rfl) (by kernel_rfl) (by kernel_rfl)
  have h77 := @run_callFunc_extern Tryz.prog 42 _ (ReflectliteValue.methodAny (ReflectliteValue.valueError "reflectlite.Value.Type" 0) (fun t _ _ _ => ReflectliteType.toType t)) Tryz.func42 (by kernel_rfl) (by kernel_rfl) (by kernel_rfl) (by kernel_rfl)
  have h78 := @run_callFunc_extern Tryz.prog 43 _ (ReflectliteValue.method (ReflectliteValue.valueError "reflectlite.Value.IsNil" 0) ReflectliteValue.isNil) Tryz.func43 (by kernel_rfl) (by kernel_rfl) (by kernel_rfl) (by kernel_rfl)
  have h388 := @run_callFunc_extern Tryz.prog 189 _ (ReflectliteType.abiMethod fun t => do pure (.int .u8 (← Rtype.kind t))) Tryz.func189 (by kernel_rfl) (by kernel_rfl) (by kernel_rfl) (by kernel_rfl)
  have h413 := @run_callFunc_extern Tryz.prog 209 _ (ReflectliteType.method ReflectliteType.elem) Tryz.func209 (by kernel_rfl) (by kernel_rfl) (by kernel_rfl) (by kernel_rfl)
  have h414 := @run_callFunc_extern Tryz.prog 210 _ (ReflectliteType.relation "Implements" ReflectliteType.implements_) Tryz.func210 (by kernel_rfl) (by kernel_rfl) (by kernel_rfl) (by kernel_rfl)
  have f6 := Rl.valueOfP
  have f7 := Rl.typeP
  have mK := Rl.methodKind
  have mE := Rl.methodElem
  have mI := Rl.methodImplements
  have kP := Rl.kindP
  have kE := Rl.kindE
  have eP := Rl.elemP
  have iE := Rl.implementsE
  have n8 := Rl.isNilP ⟨w.heap.size, 0, none⟩ t ((w.alloc (.cells #[.pointer (some t)] 100)).alloc (.cells #[.pointer (some ⟨5, 100, none⟩), .pointer (some ⟨w.heap.size, 0, none⟩), .int .u64 150] 145)) (by simp)
  have hlt := hg.lt
  have htl : t.block < w.heap.size := World.block_lt_of_cell? _ _ ht0
  have hg2 : ((w.alloc (.cells #[.pointer (some t)] 100)).alloc (.cells #[.pointer (some ⟨5, 100, none⟩), .pointer (some ⟨w.heap.size, 0, none⟩), .int .u64 150] 145)).cell? ⟨0, 0, none⟩ = some (.iface 195 (.agg #[.pointer (some ⟨5, 40, none⟩)])) := by
    rw [World.cell?_alloc_lt _ _ ⟨0, 0, none⟩ (by simp <;> omega), World.cell?_alloc_lt _ _ ⟨0, 0, none⟩ hlt]; exact hg
  have hc := hx ((w.alloc (.cells #[.pointer (some t)] 100)).alloc (.cells #[.pointer (some ⟨5, 100, none⟩), .pointer (some ⟨w.heap.size, 0, none⟩), .int .u64 150] 145)) t ⟨w.heap.size, 0, none⟩ old
    (((Below.refl _ _).alloc (Nat.le_refl _) _).alloc (by simp) _) (by rw [World.cell?_alloc_lt _ _ ⟨w.heap.size, 0, none⟩ (by simp)]; simp)
    (by rw [World.cell?_alloc_lt _ _ t (by simp; omega), World.cell?_alloc_lt _ _ t htl]; exact ht0)
    (by rw [World.frozen?_alloc_old _ _ t (by simp; omega), World.frozen?_alloc_old _ _ t (Nat.ne_of_lt htl)]; exact hf0)
  have HC := Lib.hid hc
  clear hc hx
  go_enter Tryz.func27, Tryz.ntmps27
  go_wp2_with (go_at_call 44; refine HC.out.mono ?_; rintro e w' ⟨rfl, W1, hb, rfl⟩)
  go_ret
  exact ⟨rfl, W1, (((Below.refl _ _).alloc (Nat.le_refl _) _).alloc (by simp) _).trans (hb.mono (by simp; omega)), rfl⟩

theorem asHit_errno (n : Int) (w : World) : AsHit (.iface 45 (.int .i64 n)) n w := fun w' t a old _ ha ht hf => as_errno n t a old w' ha ht hf
set_option maxHeartbeats 4000000 in
theorem tell_hit (u : TypeId) (v : Value) (n : Int) (w : World) (hx : AsHit (.iface u v) n w) (hg : ErrVar w) :
    Calls Tryz.prog 12 #[.iface u v] w fun e w' => e = .returned (.int .i64 n) ∧ Bel w w' := by
  have hlt := hg.lt
  have hc := As_hit u v n ⟨w.heap.size, 0, none⟩ (.int .i64 0) (w.alloc (.cells #[.int .i64 0] 45)) (fun w' t a old hb => hx w' t a old (((Below.refl _ _).alloc (Nat.le_refl _) _).trans (hb.mono (by simp))))
    (hg.below hlt ((Below.refl _ _).alloc (Nat.le_refl _) _)) (by simp) (by simp)
  have HC := Lib.hid hc
  clear hc hx
  go_enter Tryz.func12, Tryz.ntmps12
  go_wp2_with fail
  refine HC.out.mono ?_
  rintro e w' ⟨rfl, W1, hb, rfl⟩
  have hs : (W1.setCell ⟨w.heap.size, 0, none⟩ (.int .i64 n)).cell? ⟨w.heap.size, 0, none⟩ = some (.int .i64 n) := World.cell?_setCell_same W1 _ _ ((hb.cell (p := ⟨w.heap.size, 0, none⟩) (by simp)).trans (by simp; rfl))
  go_wp2
  go_ret
  exact ⟨rfl, (((Below.refl _ _).alloc (Nat.le_refl _) _).trans (hb.mono (by simp))).setCell (Nat.le_refl _) _⟩
end Go.Proofs.YtkcjafnaephjiaaGreatDoor
