/- api.Tell of the errors that occur: nil gives 0; an Errno its number; a CallError that of its Errno. Condition: the library's variable errors.errorType holds the handle of the type error. -/
import Derived.Test.YtkcjafnaephjiaaGreatDoorChecked
import Derived.WalkKit
import Derived.LaidEql
import Derived.Stop.Asserts
import Derived.RowKitTokens
import Derived.Lib.Hide
import Derived.Test.YtkcjafnaephjiaaGreatDoorPart00
import Derived.Test.YtkcjafnaephjiaaGreatDoorPart03
namespace Go.Proofs.YtkcjafnaephjiaaGreatDoor
open Go.RowKit Go.Extern.Stop Go.Stop Go.Extern
set_option maxRecDepth 100000

/-! ### closed facts on the model's entries for internal/reflectlite at this program's types -/
namespace Rl
theorem valueOfP (t : Addr) (w : World) : (ReflectliteValue.unpack (.iface 100 (.pointer (some t)))).run Tryz.prog w
    = .ok (.agg #[.pointer (some ⟨5, 100, none⟩), .pointer (some ⟨w.heap.size, 0, none⟩), .int .u64 150]) (w.alloc (.cells #[.pointer (some t)] 100)) := by kernel_rfl
theorem typeP (a : Addr) (w : World) : (ReflectliteValue.methodAny (ReflectliteValue.valueError "reflectlite.Value.Type" 0) (fun t _ _ _ => ReflectliteType.toType t) #[.agg #[.pointer (some ⟨5, 100, none⟩), .pointer (some a), .int .u64 150]]).run Tryz.prog w
    = .ok (.iface 195 (.agg #[.pointer (some ⟨5, 100, none⟩)])) w := by kernel_rfl
theorem methodKind (h : Value) (w : World) : (Go.method 457 195 (.agg #[h]) "Kind").run Tryz.prog w = .ok (189, h) w := by kernel_rfl
theorem kindP (w : World) : ((ReflectliteType.abiMethod fun t => (fun a : Nat => Value.int IntKind.u8 (a : Int)) <$> Rtype.kind t) #[.pointer (some ⟨5, 100, none⟩)]).run Tryz.prog w = .ok (.int .u8 22) w := by kernel_rfl
theorem kindE (w : World) : ((ReflectliteType.abiMethod fun t => (fun a : Nat => Value.int IntKind.u8 (a : Int)) <$> Rtype.kind t) #[.pointer (some ⟨5, 45, none⟩)]).run Tryz.prog w = .ok (.int .u8 2) w := by kernel_rfl
theorem rlm (z : Sem Value) (f : TypeId → Addr → Nat → Nat → Sem Value) (v : Value) :
    ReflectliteValue.method z f #[v] = (do match ← ReflectliteValue.parts v with | none => z | some (t, a, fl) => f t a fl (fl % 32)) := rfl
theorem partsP (a : Addr) (w : World) : (ReflectliteValue.parts (.agg #[.pointer (some ⟨5, 100, none⟩), .pointer (some a), .int .u64 150])).run Tryz.prog w = .ok (some (100, a, 150)) w := by kernel_rfl
/-- (Value).IsNil at the Value of a pointer that is not nil. -/
theorem isNilP (a p : Addr) (W : World) (ha : W.cell? a = some (.pointer (some p))) :
    (ReflectliteValue.method (ReflectliteValue.valueError "reflectlite.Value.IsNil" 0) ReflectliteValue.isNil #[.agg #[.pointer (some ⟨5, 100, none⟩), .pointer (some a), .int .u64 150]]).run Tryz.prog W = .ok (.bool false) W := by
  rw [rlm]
  simp only [Sem.run_bind, partsP, Result.andThen]
  simp [ReflectliteValue.isNil, loadVar, isAgg, underlying, Tryz.underlying100, ha, Result.andThen]
theorem methodElem (h : Value) (w : World) : (Go.method 457 195 (.agg #[h]) "Elem").run Tryz.prog w = .ok (209, .agg #[h]) w := by kernel_rfl
theorem methodImplements (h : Value) (w : World) : (Go.method 457 195 (.agg #[h]) "Implements").run Tryz.prog w = .ok (210, .agg #[h]) w := by kernel_rfl
theorem methodAssignableTo (h : Value) (w : World) : (Go.method 457 195 (.agg #[h]) "AssignableTo").run Tryz.prog w = .ok (207, .agg #[h]) w := by kernel_rfl
theorem elemP (w : World) : (ReflectliteType.method ReflectliteType.elem #[.agg #[.pointer (some ⟨5, 100, none⟩)]]).run Tryz.prog w = .ok (.iface 195 (.agg #[.pointer (some ⟨5, 45, none⟩)])) w := by kernel_rfl
theorem implementsE (w : World) : (ReflectliteType.relation "Implements" ReflectliteType.implements_ #[.agg #[.pointer (some ⟨5, 45, none⟩)], .iface 195 (.agg #[.pointer (some ⟨5, 40, none⟩)])]).run Tryz.prog w = .ok (.bool true) w := by kernel_rfl
theorem typeOfE (v : Value) (w : World) : (ReflectliteType.typeOf #[.iface 45 v]).run Tryz.prog w = .ok (.iface 195 (.agg #[.pointer (some ⟨5, 45, none⟩)])) w := by kernel_rfl
theorem assignableE (w : World) : (ReflectliteType.relation "AssignableTo" ReflectliteType.assignableTo #[.agg #[.pointer (some ⟨5, 45, none⟩)], .iface 195 (.agg #[.pointer (some ⟨5, 45, none⟩)])]).run Tryz.prog w = .ok (.bool true) w := by kernel_rfl
theorem valueOfE (n : Int) (w : World) : (ReflectliteValue.unpack (.iface 45 (.int .i64 n))).run Tryz.prog w
    = .ok (.agg #[.pointer (some ⟨5, 45, none⟩), .pointer (some ⟨w.heap.size, 0, none⟩), .int .u64 130]) (w.alloc (.cells #[.int .i64 n] 45)) := by kernel_rfl
theorem elemOfP (w : World) : (Rtype.elem? 100).run Tryz.prog w = .ok (some 45) w := by kernel_rfl
theorem mkE (p : Addr) (w : World) : (ReflectliteValue.mk 45 p ReflectliteValue.flagAddr).run Tryz.prog w = .ok (.agg #[.pointer (some ⟨5, 45, none⟩), .pointer (some p), .int .u64 386]) w := by kernel_rfl
/-- (Value).Elem at the Value of a pointer that is not nil: the Value of the variable that it points to, addressable. -/
theorem elemVP (a p : Addr) (W : World) (ha : W.cell? a = some (.pointer (some p))) :
    (ReflectliteValue.method (ReflectliteValue.valueError "reflectlite.Value.Elem" 0) ReflectliteValue.elem #[.agg #[.pointer (some ⟨5, 100, none⟩), .pointer (some a), .int .u64 150]]).run Tryz.prog W
      = .ok (.agg #[.pointer (some ⟨5, 45, none⟩), .pointer (some p), .int .u64 386]) W := by
  rw [rlm]
  simp only [Sem.run_bind, partsP, Result.andThen]
  simp [ReflectliteValue.elem, loadVar, isAgg, underlying, Tryz.underlying100, ha, Result.andThen, elemOfP, mkE]
theorem rls (v x : Value) : ReflectliteValue.set #[v, x] = (do
    let (some (dst, a, fl), some (src, b, _)) := (← ReflectliteValue.parts v, ← ReflectliteValue.parts x)
      | unsupported (.noEntry "extern/(internal/reflectlite.Value).Set.zeroValue")
    if fl / ReflectliteValue.flagAddr % 2 == 0 then unsupported (.noEntry "extern/(internal/reflectlite.Value).Set.unaddressable")
    let val ← loadVar src b
    if ← Rtype.directlyAssignable dst src then storeVar dst a val
    else if ← Rtype.implements dst src then
      if (← Rtype.kind src) == 20 then
        match val with
        | .nilIface => unsupported (.noEntry "extern/reflectlite: a nil value of one interface type handed on as a value of another")
        | _ => storeVar dst a val
      else storeVar dst a (.iface src val)
    else panicString ("reflectlite.Set: value of type " ++ (← Rtype.spelt src) ++ " is not assignable to type " ++ (← Rtype.spelt dst))
    pure (.tuple #[])) := rfl
theorem partsEa (a : Addr) (w : World) : (ReflectliteValue.parts (.agg #[.pointer (some ⟨5, 45, none⟩), .pointer (some a), .int .u64 386])).run Tryz.prog w = .ok (some (45, a, 386)) w := by kernel_rfl
theorem partsE (a : Addr) (w : World) : (ReflectliteValue.parts (.agg #[.pointer (some ⟨5, 45, none⟩), .pointer (some a), .int .u64 130])).run Tryz.prog w = .ok (some (45, a, 130)) w := by kernel_rfl
theorem directE (w : World) : (Rtype.directlyAssignable 45 45).run Tryz.prog w = .ok true w := by kernel_rfl
/-- (Value).Set: the Errno variable at 'ta' gets what the Value's own variable 'b' holds. -/
theorem setE (ta b : Addr) (n : Int) (old : Value) (W : World) (hb : W.cell? b = some (.int .i64 n)) (ht : W.cell? ta = some old) (hf : W.frozen? ta = false) :
    (ReflectliteValue.set #[.agg #[.pointer (some ⟨5, 45, none⟩), .pointer (some ta), .int .u64 386], .agg #[.pointer (some ⟨5, 45, none⟩), .pointer (some b), .int .u64 130]]).run Tryz.prog W
      = .ok (.tuple #[]) (W.setCell ta (.int .i64 n)) := by
  rw [rls]
  simp only [Sem.run_bind, partsEa, partsE, Result.andThen]
  simp [ReflectliteValue.flagAddr, loadVar, isAgg, underlying, Tryz.underlying45, hb, Result.andThen, directE, storeVar, Value.cells, storeCells, Addr.add]
  rw [run_store Tryz.prog W ta _ _ (by rfl)]
  simp [ht, hf]
end Rl

/-- What errors.errorType holds. -/
def ErrVar (w : World) : Prop := w.cell? ⟨0, 0, none⟩ = some (.iface 195 (.agg #[.pointer (some ⟨5, 40, none⟩)]))

theorem ErrVar.lt {w : World} (h : ErrVar w) : 0 < w.heap.size := by
  have := World.block_lt_of_cell? _ _ h
  simpa using this
theorem ErrVar.bel {w w' : World} (h : ErrVar w) (hb : Bel w w') : ErrVar w' := (hb.cell (p := ⟨0, 0, none⟩) h.lt).trans h
theorem ErrVar.below {B : Nat} {w w' : World} (h : ErrVar w) (hB : 0 < B) (hb : Below B w w') : ErrVar w' := (hb.cell (p := ⟨0, 0, none⟩) hB).trans h

theorem as_nil (t : Value) (w : World) : Calls Tryz.prog 27 #[.nilIface, t] w fun e w' => e = .returned (.bool false) ∧ w = w' := by
  go_enter Tryz.func27, Tryz.ntmps27
  go_wp2
  go_ret
  exact ⟨rfl, rfl⟩
theorem tell_nil (w : World) : Calls Tryz.prog 12 #[.nilIface] w fun e w' => e = .returned (.int .i64 0) ∧ Bel w w' := by
  go_enter Tryz.func12, Tryz.ntmps12
  go_wp2
  go_ret
  exact ⟨rfl, (Below.refl _ _).alloc (Nat.le_refl _) _⟩

set_option maxHeartbeats 4000000 in
/-- errors.as at an Errno: the target gets it. -/
theorem as_errno (n : Int) (t a : Addr) (old : Value) (w : World) (ha : w.cell? a = some (.pointer (some t))) (ht0 : w.cell? t = some old) (hf0 : w.frozen? t = false) :
    Calls Tryz.prog 44 #[.iface 45 (.int .i64 n), .iface 100 (.pointer (some t)), .agg #[.pointer (some ⟨5, 100, none⟩), .pointer (some a), .int .u64 150], .iface 195 (.agg #[.pointer (some ⟨5, 45, none⟩)])] w
      fun ev w' => ev = .returned (.bool true) ∧ ∃ W1, Below w.heap.size w W1 ∧ w' = W1.setCell t (.int .i64 n) := by
  have h76 := @run_callFunc_extern Tryz.prog 41 _ (fun args => ReflectliteValue.unpack (args.getD 0 (.tuple #[]))) Tryz.func41 (by kernel_rfl) (by kernel_rfl) (by kernel_rfl) (by kernel_rfl)
  have h114 := @run_callFunc_extern Tryz.prog 66 _ ReflectliteType.typeOf Tryz.func66 (by kernel_rfl) (by kernel_rfl) (by kernel_rfl) (by kernel_rfl)
  have h411 := @run_callFunc_extern Tryz.prog 207 _ (ReflectliteType.relation "AssignableTo" ReflectliteType.assignableTo) Tryz.func207 (by kernel_rfl) (by kernel_rfl) (by kernel_rfl) (by kernel_rfl)
  have h115 := @run_callFunc_extern Tryz.prog 67 _ (ReflectliteValue.method (ReflectliteValue.valueError "reflectlite.Value.Elem" 0) ReflectliteValue.elem) Tryz.func67 (by kernel_rfl) (by kernel_rfl) (by kernel_rfl) (by kernel_rfl)
  have h116 := @run_callFunc_extern Tryz.prog 68 _ ReflectliteValue.set Tryz.func68 (by kernel_rfl) (by kernel_rfl) (by kernel_rfl) (by kernel_rfl)
  have tO := Rl.typeOfE
  have mA := Rl.methodAssignableTo
  have aE := Rl.assignableE
  have vE := Rl.valueOfE
  have htl : t.block < w.heap.size := World.block_lt_of_cell? _ _ ht0
  have hal : a.block < w.heap.size := World.block_lt_of_cell? _ _ ha
  have el := Rl.elemVP a t (w.alloc (.cells #[.pointer (some ⟨5, 100, none⟩), .pointer (some a), .int .u64 150] 145)) (by rw [World.cell?_alloc_lt _ _ a hal]; exact ha)
  have st := Rl.setE t ⟨w.heap.size + 1, 0, none⟩ n old ((w.alloc (.cells #[.pointer (some ⟨5, 100, none⟩), .pointer (some a), .int .u64 150] 145)).alloc (.cells #[.int .i64 n] 45))
    (by rw [World.cell?_alloc_at _ _ _ _ (by simp)]; rfl)
    (by rw [World.cell?_alloc_lt _ _ t (by simp; omega), World.cell?_alloc_lt _ _ t htl]; exact ht0)
    (by rw [World.frozen?_alloc_old _ _ t (by simp; omega), World.frozen?_alloc_old _ _ t (Nat.ne_of_lt htl)]; exact hf0)
  go_enter Tryz.func44, Tryz.ntmps44
  go_wp2
  refine wp_loop_rounds 1 ?_
  rw [rounds_succ]
  go_wp2
  go_ret
  exact ⟨rfl, _, ((Below.refl _ _).alloc (Nat.le_refl _) _).alloc (by simp) _, rfl⟩

/-- What errors.as answers at an error x whose number is n: the target gets it. -/
def AsHit (x : Value) (n : Int) (w0 : World) : Prop := ∀ (w : World) (t a : Addr) (old : Value), Below w0.heap.size w0 w → w.cell? a = some (.pointer (some t)) → w.cell? t = some old → w.frozen? t = false →
    Calls Tryz.prog 44 #[x, .iface 100 (.pointer (some t)), .agg #[.pointer (some ⟨5, 100, none⟩), .pointer (some a), .int .u64 150], .iface 195 (.agg #[.pointer (some ⟨5, 45, none⟩)])] w
      fun ev w' => ev = .returned (.bool true) ∧ ∃ W1, Below w.heap.size w W1 ∧ w' = W1.setCell t (.int .i64 n)

set_option maxHeartbeats 8000000 in
theorem As_hit (u : TypeId) (v : Value) (n : Int) (t : Addr) (old : Value) (w : World) (hx : AsHit (.iface u v) n w) (hg : ErrVar w) (ht0 : w.cell? t = some old) (hf0 : w.frozen? t = false) :
    Calls Tryz.prog 27 #[.iface u v, .iface 100 (.pointer (some t))] w
      fun ev w' => ev = .returned (.bool true) ∧ ∃ W1, Below w.heap.size w W1 ∧ w' = W1.setCell t (.int .i64 n) := by
  have h76 := @run_callFunc_extern Tryz.prog 41 _ (fun args => ReflectliteValue.unpack (args.getD 0 (.tuple #[]))) Tryz.func41 (by kernel_rfl) (by kernel_rfl) (by kernel_rfl) (by kernel_rfl)
  have h77 := @run_callFunc_extern Tryz.prog 42 _ (ReflectliteValue.methodAny (ReflectliteValue.valueError "reflectlite.Value.Type" 0) (fun t _ _ _ => ReflectliteType.toType t)) Tryz.func42 (by kernel_rfl) (by kernel_rfl) (by kernel_rfl) (by kernel_rfl)
  have h78 := @run_callFunc_extern Tryz.prog 43 _ (ReflectliteValue.method (ReflectliteValue.valueError "reflectlite.Value.IsNil" 0) ReflectliteValue.isNil) Tryz.func43 (by kernel_rfl) (by kernel_rfl) (by kernel_rfl) (by kernel_rfl)
  have h388 := @run_callFunc_extern Tryz.prog 189 _ (ReflectliteType.abiMethod fun t => do pure (.int .u8 (← Rtype.kind t))) Tryz.func189 (by kernel_rfl) (by kernel_rfl) (by kernel_rfl) (by kernel_rfl)
  have h413 := @run_callFunc_extern Tryz.prog 209 _ (ReflectliteType.method ReflectliteType.elem) Tryz.func209 (by kernel_rfl) (by kernel_rfl) (by kernel_rfl) (by kernel_rfl)
  have h414 := @run_callFunc_extern Tryz.prog 210 _ (ReflectliteType.relation "Implements" ReflectliteType.implements_) Tryz.func210 (by kernel_rfl) (by kernel_rfl) (by kernel_rfl) (by kernel_rfl)
  have f6 := Rl.valueOfP
  have f7 := Rl.typeP
  have mK := Rl.methodKind
  have mE := Rl.methodElem
  have mI := Rl.methodImplements
  have kP := Rl.kindP
  have kE := Rl.kindE
  have eP := Rl.elemP
  have iE := Rl.implementsE
  have n8 := Rl.isNilP ⟨w.heap.size, 0, none⟩ t ((w.alloc (.cells #[.pointer (some t)] 100)).alloc (.cells #[.pointer (some ⟨5, 100, none⟩), .pointer (some ⟨w.heap.size, 0, none⟩), .int .u64 150] 145)) (by simp)
  have hlt := hg.lt
  have htl : t.block < w.heap.size := World.block_lt_of_cell? _ _ ht0
  have hg2 : ((w.alloc (.cells #[.pointer (some t)] 100)).alloc (.cells #[.pointer (some ⟨5, 100, none⟩), .pointer (some ⟨w.heap.size, 0, none⟩), .int .u64 150] 145)).cell? ⟨0, 0, none⟩ = some (.iface 195 (.agg #[.pointer (some ⟨5, 40, none⟩)])) := by
    rw [World.cell?_alloc_lt _ _ ⟨0, 0, none⟩ (by simp <;> omega), World.cell?_alloc_lt _ _ ⟨0, 0, none⟩ hlt]; exact hg
  have hc := hx ((w.alloc (.cells #[.pointer (some t)] 100)).alloc (.cells #[.pointer (some ⟨5, 100, none⟩), .pointer (some ⟨w.heap.size, 0, none⟩), .int .u64 150] 145)) t ⟨w.heap.size, 0, none⟩ old
    (((Below.refl _ _).alloc (Nat.le_refl _) _).alloc (by simp) _) (by rw [World.cell?_alloc_lt _ _ ⟨w.heap.size, 0, none⟩ (by simp)]; simp)
    (by rw [World.cell?_alloc_lt _ _ t (by simp; omega), World.cell?_alloc_lt _ _ t htl]; exact ht0)
    (by rw [World.frozen?_alloc_old _ _ t (by simp; omega), World.frozen?_alloc_old _ _ t (Nat.ne_of_lt htl)]; exact hf0)
  have HC := Lib.hid hc
  clear hc hx
  go_enter Tryz.func27, Tryz.ntmps27
  go_wp2_with (go_at_call 44; refine HC.out.mono ?_; rintro e w' ⟨rfl, W1, hb, rfl⟩)
  go_ret
  exact ⟨rfl, W1, (((Below.refl _ _).alloc (Nat.le_refl _) _).alloc (by simp) _).trans (hb.mono (by simp; omega)), rfl⟩

theorem asHit_errno (n : Int) (w : World) : AsHit (.iface 45 (.int .i64 n)) n w := fun w' t a old _ ha ht hf => as_errno n t a old w' ha ht hf
set_option maxHeartbeats 4000000 in
theorem tell_hit (u : TypeId) (v : Value) (n : Int) (w : World) (hx : AsHit (.iface u v) n w) (hg : ErrVar w) :
    Calls Tryz.prog 12 #[.iface u v] w fun e w' => e = .returned (.int .i64 n) ∧ Bel w w' := by
  have hlt := hg.lt
  have hc := As_hit u v n ⟨w.heap.size, 0, none⟩ (.int .i64 0) (w.alloc (.cells #[.int .i64 0] 45)) (fun w' t a old hb => hx w' t a old (((Below.refl _ _).alloc (Nat.le_refl _) _).trans (hb.mono (by simp))))
    (hg.below hlt ((Below.refl _ _).alloc (Nat.le_refl _) _)) (by simp) (by simp)
  have HC := Lib.hid hc
  clear hc hx
  go_enter Tryz.func12, Tryz.ntmps12
  go_wp2_with fail
  refine HC.out.mono ?_
  rintro e w' ⟨rfl, W1, hb, rfl⟩
  have hs : (W1.setCell ⟨w.heap.size, 0, none⟩ (.int .i64 n)).cell? ⟨w.heap.size, 0, none⟩ = some (.int .i64 n) := World.cell?_setCell_same W1 _ _ ((hb.cell (p := ⟨w.heap.size, 0, none⟩) (by simp)).trans (by simp; rfl))
  go_wp2
  go_ret
  exact ⟨rfl, (((Below.refl _ _).alloc (Nat.le_refl _) _).trans (hb.mono (by simp))).setCell (Nat.le_refl _) _⟩
end Go.Proofs.YtkcjafnaephjiaaGreatDoor

/- The program's tree of files, in memory. -/
namespace Go.Proofs.YtkcjafnaephjiaaGreatDoor
open Go.RowKit Go.MapKept Go.Maps
set_option maxRecDepth 100000

def strEnc {P : Program} {k : TypeId} (hk : P.underlying k = some .string) : KeyEnc P k ByteArray :=
  ⟨.string, fun a => .string a.data.toList, fun a => a.size ≤ maxLen, fun _ h => WideMaps.keyOf_string_mk hk h, fun a b h => by injection h⟩
noncomputable def keyS : KeyEnc Tryz.prog 9 ByteArray := strEnc Tryz.underlying9
theorem keyedS : Keyed Tryz.prog 9 := string_keyed Tryz.underlying9

/-- A slice of bytes at a block's head. -/
def Rw (w : World) (v : Value) (L : List Int) : Prop := (∀ x ∈ L, 0 ≤ x ∧ x ≤ 255) ∧
  (v = .slice none 0 0 ∧ L = [] ∨ ∃ g cap cur, v = .slice (some ⟨g, 0, none⟩) L.length cap ∧ Blk w g cur 5 ∧ L.length ≤ cap ∧ cap ≤ cur.length ∧ cap ≤ maxLen ∧ cur.take L.length = L.map (Value.int .u8))
theorem Rw.keep {S : Nat → Prop} {w w' : World} {v : Value} {L : List Int} (h : Rw w v L) (k : Keep S w w') (hs : ∀ g, v.ownBlock = some g → ¬ S g) : Rw w' v L := by
  refine ⟨h.1, ?_⟩
  rcases h.2 with h2 | ⟨g, cap, cur, rfl, hb, h3⟩
  · exact .inl h2
  · exact .inr ⟨g, cap, cur, rfl, hb.keep k (hs g rfl), h3⟩
theorem Rw.bel {w w' : World} {v : Value} {L : List Int} (h : Rw w v L) (k : Bel w w') : Rw w' v L := h.keep (Keep.of_bel (fun _ => False) k) (fun _ _ h => h)
theorem Rw.lt {w : World} {v : Value} {L : List Int} (h : Rw w v L) {g : Nat} (hg : v.ownBlock = some g) : g < w.heap.size ∧ ∃ cur, Blk w g cur 5 := by
  rcases h.2 with ⟨rfl, _⟩ | ⟨g', cap, cur, rfl, hb, _⟩
  · cases hg
  · cases hg; exact ⟨hb.lt, cur, hb⟩
theorem Rw.slice {w : World} {v : Value} {L : List Int} (h : Rw w v L) : ∃ p cap, v = .slice p L.length cap ∧ L.length ≤ cap ∧ cap ≤ maxLen ∧ (p = none → L = [] ∧ cap = 0) := by
  rcases h.2 with ⟨rfl, rfl⟩ | ⟨g, cap, cur, rfl, hb, h1, _, h2, _⟩
  · exact ⟨none, 0, rfl, Nat.le_refl _, Nat.zero_le _, fun _ => ⟨rfl, rfl⟩⟩
  · exact ⟨_, cap, rfl, h1, h2, fun e => by cases e⟩
theorem Rw.cells {w : World} {v : Value} {L : List Int} (h : Rw w v L) {a : Addr} {n cap : Nat} (hv : v = .slice (some a) n cap) : ∃ g, a = ⟨g, 0, none⟩ ∧ ∀ j u, (L.map (Value.int .u8))[j]? = some u → w.cell? ⟨g, j, none⟩ = some u := by
  rcases h.2 with ⟨rfl, _⟩ | ⟨g, cap', cur, rfl, hb, h1, h2, _, h3⟩
  · cases hv
  · cases hv
    refine ⟨g, rfl, fun j u hj => ?_⟩
    rw [hb.cell, ← hj, ← h3, List.getElem?_take]
    have := (List.getElem?_eq_some_iff.1 hj).1
    rw [if_pos (by simpa using this)]
theorem Blk.ne {w : World} {a b : Nat} {c d : List Value} {t u : TypeId} (h : Blk w a c t) (k : Blk w b d u) (hn : t ≠ u) : a ≠ b := by
  rintro rfl
  unfold Blk at h k
  rw [h] at k
  injection k with k
  injection k with _ k
  exact hn k
theorem Blk.ne_map {P : Program} {k : TypeId} {α : Type} {E : KeyEnc P k α} {w : World} {a b : Nat} {c : List Value} {t : TypeId} {kv : List (α × Value)} (h : Blk w a c t) (m : Mp E w b kv) : a ≠ b := by
  rintro rfl
  obtain ⟨es, clock, hb, _⟩ := m
  unfold Blk at h
  rw [h] at hb
  injection hb with hb
  cases hb

/-- An inode of the program; its number is its place and one. -/
structure Pn where
  par : Nat
  name : ByteArray
  dir : Bool
  byt : List Int
  bv : Value
  obj : Int
  gone : Bool
/-- Where the inodes lie, by their numbers, and the directories' maps. -/
structure Adr where
  nb : Nat → Nat
  mb : Nat → Nat
def Adr.at_ (A : Adr) (n : Nat) : Option Addr := if n = 0 then none else some ⟨A.nb n, 0, none⟩
def Adr.ptr (A : Adr) (n : Nat) : Value := .pointer (A.at_ n)
def Pn.map (A : Adr) (i : Nat) (n : Pn) : Option Nat := if n.dir then some (A.mb i) else none
def Pn.cells (A : Adr) (i : Nat) (n : Pn) : List Value := [.string n.name, A.ptr n.par, .map (n.map A i), n.bv, .int .i64 n.obj, .bool n.gone]
/-- As the document has it. -/
def Pn.nd (n : Pn) : Nd := ⟨if n.gone then 0 else n.par, n.name, n.dir, n.byt, emptyB⟩
def nds (T : List Pn) : List Nd := T.map Pn.nd
def kidsF (A : Adr) (d : Nat) : Nat → List Pn → List (ByteArray × Value)
  | _, [] => []
  | i, n :: T => if n.nd.par = d then (n.name, A.ptr (i + 1)) :: kidsF A d (i + 1) T else kidsF A d (i + 1) T
def kids (A : Adr) (d : Nat) (T : List Pn) : List (ByteArray × Value) := kidsF A d 0 T

theorem getKv_cons {α : Type} [DecidableEq α] (p : α × Value) (l : List (α × Value)) (a : α) : getKv (p :: l) a = if p.1 = a then some p.2 else getKv l a := by
  unfold getKv
  rw [List.find?_cons]
  by_cases h : p.1 = a <;> simp [h]
theorem childF_ne (d : Nat) (s : ByteArray) : ∀ (i : Nat) (L : List Nd), childF d s i L ≠ 0 → i < childF d s i L
  | _, [], h => absurd rfl h
  | i, n :: L, h => by
    unfold childF at h ⊢
    split
    · omega
    · rename_i hn
      rw [if_neg hn] at h
      have := childF_ne d s (i + 1) L h
      omega
theorem kidsF_get (A : Adr) (d : Nat) (s : ByteArray) : ∀ (i : Nat) (T : List Pn), getKv (kidsF A d i T) s = if childF d s i (nds T) = 0 then none else some (A.ptr (childF d s i (nds T)))
  | _, [] => by simp [kidsF, getKv, nds, childF]
  | i, n :: T => by
    have ih := kidsF_get A d s (i + 1) T
    unfold kidsF
    simp only [nds, List.map_cons, childF]
    by_cases hp : n.nd.par = d
    · rw [if_pos hp, getKv_cons]
      by_cases hn : n.name = s
      · have hc : n.nd.par = d ∧ n.nd.name = s := ⟨hp, hn⟩
        rw [if_pos hn, if_pos hc, if_neg (by omega)]
      · have hc : ¬ (n.nd.par = d ∧ n.nd.name = s) := fun h => hn h.2
        rw [if_neg hn, if_neg hc]
        exact ih
    · have hc : ¬ (n.nd.par = d ∧ n.nd.name = s) := fun h => hp h.1
      rw [if_neg hp, if_neg hc]
      exact ih
theorem kids_get (A : Adr) (d : Nat) (T : List Pn) (s : ByteArray) : (getKv (kids A d T) s).getD (.pointer none) = A.ptr (child (nds T) d s) := by
  unfold kids child
  rw [kidsF_get]
  by_cases h : childF d s 0 (nds T) = 0
  · rw [if_pos h, h]; rfl
  · rw [if_neg h]; rfl

/-- The tree T lies in w at A. -/
structure PTree (w : World) (A : Adr) (T : List Pn) : Prop where
  node : ∀ (i : Nat) (n : Pn), T[i]? = some n → Blk w (A.nb (i + 1)) (n.cells A (i + 1)) 173
  kids : ∀ (i : Nat) (n : Pn), T[i]? = some n → n.dir = true → Mp keyS w (A.mb (i + 1)) (kids A (i + 1) T)
  byts : ∀ (i : Nat) (n : Pn), T[i]? = some n → Rw w n.bv n.byt
  inj : ∀ (i j : Nat), i < T.length → j < T.length → A.nb (i + 1) = A.nb (j + 1) → i = j
  minj : ∀ (i j : Nat) (m n : Pn), T[i]? = some m → T[j]? = some n → m.dir = true → n.dir = true → A.mb (i + 1) = A.mb (j + 1) → i = j
  sep : ∀ (i j : Nat) (m n : Pn) (g : Nat), T[i]? = some m → T[j]? = some n → m.bv.ownBlock = some g → n.bv.ownBlock = some g → i = j
  par : ∀ (i : Nat) (n : Pn), T[i]? = some n → n.par ≤ i
  pdir : ∀ (i : Nat) (n : Pn), T[i]? = some n → n.par ≠ 0 → ∃ p : Pn, T[n.par - 1]? = some p ∧ p.dir = true
  root : ∃ r : Pn, T[0]? = some r ∧ r.par = 0 ∧ r.dir = true ∧ r.gone = false
  top : ∀ (i : Nat) (n : Pn), T[i]? = some n → n.par = 0 → i ≠ 0 → n.gone = true
  name : ∀ (i : Nat) (n : Pn), T[i]? = some n → n.gone = false → i ≠ 0 → nameOk n.name.data.toList = true ∧ (47 : UInt8) ∉ n.name.data.toList
  few : T.length ≤ 100000
/-- The blocks of a tree. -/
def TFoot (A : Adr) (T : List Pn) (q : Nat) : Prop := ∃ (i : Nat) (n : Pn), T[i]? = some n ∧ (q = A.nb (i + 1) ∨ n.dir = true ∧ q = A.mb (i + 1) ∨ n.bv.ownBlock = some q)
theorem PTree.foot_lt {w : World} {A : Adr} {T : List Pn} (h : PTree w A T) {q : Nat} (hq : TFoot A T q) : q < w.heap.size := by
  obtain ⟨i, n, hi, rfl | ⟨hd, rfl⟩ | hb⟩ := hq
  · exact (h.node i n hi).lt
  · exact (h.kids i n hi hd).lt
  · exact ((h.byts i n hi).lt hb).1
theorem PTree.keep {S : Nat → Prop} {w w' : World} {A : Adr} {T : List Pn} (h : PTree w A T) (k : Keep S w w') (hs : ∀ q, TFoot A T q → ¬ S q) : PTree w' A T where
  node i n hi := (h.node i n hi).keep k (hs _ ⟨i, n, hi, .inl rfl⟩)
  kids i n hi hd := (h.kids i n hi hd).of_block (k.block _ (h.kids i n hi hd).lt (hs _ ⟨i, n, hi, .inr (.inl ⟨hd, rfl⟩)⟩))
  byts i n hi := (h.byts i n hi).keep k fun g hg => hs _ ⟨i, n, hi, .inr (.inr hg)⟩
  inj := h.inj
  minj := h.minj
  sep := h.sep
  par := h.par
  pdir := h.pdir
  root := h.root
  top := h.top
  name := h.name
  few := h.few
theorem PTree.bel {w w' : World} {A : Adr} {T : List Pn} (h : PTree w A T) (k : Bel w w') : PTree w' A T := h.keep (Keep.of_bel (fun _ => False) k) (fun _ _ h => h)
theorem nds_len (T : List Pn) : (nds T).length = T.length := by simp [nds]
theorem isDir_nds (T : List Pn) (n : Nat) : isDir (nds T) n = (T[n - 1]?.map Pn.dir).getD false := by
  unfold isDir nds
  rw [List.getElem?_map]
  cases T[n - 1]? <;> rfl
end Go.Proofs.YtkcjafnaephjiaaGreatDoor
