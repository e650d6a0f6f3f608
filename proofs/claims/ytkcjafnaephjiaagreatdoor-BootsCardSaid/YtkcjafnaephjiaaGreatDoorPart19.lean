/- Comparing two arrays of integers: as their lists. No program. -/
import Derived.ChangeKeysEq
import Derived.Laws.StructEq
import Derived.Test.YtkcjafnaephjiaaGreatDoorPart18
set_option linter.unusedVariables false
set_option linter.unusedSimpArgs false
namespace Go.Proofs.YtkcjafnaephjiaaGreatDoor

section
variable {P : Program} {t e : TypeId} {k : IntKind} {n : Nat}

theorem plainKey_int (he : P.underlying e = some (.int k)) : P.plainKey e = true := by simp [Program.plainKey, he]

theorem eqItems_ints (he : P.underlying e = some (.int k)) (d : Nat) (xs ys : List Int) (w : World) : ∀ is : List Nat, (∀ i ∈ is, i < xs.length ∧ i < ys.length) →
    (Op.eqItems (d + 1) e 1 (xs.map (Value.int k)).toArray (ys.map (Value.int k)).toArray is).run P w = .ok (is.all fun i => xs[i]? == ys[i]?) w
  | [], _ => by simp [Op.eqItems]
  | i :: is, h => by
    obtain ⟨h1, h2⟩ := h i (by simp)
    have ih := eqItems_ints he d xs ys w is (fun j hj => h j (by simp [hj]))
    have p1 := run_part_plain w (plainKey_int he) (xs := (xs.map (Value.int k)).toArray) (off := i) (v := .int k xs[i]) (by simp [h1])
    have p2 := run_part_plain w (plainKey_int he) (xs := (ys.map (Value.int k)).toArray) (off := i) (v := .int k ys[i]) (by simp [h2])
    simp only [Op.eqItems, Nat.mul_one, Sem.run_bind, p1, p2, Result.andThen_ok, run_equalIn_int w d e k k xs[i] ys[i] he]
    by_cases hx : xs[i] = ys[i]
    · simp [hx, ih, List.getElem?_eq_getElem h1, List.getElem?_eq_getElem h2]
    · have hb : (xs[i] == ys[i]) = false := by simpa using hx
      simp [hb, List.getElem?_eq_getElem h1, List.getElem?_eq_getElem h2]

theorem all_range_iff (xs ys : List Int) (hx : xs.length = n) (hy : ys.length = n) : ((List.range n).all fun i => xs[i]? == ys[i]?) = decide (xs = ys) := by
  rw [Bool.eq_iff_iff]
  simp only [List.all_eq_true, List.mem_range, beq_iff_eq, decide_eq_true_eq]
  constructor
  · intro h
    apply List.ext_getElem? 
    intro i
    by_cases hi : i < n
    · exact h i hi
    · rw [List.getElem?_eq_none (by omega), List.getElem?_eq_none (by omega)]
  · rintro rfl i _
    rfl

theorem run_equal_arr {i : TypeInfo} (ht : P.underlying t = some (.array n e)) (he : P.underlying e = some (.int k)) (hi : P.info? e = some i) (hc : P.cellsOf e = 1) (xs ys : List Int) (hx : xs.length = n) (hy : ys.length = n) (d : Nat) (w : World) :
    (Op.equalIn (d + 2) t (.agg (xs.map (Value.int k)).toArray) (.agg (ys.map (Value.int k)).toArray)).run P w = .ok (decide (xs = ys)) w := by
  rw [run_equalIn_array w (d + 1) _ _ ht hi, hc, eqItems_ints he d xs ys w _ (fun i hi => by simp at hi; omega), all_range_iff xs ys hx hy]

theorem run_eql_arr {i : TypeInfo} (ht : P.underlying t = some (.array n e)) (he : P.underlying e = some (.int k)) (hi : P.info? e = some i) (hc : P.cellsOf e = 1) (xs ys : List Int) (hx : xs.length = n) (hy : ys.length = n) (w : World) :
    (binOp .eql t (.agg (xs.map (Value.int k)).toArray) (.agg (ys.map (Value.int k)).toArray)).run P w = .ok (.bool (decide (xs = ys))) w := by
  rw [run_eql_struct w, run_equal_arr ht he hi hc xs ys hx hy 9998 w]; rfl
theorem run_neq_arr {i : TypeInfo} (ht : P.underlying t = some (.array n e)) (he : P.underlying e = some (.int k)) (hi : P.info? e = some i) (hc : P.cellsOf e = 1) (xs ys : List Int) (hx : xs.length = n) (hy : ys.length = n) (w : World) :
    (binOp .neq t (.agg (xs.map (Value.int k)).toArray) (.agg (ys.map (Value.int k)).toArray)).run P w = .ok (.bool (!decide (xs = ys))) w := by
  rw [run_neq_struct w, run_equal_arr ht he hi hc xs ys hx hy 9998 w]; rfl
end
end Go.Proofs.YtkcjafnaephjiaaGreatDoor

/- samePages: rows of pages, the program's and the document's. -/
namespace Go.Proofs.YtkcjafnaephjiaaGreatDoor
open Go.RowKit Go.Maps
set_option maxRecDepth 100000

def refCells (n : Nat) (p : Pg) : List Value := .int .i64 n :: .int .i64 p.perm :: p.bytes.map (Value.int .u8)

theorem flat_at {α β : Type} (f : α → List β) (s : Nat) : ∀ (L : List α), (∀ x ∈ L, (f x).length = s) → ∀ k j, j < s → (L.flatMap f)[k * s + j]? = L[k]?.bind (fun x => (f x)[j]?)
  | [], _, k, j, _ => by simp
  | x :: L, h, k, j, hj => by
    have hx := h x List.mem_cons_self
    cases k with
    | zero =>
      rw [List.flatMap_cons, Nat.zero_mul, Nat.zero_add, List.getElem?_append_left (by omega)]
      rfl
    | succ k =>
      rw [List.flatMap_cons, List.getElem?_append_right (by rw [hx, Nat.succ_mul]; omega), hx, show (k + 1) * s + j - s = k * s + j from by rw [Nat.succ_mul]; omega, flat_at f s L (fun y hy => h y (List.mem_cons_of_mem _ hy)) k j hj]
      rfl
theorem flat_length {α β : Type} (f : α → List β) (s : Nat) : ∀ (L : List α), (∀ x ∈ L, (f x).length = s) → (L.flatMap f).length = L.length * s
  | [], _ => by simp
  | x :: L, h => by
    rw [List.flatMap_cons, List.length_append, h x List.mem_cons_self, flat_length f s L fun y hy => h y (List.mem_cons_of_mem _ hy), List.length_cons, Nat.succ_mul]
    omega

theorem quiet_load_mid {P : Program} {C : World → Prop} {a : Act} {o : Oper} {K : Act → Prop} (ty : TypeId) (x : Operand) (ho : o.op = .load ty x) (b off : Nat) (hx : a.eval x = .pointer (some ⟨b, off, none⟩)) (cs : List Value) (d : TypeDesc) (hc : ∀ w, C w → w.rangeAt b off cs)
    (hu : P.underlying ty = some d) (hd : d.isRow = true) (hi : (P.info? ty).map (·.size) = some cs.length) (hk : K (a.put o.dst (.agg cs.toArray))) : o.quiet P a C K :=
  ⟨_, fun w hw => by
    unfold Oper.quietAt
    simp only [execOp, ho, hx, run_loadAt_mid w b off ty cs d (hc w hw) hu hd hi, Sem.run_bind, Result.andThen_ok, Sem.run_pure]
    exact ⟨rfl, rfl⟩, hk⟩
theorem quiet_neq_arr {P : Program} {C : World → Prop} {a : Act} {o : Oper} {K : Act → Prop} (ty rt : TypeId) (x y : Operand) (ho : o.op = .binOp .neq ty x y rt) (xs ys : Array Value) (r : Bool) (hx : a.eval x = .agg xs) (hy : a.eval y = .agg ys) (hm : P.eqGuardType P.depth ty = false) (hr : ∀ w, (binOp .neq ty (.agg xs) (.agg ys)).run P w = .ok (.bool r) w) (hk : K (a.put o.dst (.bool r))) : o.quiet P a C K :=
  ⟨_, fun w _ => by
    unfold Oper.quietAt
    simp only [execOp, ho, hx, hy, run_eqGuard_agg w .neq ty x y xs ys hm, hr w, Sem.run_bind, Result.andThen_ok, Sem.run_pure]
    exact ⟨rfl, rfl⟩, hk⟩

/-- A slice of n elements whose cells read as xs. -/
def Rd (w : World) (v : Value) (n : Nat) (xs : List Value) : Prop :=
  ∃ p cap, v = .slice p n cap ∧ (0 < n → ∃ g, p = some ⟨g, 0, none⟩ ∧ g < w.heap.size ∧ ∀ j, j < xs.length → w.cell? ⟨g, j, none⟩ = xs[j]?)
theorem Rd.of_row {w : World} {base : Nat} {e : TypeId} {size : Nat} {v : Value} {n : Nat} {xs : List Value} (h : w.ownsRow base e size v n xs) : Rd w v n xs := by
  obtain ⟨p, cap, rfl, _, _, h | ⟨g, rfl, _, h2, h3, _⟩⟩ := row_slice h
  · exact ⟨p, cap, rfl, fun h0 => by omega⟩
  · exact ⟨_, cap, rfl, fun _ => ⟨g, rfl, h2, h3⟩⟩
theorem Rd.bel {w w' : World} {v : Value} {n : Nat} {xs : List Value} (h : Rd w v n xs) (hb : Bel w w') : Rd w' v n xs := by
  obtain ⟨p, cap, rfl, h⟩ := h
  refine ⟨p, cap, rfl, fun h0 => ?_⟩
  obtain ⟨g, rfl, h2, h3⟩ := h h0
  exact ⟨g, rfl, Nat.lt_of_lt_of_le h2 hb.size, fun j hj => (World.cell?_of_block (a := ⟨g, j, none⟩) (hb.block g h2)).trans (h3 j hj)⟩

set_option maxHeartbeats 8000000 in
theorem same_any (va vb : Value) (L : List (Nat × Pg)) (w : World) (hl : L.length ≤ 256) (hwf : ∀ q ∈ L, q.2.wf) (ha : Rd w va L.length (L.flatMap fun q => apiCells q.1 q.2)) (hb : Rd w vb L.length (L.flatMap fun q => refCells q.1 q.2)) :
    Calls Tryz.prog 32 #[va, vb] w fun e w' => e = .returned (.bool true) ∧ ∃ n, w' = w.drewN n := by
  obtain ⟨pa, capa, rfl, ha⟩ := ha
  obtain ⟨pb, capb, rfl, hb⟩ := hb
  have HA := Lib.hid ha
  have HB := Lib.hid hb
  have HW := Lib.hid hwf
  clear ha hb hwf
  go_enter Tryz.func32, Tryz.ntmps32
  go_wp2
  go_loopw [5] (fun i wr => ∃ k nn : Nat, k ≤ L.length ∧ i = .int .i64 k ∧ wr = w.drewN nn) (fun i _ => L.length - (intOf i).toNat)
  case atStart => exact ⟨0, 0, Nat.zero_le _, rfl, rfl⟩
  case round =>
    obtain ⟨k, nn, hk, rfl, rfl⟩ := hrel
    by_cases hlt : k < L.length
    · obtain ⟨ga, rfl, hga, hca⟩ := HA.out (by omega)
      obtain ⟨gb, rfl, hgb, hcb⟩ := HB.out (by omega)
      have hq := HW.out L[k] (List.getElem_mem hlt)
      have la : ∀ q ∈ L, (apiCells q.1 q.2).length = 258 := fun q hq => apiCells_length _ _ (HW.out q hq).len
      have lb : ∀ q ∈ L, (refCells q.1 q.2).length = 258 := fun q hq => by simp [refCells, (HW.out q hq).len]
      have ca : ∀ j, j < 258 → w.cell? ⟨ga, k * 258 + j, none⟩ = (apiCells L[k].1 L[k].2)[j]? := fun j hj => by
        rw [hca _ (by rw [flat_length _ 258 L la]; omega), flat_at _ 258 L la k j hj, List.getElem?_eq_getElem hlt]; rfl
      have cb : ∀ j, j < 258 → w.cell? ⟨gb, k * 258 + j, none⟩ = (refCells L[k].1 L[k].2)[j]? := fun j hj => by
        rw [hcb _ (by rw [flat_length _ 258 L lb]; omega), flat_at _ 258 L lb k j hj, List.getElem?_eq_getElem hlt]; rfl
      obtain ⟨n, p, hnp⟩ : ∃ n p, L[k] = (n, p) := ⟨_, _, rfl⟩
      rw [hnp] at ca cb hq
      have a0 : w.cell? ⟨ga, k * 258, none⟩ = some (.int .i64 n) := ca 0 (by omega)
      have a1 : w.cell? ⟨ga, k * 258 + 1, none⟩ = some (.int .u8 p.perm) := ca 1 (by omega)
      have b0 : w.cell? ⟨gb, k * 258, none⟩ = some (.int .i64 n) := cb 0 (by omega)
      have b1 : w.cell? ⟨gb, k * 258 + 1, none⟩ = some (.int .i64 p.perm) := cb 1 (by omega)
      have a2 : w.rangeAt ga (k * 258 + 2) (p.bytes.map (Value.int .u8)) := fun j v hv => by
        have hj : j < 256 := by have := (List.getElem?_eq_some_iff.1 hv).1; simpa [hq.len] using this
        rw [Nat.add_assoc, ca (2 + j) (by omega), ← hv, Nat.add_comm 2 j]; rfl
      have b2 : w.rangeAt gb (k * 258 + 2) (p.bytes.map (Value.int .u8)) := fun j v hv => by
        have hj : j < 256 := by have := (List.getElem?_eq_some_iff.1 hv).1; simpa [hq.len] using this
        rw [Nat.add_assoc, cb (2 + j) (by omega), ← hv, Nat.add_comm 2 j]; rfl
      have A2 : Hid (∀ w', (∃ n, w' = (w.drewN nn).drewN n) → w'.rangeAt ga (k * 258 + 2) (p.bytes.map (Value.int .u8))) := Lib.hid (by rintro w' ⟨n, rfl⟩; exact a2)
      have B2 : Hid (∀ w', (∃ n, w' = (w.drewN nn).drewN n) → w'.rangeAt gb (k * 258 + 2) (p.bytes.map (Value.int .u8))) := Lib.hid (by rintro w' ⟨n, rfl⟩; exact b2)
      have HL : Hid ((Tryz.prog.info? 85).map (·.size) = some (p.bytes.map (Value.int .u8)).length) := Lib.hid (by rw [List.length_map, hq.len]; kernel_rfl)
      have hp0 := hq.perm.1
      have hp1 := hq.perm.2
      obtain ⟨ie, hie⟩ := Option.isSome_iff_exists.1 (show (Tryz.prog.info? 5).isSome = true by kernel_rfl)
      have hne : ∀ w, (binOp .neq 85 (.agg (p.bytes.map (Value.int .u8)).toArray) (.agg (p.bytes.map (Value.int .u8)).toArray)).run Tryz.prog w = .ok (.bool false) w := fun w => by
        rw [run_neq_arr Tryz.underlying85 Tryz.underlying5 hie (by kernel_rfl) p.bytes p.bytes hq.len hq.len w]; simp
      have HNE := Lib.hid hne
      clear ca cb a2 b2 hca hcb la lb HA HB hie hne
      go_wp2
      refine wp_region_quiet_lit (by kernel_rfl) (by kernel_rfl) ?_
      repeat (first
        | go_big_quiet_skip
        | (go_big_quiet_want; first
            | (refine quiet_load_mid 85 (.tmp 46) rfl ga (k * 258 + 2) rfl _ _ A2.out Tryz.underlying85 rfl HL.out ?_; simp only [Act.put, List.setIfInBounds_toArray, List.set_cons_succ, List.set_cons_zero]; go_big_quiet_on)
            | (refine quiet_load_mid 85 (.tmp 51) rfl gb (k * 258 + 2) rfl _ _ B2.out Tryz.underlying85 rfl HL.out ?_; simp only [Act.put, List.setIfInBounds_toArray, List.set_cons_succ, List.set_cons_zero]; go_big_quiet_on)
            | (refine quiet_neq_arr 85 _ (.tmp 47) (.tmp 52) rfl _ _ false rfl rfl (by kernel_rfl) HNE.out ?_; simp only [Act.put, List.setIfInBounds_toArray, List.set_cons_succ, List.set_cons_zero]; go_big_quiet_on)
            | (go_big_quiet_op; go_big_quiet_on)))
      refine wpQuiet_nil ?_
      rintro _ ⟨nq, rfl⟩
      go_wp2
      go_roundw
      case rel => exact ⟨k + 1, nn + nq, by omega, by go_num, by simp [World.drewN_drewN]⟩
      case measure => simp [intOf] <;> omega
    · obtain rfl : k = L.length := by omega
      go_wp2
      go_ret
      exact ⟨rfl, nn, rfl⟩
end Go.Proofs.YtkcjafnaephjiaaGreatDoor
