/- Comparing two arrays of integers: as their lists. No program. -/
import Derived.ChangeKeysEq
import Derived.Laws.StructEq
namespace Go.Proofs.YtologfdegdljeaaDoor

section
variable {P : Program} {t e : TypeId} {k : IntKind} {n : Nat}

theorem plainKey_int (he : P.underlying e = some (.int k)) : P.plainKey e = true := by simp [Program.plainKey, he]

theorem eqItems_ints (he : P.underlying e = some (.int k)) (d : Nat) (xs ys : List Int) (w : World) : ∀ is : List Nat, (∀ i ∈ is, i < xs.length ∧ i < ys.length) →
    (Op.eqItems (d + 1) e 1 (xs.map (Value.int k)).toArray (ys.map (Value.int k)).toArray is).run P w = .ok (is.all fun i => xs[i]? == ys[i]?) w
  | [], _ => by simp [Op.eqItems]
  | i :: is, h => by
    obtain ⟨h1, h2⟩ := h i (by simp)
    have ih := eqItems_ints he d xs ys w is (fun j hj => h j (by simp [hj]))
    have p1 := run_part_plain w (plainKey_int he) (xs := (xs.map (Value.int k)).toArray) (off := i) (v := .int k xs[i]) (by simp [h1])
    have p2 := run_part_plain w (plainKey_int he) (xs := (ys.map (Value.int k)).toArray) (off := i) (v := .int k ys[i]) (by simp [h2])
    simp only [Op.eqItems, Nat.mul_one, Sem.run_bind, p1, p2, Result.andThen_ok, run_equalIn_int w d e k k xs[i] ys[i] he]
    by_cases hx : xs[i] = ys[i]
    · simp [hx, ih, List.getElem?_eq_getElem h1, List.getElem?_eq_getElem h2]
    · have hb : (xs[i] == ys[i]) = false := by simpa using hx
      simp [hb, List.getElem?_eq_getElem h1, List.getElem?_eq_getElem h2]

theorem all_range_iff (xs ys : List Int) (hx : xs.length = n) (hy : ys.length = n) : ((List.range n).all fun i => xs[i]? == ys[i]?) = decide (xs = ys) := by
  rw [Bool.eq_iff_iff]
  simp only [List.all_eq_true, List.mem_range, beq_iff_eq, decide_eq_true_eq]
  constructor
  · intro h
    apply List.ext_getElem? 
    intro i
    by_cases hi : i < n
    · exact h i hi
    · rw [List.getElem?_eq_none (by omega), List.getElem?_eq_none (by omega)]
  · rintro rfl i _
    rfl

theorem run_equal_arr {i : TypeInfo} (ht : P.underlying t = some (.array n e)) (he : P.underlying e = some (.int k)) (hi : P.info? e = some i) (hc : P.cellsOf e = 1) (xs ys : List Int) (hx : xs.length = n) (hy : ys.length = n) (d : Nat) (w : World) :
    (Op.equalIn (d + 2) t (.agg (xs.map (Value.int k)).toArray) (.agg (ys.map (Value.int k)).toArray)).run P w = .ok (decide (xs = ys)) w := by
  rw [run_equalIn_array w (d + 1) _ _ ht hi, hc, eqItems_ints he d xs ys w _ (fun i hi => by simp at hi; omega), all_range_iff xs ys hx hy]

theorem run_eql_arr {i : TypeInfo} (ht : P.underlying t = some (.array n e)) (he : P.underlying e = some (.int k)) (hi : P.info? e = some i) (hc : P.cellsOf e = 1) (xs ys : List Int) (hx : xs.length = n) (hy : ys.length = n) (w : World) :
    (binOp .eql t (.agg (xs.map (Value.int k)).toArray) (.agg (ys.map (Value.int k)).toArray)).run P w = .ok (.bool (decide (xs = ys))) w := by
  rw [run_eql_struct w, run_equal_arr ht he hi hc xs ys hx hy 9998 w]; rfl
theorem run_neq_arr {i : TypeInfo} (ht : P.underlying t = some (.array n e)) (he : P.underlying e = some (.int k)) (hi : P.info? e = some i) (hc : P.cellsOf e = 1) (xs ys : List Int) (hx : xs.length = n) (hy : ys.length = n) (w : World) :
    (binOp .neq t (.agg (xs.map (Value.int k)).toArray) (.agg (ys.map (Value.int k)).toArray)).run P w = .ok (.bool (!decide (xs = ys))) w := by
  rw [run_neq_struct w, run_equal_arr ht he hi hc xs ys hx hy 9998 w]; rfl
end
end Go.Proofs.YtologfdegdljeaaDoor
