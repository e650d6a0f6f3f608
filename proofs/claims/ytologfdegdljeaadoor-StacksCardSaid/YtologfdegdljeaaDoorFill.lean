/- Struct and slice literals, fields: what 'fill' yields where the parts lie side by side. No program. -/
import Derived.Laws.Tables
import Derived.Great.BuildSlice
import Derived.Laws.OwnMore
import Derived.Below
import Derived.Lib.Hide
namespace Go.Proofs.YtologfdegdljeaaDoor

theorem fill_next (place : Nat → Option (Nat × Nat)) (pre mid post : List Value) (i : Nat) (v : Value) (rest : List (Nat × Value)) (hp : place i = some (pre.length, v.cells.size)) (hm : mid.length = v.cells.size) :
    Instr.fill place (pre ++ (mid ++ post)).toArray ((i, v) :: rest) = Instr.fill place (pre ++ (v.cells.toList ++ post)).toArray rest := by
  rw [Instr.fill, hp]
  simp only
  rw [if_neg (by simp; omega)]
  congr 1
  rw [← Array.foldl_toList, Array.toList_zipIdx]
  obtain ⟨h1, h2⟩ := Great.foldl_set pre.length v.cells.toList 0 (pre ++ (mid ++ post)).toArray
  apply Array.ext_getElem?
  intro k
  have := h2 k
  rw [this]
  simp only [Nat.add_zero, Array.length_toList, List.size_toArray, List.length_append, List.getElem?_toArray]
  by_cases hk : pre.length ≤ k
  · rw [List.getElem?_append_right hk, List.getElem?_append_right hk]
    by_cases hk2 : k - pre.length < v.cells.size
    · rw [if_pos (by omega), List.getElem?_append_left (by simpa using hk2)]
    · rw [if_neg (by omega), List.getElem?_append_right (by omega), List.getElem?_append_right (by simp; omega)]
      simp [hm]
  · rw [if_neg (by omega), List.getElem?_append_left (by omega), List.getElem?_append_left (by omega)]

/-- A struct literal, field by field: the places. -/
theorem fill_end (place : Nat → Option (Nat × Nat)) (cs : Array Value) : Instr.fill place cs [] = some cs := rfl

/-- A type's row: its size in cells, its size in bytes, the number of its zero value's cells. -/
theorem info_of {P : Program} {t : TypeId} {n b : Nat} (h : (P.info? t).map (fun i => (i.size, i.bytes, (i.zero.map (·.cells.size)))) = some (n, b, some n)) :
    ∃ i z, P.info? t = some i ∧ i.zero = some z ∧ i.size = n ∧ i.bytes = b ∧ z.cells.size = n := by
  cases hi : P.info? t with
  | none => rw [hi] at h; cases h
  | some i =>
    rw [hi] at h
    simp only [Option.map_some, Option.some.injEq, Prod.mk.injEq] at h
    cases hz : i.zero with
    | none => rw [hz] at h; simp at h
    | some z =>
      rw [hz] at h
      simp only [Option.map_some, Option.some.injEq] at h
      exact ⟨i, z, rfl, hz, h.1, h.2.1, h.2.2⟩

/-- A struct literal of which each field is given, in order. -/
theorem built_struct {P : Program} {t : TypeId} {n b : Nat} (h : (P.info? t).map (fun i => (i.size, i.bytes, (i.zero.map (·.cells.size)))) = some (n, b, some n)) {fs : List Field} (hu : P.underlying t = some (.struct fs.toArray)) {places : List (Nat × Nat)}
    (hp : fs.mapM (fun f => (P.info? f.type).map fun i => (f.offset, i.size)) = some places) (parts : List (Nat × Value)) (r : Array Value) (hr : ∀ z : List Value, z.length = n → Instr.fill (places.toArray[·]?) z.toArray parts = some r) : P.built t parts = some r := by
  obtain ⟨i, z, hi, hz, h1, h2, h3⟩ := info_of h
  unfold Program.built
  rw [hi, hu]
  simp only [hz, hp]
  have := hr z.cells.toList (by simpa using h3)
  simpa using this

theorem split_at {α : Type} (z : List α) (n m : Nat) (h : z.length = n + m) : ∃ a b, z = a ++ b ∧ a.length = n ∧ b.length = m :=
  ⟨z.take n, z.drop n, (List.take_append_drop n z).symm, by simp; omega, by simp; omega⟩

/-- A slice literal of one element. -/
theorem wpList_buildSlice_one {P : Program} {w : World} {ops : Array Oper} {rest : List Oper} {o : Oper} {a : Act} {Q : Exit → Act → World → Prop} (hg : o.guard = none) (t e : TypeId) (x : Operand) (ho : o.op = .buildSlice t 1 #[(0, x)])
    (cs : List Value) {b : Nat} (hx : (a.eval x).cells = cs.toArray) (hu : P.underlying t = some (.slice e)) (h : (P.info? e).map (fun i => (i.size, i.bytes, (i.zero.map (·.cells.size)))) = some (cs.length, b, some cs.length)) (hs : 0 < cs.length) (hb : cs.length ≤ 2 ^ 24)
    (hk : ∀ w', Go.RowKit.Hid (w'.heap[w.heap.size]? = some (.cells cs.toArray e (0, 0))) → Go.RowKit.Below w.heap.size w w' → wpList P ops Q rest (a.put o.dst (.slice (some ⟨w.heap.size, 0, none⟩) 1 1)) w') : wpList P ops Q (o :: rest) a w := by
  obtain ⟨i, z, hi, hz, h1, h2, h3⟩ := info_of h
  refine wpList_buildSlice hg t e 1 #[(0, x)] ho cs.toArray i z hu hi hz (by rw [h1]; omega) (by rw [h1]; omega) ?_ ?_
  · simp only [Nat.one_mul, List.map_toArray, List.map_cons, List.map_nil]
    obtain ⟨zs, hzs⟩ : ∃ zs : List Value, (Array.range i.size).map (z.cells[· % z.cells.size]!) = zs.toArray := ⟨_, (Array.toArray_toList).symm⟩
    have hl : zs.length = cs.length := by have := congrArg Array.size hzs; simpa [h1] using this.symm
    rw [hzs]
    have := fill_next (fun k => some (k * i.size, i.size)) [] zs [] 0 (a.eval x) [] (by simp [hx, h1]) (by rw [hl, hx]; simp)
    simpa [hx, Instr.fill] using this
  · exact hk _ (Go.Lib.hid (heap_alloc_new w _)) ((Go.RowKit.Below.refl _ w).alloc (Nat.le_refl _) _)
end Go.Proofs.YtologfdegdljeaaDoor
