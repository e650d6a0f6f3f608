/- Struct and slice literals, fields: what 'fill' yields where the parts lie side by side. No program. -/
import Derived.Laws.Tables
import Derived.Great.BuildSlice
import Derived.Laws.OwnMore
import Derived.Below
import Derived.Lib.Hide
import Derived.Laws.AppendOwn
import Derived.Deep.Onto
import Derived.Test.YtkcjafnaephjiaaGreatDoorPart00
import Derived.ArgAppend
import Derived.Deep.MidRow
set_option linter.unusedVariables false
set_option linter.unusedSimpArgs false
namespace Go.Proofs.YtkcjafnaephjiaaGreatDoor

theorem fill_next (place : Nat → Option (Nat × Nat)) (pre mid post : List Value) (i : Nat) (v : Value) (rest : List (Nat × Value)) (hp : place i = some (pre.length, v.cells.size)) (hm : mid.length = v.cells.size) :
    Instr.fill place (pre ++ (mid ++ post)).toArray ((i, v) :: rest) = Instr.fill place (pre ++ (v.cells.toList ++ post)).toArray rest := by
  rw [Instr.fill, hp]
  simp only
  rw [if_neg (by simp; omega)]
  congr 1
  rw [← Array.foldl_toList, Array.toList_zipIdx]
  obtain ⟨h1, h2⟩ := Great.foldl_set pre.length v.cells.toList 0 (pre ++ (mid ++ post)).toArray
  apply Array.ext_getElem?
  intro k
  have := h2 k
  rw [this]
  simp only [Nat.add_zero, Array.length_toList, List.size_toArray, List.length_append, List.getElem?_toArray]
  by_cases hk : pre.length ≤ k
  · rw [List.getElem?_append_right hk, List.getElem?_append_right hk]
    by_cases hk2 : k - pre.length < v.cells.size
    · rw [if_pos (by omega), List.getElem?_append_left (by simpa using hk2)]
    · rw [if_neg (by omega), List.getElem?_append_right (by omega), List.getElem?_append_right (by simp; omega)]
      simp [hm]
  · rw [if_neg (by omega), List.getElem?_append_left (by omega), List.getElem?_append_left (by omega)]

/-- A struct literal, field by field: the places. -/
theorem fill_end (place : Nat → Option (Nat × Nat)) (cs : Array Value) : Instr.fill place cs [] = some cs := rfl

/-- A type's row: its size in cells, its size in bytes, the number of its zero value's cells. -/
theorem info_of {P : Program} {t : TypeId} {n b : Nat} (h : (P.info? t).map (fun i => (i.size, i.bytes, (i.zero.map (·.cells.size)))) = some (n, b, some n)) :
    ∃ i z, P.info? t = some i ∧ i.zero = some z ∧ i.size = n ∧ i.bytes = b ∧ z.cells.size = n := by
  cases hi : P.info? t with
  | none => rw [hi] at h; cases h
  | some i =>
    rw [hi] at h
    simp only [Option.map_some, Option.some.injEq, Prod.mk.injEq] at h
    cases hz : i.zero with
    | none => rw [hz] at h; simp at h
    | some z =>
      rw [hz] at h
      simp only [Option.map_some, Option.some.injEq] at h
      exact ⟨i, z, rfl, hz, h.1, h.2.1, h.2.2⟩

/-- A struct literal of which each field is given, in order. -/
theorem built_struct {P : Program} {t : TypeId} {n b : Nat} (h : (P.info? t).map (fun i => (i.size, i.bytes, (i.zero.map (·.cells.size)))) = some (n, b, some n)) {fs : List Field} (hu : P.underlying t = some (.struct fs.toArray)) {places : List (Nat × Nat)}
    (hp : fs.mapM (fun f => (P.info? f.type).map fun i => (f.offset, i.size)) = some places) (parts : List (Nat × Value)) (r : Array Value) (hr : ∀ z : List Value, z.length = n → Instr.fill (places.toArray[·]?) z.toArray parts = some r) : P.built t parts = some r := by
  obtain ⟨i, z, hi, hz, h1, h2, h3⟩ := info_of h
  unfold Program.built
  rw [hi, hu]
  simp only [hz, hp]
  have := hr z.cells.toList (by simpa using h3)
  simpa using this

theorem split_at {α : Type} (z : List α) (n m : Nat) (h : z.length = n + m) : ∃ a b, z = a ++ b ∧ a.length = n ∧ b.length = m :=
  ⟨z.take n, z.drop n, (List.take_append_drop n z).symm, by simp; omega, by simp; omega⟩

/-- A slice literal of one element. -/
theorem wpList_buildSlice_one {P : Program} {w : World} {ops : Array Oper} {rest : List Oper} {o : Oper} {a : Act} {Q : Exit → Act → World → Prop} (hg : o.guard = none) (t e : TypeId) (x : Operand) (ho : o.op = .buildSlice t 1 #[(0, x)])
    (cs : List Value) {b : Nat} (hx : (a.eval x).cells = cs.toArray) (hu : P.underlying t = some (.slice e)) (h : (P.info? e).map (fun i => (i.size, i.bytes, (i.zero.map (·.cells.size)))) = some (cs.length, b, some cs.length)) (hs : 0 < cs.length) (hb : cs.length ≤ 2 ^ 24)
    (hk : ∀ w', Go.RowKit.Hid (w'.heap[w.heap.size]? = some (.cells cs.toArray e (0, 0))) → Go.RowKit.Below w.heap.size w w' → wpList P ops Q rest (a.put o.dst (.slice (some ⟨w.heap.size, 0, none⟩) 1 1)) w') : wpList P ops Q (o :: rest) a w := by
  obtain ⟨i, z, hi, hz, h1, h2, h3⟩ := info_of h
  refine wpList_buildSlice hg t e 1 #[(0, x)] ho cs.toArray i z hu hi hz (by rw [h1]; omega) (by rw [h1]; omega) ?_ ?_
  · simp only [Nat.one_mul, List.map_toArray, List.map_cons, List.map_nil]
    obtain ⟨zs, hzs⟩ : ∃ zs : List Value, (Array.range i.size).map (z.cells[· % z.cells.size]!) = zs.toArray := ⟨_, (Array.toArray_toList).symm⟩
    have hl : zs.length = cs.length := by have := congrArg Array.size hzs; simpa [h1] using this.symm
    rw [hzs]
    have := fill_next (fun k => some (k * i.size, i.size)) [] zs [] 0 (a.eval x) [] (by simp [hx, h1]) (by rw [hl, hx]; simp)
    simpa [hx, Instr.fill] using this
  · exact hk _ (Go.Lib.hid (heap_alloc_new w _)) ((Go.RowKit.Below.refl _ w).alloc (Nat.le_refl _) _)
end Go.Proofs.YtkcjafnaephjiaaGreatDoor

/- Rows of the call's own: read, kept, appended to. No program. -/
namespace Go.Proofs.YtkcjafnaephjiaaGreatDoor
open Go.RowKit

variable {w w' : World} {base : Nat} {e : TypeId} {size : Nat} {v : Value} {n : Nat} {xs : List Value}

theorem row_bel (h : w.ownsRow base e size v n xs) (hb : Bel w w') : w'.ownsRow base e size v n xs := by
  refine ⟨h.1, ?_⟩
  rcases h.2 with h | ⟨g, cap, cur, h1, h2, h3, h4⟩
  · exact .inl h
  · exact .inr ⟨g, cap, cur, h1, h2, (hb.block g (Array.getElem?_eq_some_iff.1 h3).1).trans h3, h4⟩
theorem row_keep {S : Nat → Prop} (h : w.ownsRow base e size v n xs) (hb : Keep S w w') (hs : ∀ g, base ≤ g → ¬ S g) : w'.ownsRow base e size v n xs := by
  refine ⟨h.1, ?_⟩
  rcases h.2 with h | ⟨g, cap, cur, h1, h2, h3, h4⟩
  · exact .inl h
  · exact .inr ⟨g, cap, cur, h1, h2, (hb.block g (Array.getElem?_eq_some_iff.1 h3).1 (hs g h2)).trans h3, h4⟩
/-- A row is a slice; where it has an element, its cells lie at a block's head. -/
theorem row_slice (h : w.ownsRow base e size v n xs) : ∃ p cap, v = .slice p n cap ∧ n ≤ cap ∧ cap ≤ maxLen ∧ (n = 0 ∧ p = none ∧ cap = 0 ∨ ∃ g, p = some ⟨g, 0, none⟩ ∧ base ≤ g ∧ g < w.heap.size ∧ (∀ j, j < xs.length → w.cell? ⟨g, j, none⟩ = xs[j]?) ∧ (∀ j, w.frozen? ⟨g, j, none⟩ = false)) := by
  rcases h.2 with ⟨rfl, rfl⟩ | ⟨g, cap, cur, rfl, hg, hb, hn, hc, _, ht⟩
  · exact ⟨none, 0, rfl, Nat.le_refl _, Nat.zero_le _, .inl ⟨rfl, rfl, rfl⟩⟩
  · refine ⟨_, cap, rfl, hn, hc, .inr ⟨g, rfl, hg, (Array.getElem?_eq_some_iff.1 hb).1, fun j hj => ?_, fun j => ?_⟩⟩
    · have hj' : j < n * size := by
        rw [← ht, List.length_take] at hj
        exact (Nat.lt_min.1 hj).1
      simp only [World.cell?, hb]
      rw [← ht, List.getElem?_take, if_pos hj']
      simp
    · simp only [World.frozen?, hb]
      simp

theorem grown_keep (hg : w.grownBy w' v.ownBlock) (h : w.ownsRow base e size v n xs) : Keep (fun i => base ≤ i) w w' :=
  ⟨hg.os, hg.tape, hg.output, hg.size, fun k hk hn => hg.block k hk fun e => hn (by
    rcases h.2 with ⟨rfl, _⟩ | ⟨g, cap, cur, rfl, h2, _⟩
    · cases e
    · cases e; exact h2)⟩

/-- append(row, one) , the one element a literal's block. -/
theorem wpList_append_one {P : Program} {ops : Array Oper} {rest : List Oper} {o : Oper} {a : Act} {Q : Exit → Act → World → Prop} (hgd : o.guard = none) (s x : Operand) (t : TypeId)
    (ho : o.op = .call { callee := .builtin .append, args := #[s, x], argTypes := #[t, t] }) {bytes : Nat} (ht : P.underlying t = some (.slice e))
    (hi : (P.info? e).map (fun i => (i.size, i.bytes, (i.zero.map (·.cells.size)))) = some (size, bytes, some size)) (hsz : 0 < size)
    (hs : a.eval s = v) (hown : w.ownsRow base e size v n xs) (g : Nat) (cs : List Value) (t' : TypeId) (hx : a.eval x = .slice (some ⟨g, 0, none⟩) 1 1) (hB : w.heap[g]? = some (.cells cs.toArray t' (0, 0))) (hl : cs.length = size) (h1 : ∀ u ∈ cs, u.oneCell' = true)
    (h63 : n + 1 ≤ maxLen) (hbytes : (n + 1) * bytes ≤ 140737488355328) (hbase : base ≤ w.heap.size)
    (h : ∀ v' w', w'.ownsRow base e size v' (n + 1) (xs ++ cs) → Keep (fun i => base ≤ i) w w' → wpList P ops Q rest (a.put o.dst v') w') : wpList P ops Q (o :: rest) a w := by
  obtain ⟨i, z, hi, hz, e1, e2, e3⟩ := info_of hi
  refine wpList_append_own w hgd s x t ho base e i z size bytes ht hi hz e1 e2 e3 hsz v n xs hs hown ⟨g, 0, none⟩ 1 1 cs hx (by omega) (fun j u hj => ?_) h1 h63 hbytes hbase fun v' w' k1 k2 _ => h v' w' k1 (grown_keep k2 hown)
  rw [show (⟨g, 0, none⟩ : Addr).add j = ⟨g, j, none⟩ from by unfold Addr.add; split <;> simp_all]
  simp only [World.cell?, hB]
  simpa using hj
end Go.Proofs.YtkcjafnaephjiaaGreatDoor

/- append of so many zeros. No program. -/
namespace Go.Proofs.YtkcjafnaephjiaaGreatDoor
open Go.RowKit

section
variable {P : Program} {w : World}
theorem zeroCells_one (z : Value) (n : Nat) : Builtin.zeroCells #[z] n = (List.replicate n z).toArray := by
  apply Array.ext'
  simp [Builtin.zeroCells]
  apply List.ext_getElem?
  intro i
  simp [List.getElem?_replicate, List.getElem?_map, List.getElem?_range]
  by_cases h : i < n
  · simp [h, Nat.mod_one]
  · simp [h]

theorem run_append_zeros (t u ty e : TypeId) (i : TypeInfo) (z : Value) (ht : P.underlying t = some (.slice e)) (hu : P.underlying u = some (.int .i64)) (hi : P.info? e = some i) (hz : i.zero = some z) (hzc : z.cells = #[z]) (hs : i.size = 1) (hb : i.bytes = 1)
    (ao : Option Addr) (sLen sCap : Nat) (olds : List Value) (hnone : ao = none → sLen = 0) (hlo : olds.length = sLen) (holds : ∀ b, ao = some b → ∀ j v, olds[j]? = some v → w.cell? (b.add j) = some v)
    (n : Nat) (h0 : 0 < n) (hg : sCap < sLen + n) (hbig : sLen + n ≤ 1000000000) :
    (Builtin.append_ #[t, u] ty #[.slice ao sLen sCap, .int .i64 n]).run P w =
      .ok (.slice (some ⟨w.heap.size, 0, none⟩) (sLen + n) (grownCap w (sLen + n) sCap e))
        (w.drew.alloc (.cells (olds ++ List.replicate (n + (grownCap w (sLen + n) sCap e - (sLen + n))) z).toArray e)) := by
  have hn : ¬ (sLen + n ≤ sCap) := by omega
  have hfit := growslice_fits (need := sLen + n) (old := sCap) (bytes := 1) hg (by omega)
  have h48' : ¬ (281474976710656 < Builtin.nextslicecap (sLen + n) sCap) := by omega
  have h63' : ¬ (9223372036854775807 < ((sLen : Int) + (n : Int))) := by omega
  have hw : IntKind.i64.wrap (n : Int) = n := by rw [IntKind.wrap_i64]; omega
  have hl0 : ¬ ((n : Int) < 0) := by omega
  have hl1 : ¬ (281474976710656 < (n : Int)) := by omega
  have hn0 : ¬ n = 0 := by omega
  have hfo : (Builtin.firstCells 1 sLen (.slice ao sLen sCap)).run P w.drew = .ok olds.toArray w.drew := by
    cases ao with
    | none =>
      have := hnone rfl
      subst this
      obtain rfl : olds = [] := List.eq_nil_of_length_eq_zero hlo
      exact run_firstCells_none (P := P) w.drew 1 0 0 sCap
    | some b => exact run_firstCells_some (P := P) w.drew 1 sLen b sLen sCap olds (by omega) (by simpa using holds b rfl)
  simp [Builtin.append_, run_underlying ht, run_underlying hu, sizeOf, typeInfo, zeroValue, hi, hz, hs, hb, asInt, asIntOf, hw, hl0, hl1, hn, hn0, h63', h48', Question.forced, hfo, newRow, grownCap, hzc, zeroCells_one]
  congr 2
  apply Array.ext'
  simp
theorem wpList_append_zeros {ops : Array Oper} {rest : List Oper} {o : Oper} {a : Act} {Q : Exit → Act → World → Prop} (hgd : o.guard = none) (s x : Operand) (t u e : TypeId)
    (ho : o.op = .call { callee := .builtin .append, args := #[s, x], argTypes := #[t, u] }) (i : TypeInfo) (z : Value) (ht : P.underlying t = some (.slice e)) (hu : P.underlying u = some (.int .i64)) (hi : P.info? e = some i) (hz : i.zero = some z) (hzc : z.cells = #[z]) (hs : i.size = 1) (hb : i.bytes = 1)
    (ao : Option Addr) (sLen sCap : Nat) (olds : List Value) (hsv : a.eval s = .slice ao sLen sCap) (hnone : ao = none → sLen = 0) (hlo : olds.length = sLen) (holds : ∀ b, ao = some b → ∀ j v, olds[j]? = some v → w.cell? (b.add j) = some v)
    (n : Nat) (hxv : a.eval x = .int .i64 n) (h0 : 0 < n) (hg : sCap < sLen + n) (hbig : sLen + n ≤ 1000000000)
    (h : ∀ w' cap k, Hid (Blk w' w.heap.size (olds ++ List.replicate (n + k) z) e) → Bel w w' → sLen + n ≤ cap → cap ≤ maxLen → cap = sLen + n + k → wpList P ops Q rest (a.put o.dst (.slice (some ⟨w.heap.size, 0, none⟩) (sLen + n) cap)) w') : wpList P ops Q (o :: rest) a w := by
  refine wpList_plain hgd fun K hK' => ?_
  have hrun := run_append_zeros (P := P) (w := w) t u o.type e i z ht hu hi hz hzc hs hb ao sLen sCap olds hnone hlo holds n h0 hg hbig
  have hge := grownCap_ge w (sLen + n) sCap e
  unfold Oper.wp
  simp [execOp, ho, resolve, invoke, builtin, hsv, hxv, hrun, Result.andThen]
  exact hK' _ _ (h _ _ _ (Lib.hid (Blk.new w.drew _ _)) ((Bel.drew (Bel.refl w)).tr (Bel.start _ _)) hge (grownCap_le_maxLen w _ _ _ (by unfold maxLen; omega)) (by omega))
theorem step_append_zeros {ops : Array Oper} {o : Oper} {a : Act} {K : Act → World → Prop} {Q : Exit → Act → World → Prop} {E : Prop} (hgd : o.guard = none) (s x : Operand) (t u e : TypeId)
    (ho : o.op = .call { callee := .builtin .append, args := #[s, x], argTypes := #[t, u] }) (i : TypeInfo) (z : Value) (ht : P.underlying t = some (.slice e)) (hu : P.underlying u = some (.int .i64)) (hi : P.info? e = some i) (hz : i.zero = some z) (hzc : z.cells = #[z]) (hs : i.size = 1) (hb : i.bytes = 1)
    (ao : Option Addr) (sLen sCap : Nat) (olds : List Value) (hsv : a.eval s = .slice ao sLen sCap) (hnone : ao = none → sLen = 0) (hlo : olds.length = sLen) (holds : ∀ b, ao = some b → ∀ j v, olds[j]? = some v → w.cell? (b.add j) = some v)
    (n : Nat) (hxv : a.eval x = .int .i64 n) (h0 : 0 < n) (hg : sCap < sLen + n) (hbig : sLen + n ≤ 1000000000)
    (h : ∀ w' cap k, Hid (Blk w' w.heap.size (olds ++ List.replicate (n + k) z) e) → Bel w w' → sLen + n ≤ cap → cap ≤ maxLen → cap = sLen + n + k → K (a.put o.dst (.slice (some ⟨w.heap.size, 0, none⟩) (sLen + n) cap)) w') : if Region.wanted o (yielded ops a.tmps) = true then Oper.wp P o a w K Q else E := by
  have hw : Region.wanted o (yielded ops a.tmps) = true := by simp [Region.wanted, hgd]
  rw [if_pos hw]
  have hrun := run_append_zeros (P := P) (w := w) t u o.type e i z ht hu hi hz hzc hs hb ao sLen sCap olds hnone hlo holds n h0 hg hbig
  have hge := grownCap_ge w (sLen + n) sCap e
  unfold Oper.wp
  simp [execOp, ho, resolve, invoke, builtin, hsv, hxv, hrun, Result.andThen]
  exact h _ _ _ (Lib.hid (Blk.new w.drew _ _)) ((Bel.drew (Bel.refl w)).tr (Bel.start _ _)) hge (grownCap_le_maxLen w _ _ _ (by unfold maxLen; omega)) (by omega)
end
end Go.Proofs.YtkcjafnaephjiaaGreatDoor

/- append of an own row by one step of a region that draws. No program. -/
namespace Go.Proofs.YtkcjafnaephjiaaGreatDoor
open Go.RowKit

theorem step_append_cells {P : Program} {w : World} {base : Nat} {e : TypeId} {size : Nat} {v : Value} {n : Nat} {xs : List Value} {ops : Array Oper} {o : Oper} {a : Act} {K : Act → World → Prop} {Q : Exit → Act → World → Prop} {E : Prop} (hgd : o.guard = none) (s x : Operand) (t : TypeId)
    (ho : o.op = .call { callee := .builtin .append, args := #[s, x], argTypes := #[t, t] }) {bytes : Nat} (ht : P.underlying t = some (.slice e))
    (hi : (P.info? e).map (fun i => (i.size, i.bytes, (i.zero.map (·.cells.size)))) = some (size, bytes, some size)) (hsz : 0 < size)
    (hs : a.eval s = v) (hown : w.ownsRow base e size v n xs) (g m c : Nat) (cs : List Value) (hx : a.eval x = .slice (some ⟨g, 0, none⟩) m c) (hB : ∀ j u, cs[j]? = some u → w.cell? ⟨g, j, none⟩ = some u) (hl : cs.length = m * size) (h1 : ∀ u ∈ cs, u.oneCell' = true)
    (h63 : n + m ≤ maxLen) (hbytes : (n + m) * bytes ≤ 140737488355328) (hbase : base ≤ w.heap.size)
    (h : ∀ p cp w', w'.ownsRow base e size (.slice p (n + m) cp) (n + m) (xs ++ cs) → Keep (fun q => v.ownBlock = some q) w w' → K (a.put o.dst (.slice p (n + m) cp)) w') : if Region.wanted o (yielded ops a.tmps) = true then Oper.wp P o a w K Q else E := by
  have hw : Region.wanted o (yielded ops a.tmps) = true := by simp [Region.wanted, hgd]
  rw [if_pos hw]
  obtain ⟨i, z, hi, hz, e1, e2, e3⟩ := info_of hi
  obtain ⟨v', w', hrun, k1, k2, _⟩ := run_append_own (P := P) w base t o.type e i z size bytes ht hi hz e1 e2 e3 hsz v n xs hown ⟨g, 0, none⟩ m c cs hl (fun j u hj => by
    rw [show (⟨g, 0, none⟩ : Addr).add j = ⟨g, j, none⟩ from by unfold Addr.add; split <;> simp_all]
    exact hB j u hj) h1 h63 hbytes hbase
  obtain ⟨p, cp, rfl, _⟩ := row_slice k1
  unfold Oper.wp
  simp [execOp, ho, resolve, invoke, builtin, hs, hx, hrun, Result.andThen]
  exact h p cp w' k1 ⟨k2.os, k2.tape, k2.output, k2.size, fun k hk hn => k2.block k hk fun e => hn e.symm⟩
theorem step_load_mid {P : Program} {w : World} {ops : Array Oper} {o : Oper} {a : Act} {K : Act → World → Prop} {Q : Exit → Act → World → Prop} {E : Prop} (hgd : o.guard = none) (ty : TypeId) (x : Operand) (ho : o.op = .load ty x)
    (b off : Nat) (hx : a.eval x = .pointer (some ⟨b, off, none⟩)) (cs : List Value) (d : TypeDesc) (hc : w.rangeAt b off cs) (hu : P.underlying ty = some d) (hd : d.isRow = true) (hi : (P.info? ty).map (·.size) = some cs.length)
    (h : K (a.put o.dst (.agg cs.toArray)) w) : if Region.wanted o (yielded ops a.tmps) = true then Oper.wp P o a w K Q else E := by
  have hw : Region.wanted o (yielded ops a.tmps) = true := by simp [Region.wanted, hgd]
  rw [if_pos hw]
  exact wp_load_mid ty x ho b off hx cs d hc hu hd hi h
/-- A slice literal of one element, as one step. -/
theorem step_buildSlice_one {P : Program} {w : World} {ops : Array Oper} {o : Oper} {a : Act} {K : Act → World → Prop} {Q : Exit → Act → World → Prop} {E : Prop} (hg : o.guard = none) (t e : TypeId) (x : Operand) (ho : o.op = .buildSlice t 1 #[(0, x)])
    (cs : List Value) {b : Nat} (hx : (a.eval x).cells = cs.toArray) (hu : P.underlying t = some (.slice e)) (h : (P.info? e).map (fun i => (i.size, i.bytes, (i.zero.map (·.cells.size)))) = some (cs.length, b, some cs.length)) (hs : 0 < cs.length) (hb : cs.length ≤ 2 ^ 24)
    (hk : K (a.put o.dst (.slice (some ⟨w.heap.size, 0, none⟩) 1 1)) (w.alloc (.cells cs.toArray e))) : if Region.wanted o (yielded ops a.tmps) = true then Oper.wp P o a w K Q else E := by
  have hw : Region.wanted o (yielded ops a.tmps) = true := by simp [Region.wanted, hg]
  rw [if_pos hw]
  obtain ⟨i, z, hi, hz, h1, h2, h3⟩ := info_of h
  refine wp_buildSlice t e 1 #[(0, x)] ho cs.toArray i z hu hi hz (by rw [h1]; omega) (by rw [h1]; omega) ?_ hk
  simp only [Nat.one_mul, List.map_toArray, List.map_cons, List.map_nil]
  obtain ⟨zs, hzs⟩ : ∃ zs : List Value, (Array.range i.size).map (z.cells[· % z.cells.size]!) = zs.toArray := ⟨_, (Array.toArray_toList).symm⟩
  have hl : zs.length = cs.length := by have := congrArg Array.size hzs; simpa [h1] using this.symm
  rw [hzs]
  have := fill_next (fun k => some (k * i.size, i.size)) [] zs [] 0 (a.eval x) [] (by simp [hx, h1]) (by rw [hl, hx]; simp)
  simpa [hx, Instr.fill] using this
theorem run_buildSlice_one {P : Program} (t e : TypeId) (cs : List Value) {b : Nat} (hu : P.underlying t = some (.slice e)) (h : (P.info? e).map (fun i => (i.size, i.bytes, (i.zero.map (·.cells.size)))) = some (cs.length, b, some cs.length)) (hs : 0 < cs.length) (hb : cs.length ≤ 2 ^ 24) (w : World) :
    (Instr.buildSlice t 1 #[(0, .agg cs.toArray)]).run P w = .ok (.slice (some ⟨w.heap.size, 0, none⟩) 1 1) (w.alloc (.cells cs.toArray e)) := by
  obtain ⟨i, z, hi, hz, h1, h2, h3⟩ := info_of h
  refine run_buildSlice w t e 1 _ cs.toArray i z hu hi hz (by rw [h1]; omega) (by rw [h1]; omega) ?_
  simp only [Nat.one_mul]
  obtain ⟨zs, hzs⟩ : ∃ zs : List Value, (Array.range i.size).map (z.cells[· % z.cells.size]!) = zs.toArray := ⟨_, (Array.toArray_toList).symm⟩
  have hl : zs.length = cs.length := by have := congrArg Array.size hzs; simpa [h1] using this.symm
  rw [hzs]
  have := fill_next (fun k => some (k * i.size, i.size)) [] zs [] 0 (.agg cs.toArray) [] (by simp [Value.cells, h1]) (by rw [hl]; simp [Value.cells])
  simpa [Value.cells, Instr.fill] using this
end Go.Proofs.YtkcjafnaephjiaaGreatDoor
