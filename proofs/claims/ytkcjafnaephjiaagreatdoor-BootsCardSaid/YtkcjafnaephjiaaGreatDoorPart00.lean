/- Paths, in plain words: a text cut at each '/', names. No program. -/
import Derived.Lib.Split
import Derived.Lib.CountLaws
import Derived.WalkKit
import Derived.ChangeMaps5
import Derived.Deep.Draws
import Derived.Laws.Tables
import Derived.Great.BuildSlice
import Derived.Laws.OwnMore
import Derived.Below
import Derived.Lib.Hide
import Derived.Laws.AppendOwn
import Derived.Deep.Onto
namespace Go.Proofs.YtkcjafnaephjiaaGreatDoor
open Go.Lib

def consHead (b : UInt8) : List (List UInt8) → List (List UInt8)
  | [] => [[b]]
  | h :: t => (b :: h) :: t
/-- A text cut at each c. -/
def splitOn (c : UInt8) : List UInt8 → List (List UInt8)
  | [] => [[]]
  | b :: l => if b = c then [] :: splitOn c l else consHead b (splitOn c l)
theorem splitOn_ne (c : UInt8) : ∀ l, splitOn c l ≠ []
  | [] => by simp [splitOn]
  | b :: l => by
    unfold splitOn
    split
    · simp
    · cases splitOn c l <;> simp [consHead]
theorem index_one (b c : UInt8) (l : List UInt8) : index (b :: l) [c] = if b = c then 0 else if index l [c] = -1 then -1 else index l [c] + 1 := by
  rw [index]
  by_cases h : b = c
  · subst h; simp
  · have : List.isPrefixOf [c] (b :: l) = false := by
      rw [List.isPrefixOf_cons₂, show (c == b) = false from beq_eq_false_iff_ne.2 (fun e => h e.symm)]
      rfl
    rw [this, if_neg h]
    by_cases h2 : index l [c] = -1
    · rw [if_pos h2]; simp [h2]
    · rw [if_neg h2]; simp [h2]
theorem split_one (c : UInt8) : ∀ s : List UInt8, split s [c] = splitOn c s
  | [] => by
    unfold split
    rw [count_miss (by rfl)]
    rfl
  | b :: l => by
    have ih := split_one c l
    unfold split at ih ⊢
    unfold splitOn
    have hi := index_one b c l
    by_cases h : b = c
    · rw [if_pos h] at hi ⊢
      have hc := count_hit (s := b :: l) (sub := [c]) (i := 0) (by simp) (by rw [hi]; rfl)
      rw [hc, Nat.add_comm, splitK, hi]
      simp only [List.length_singleton, Nat.zero_add, List.drop_succ_cons, List.drop_zero] at ih ⊢
      rw [← ih]
      simp
    · rw [if_neg h] at hi ⊢
      by_cases hm : index l [c] = -1
      · rw [if_pos hm] at hi
        rw [count_miss hi, splitK]
        rw [count_miss hm, splitK] at ih
        rw [← ih]
        rfl
      · rw [if_neg hm] at hi
        have hge := index_ge l [c]
        obtain ⟨i, hii⟩ : ∃ i : Nat, index l [c] = i := ⟨(index l [c]).toNat, by omega⟩
        have hc1 := count_hit (s := b :: l) (sub := [c]) (i := i + 1) (by simp) (by rw [hi, hii]; omega)
        have hc2 := count_hit (s := l) (sub := [c]) (i := i) (by simp) hii
        simp only [List.length_singleton] at hc1 hc2
        rw [show (b :: l).drop (i + 1 + 1) = l.drop (i + 1) from rfl] at hc1
        rw [hc1, Nat.add_comm, splitK, hi, hii]
        rw [hc2, Nat.add_comm, splitK, hii] at ih
        have h1 : ((i : Int) + 1 == -1) = false := beq_eq_false_iff_ne.2 (by omega)
        have h2 : ((i : Int) == -1) = false := beq_eq_false_iff_ne.2 (by omega)
        rw [h1]
        rw [h2] at ih
        simp only [Bool.false_eq_true, if_false, List.length_singleton, Int.toNat_natCast, Nat.add_zero] at ih ⊢
        rw [← ih, show ((i : Int) + 1).toNat = i + 1 from by omega]
        rfl

def nameOk (l : List UInt8) : Bool := decide (1 ≤ l.length) && decide (l.length ≤ 14) && !(l == [46]) && !(l == [46, 46]) && !decide ((0 : UInt8) ∈ l)
/-- The names of a path; none: it is no path. -/
def pathOf : List UInt8 → Option (List (List UInt8))
  | [] => none
  | b :: r => if b = 47 ∧ r.length ≤ 59 then (if r = [] then some [] else if (splitOn 47 r).all nameOk then some (splitOn 47 r) else none) else none
theorem pathOf_cons (b : UInt8) (r : List UInt8) : pathOf (b :: r) = if b = 47 ∧ r.length ≤ 59 then (if r = [] then some [] else if (splitOn 47 r).all nameOk then some (splitOn 47 r) else none) else none := rfl
theorem splitOn_no (c : UInt8) : ∀ l : List UInt8, ∀ x ∈ splitOn c l, c ∉ x
  | [], x, hx => by simp [splitOn] at hx; subst hx; simp
  | b :: l, x, hx => by
    have ih := splitOn_no c l
    unfold splitOn at hx
    split at hx
    · rcases List.mem_cons.1 hx with rfl | hx
      · simp
      · exact ih x hx
    · rename_i hb
      cases hs : splitOn c l with
      | nil => exact absurd hs (splitOn_ne c l)
      | cons h t =>
        rw [hs] at hx ih
        simp only [consHead] at hx
        rcases List.mem_cons.1 hx with rfl | hx
        · intro hm
          rcases List.mem_cons.1 hm with rfl | hm
          · exact hb rfl
          · exact ih h (by simp) hm
        · exact ih x (by simp [hx])
end Go.Proofs.YtkcjafnaephjiaaGreatDoor

/- Small laws on memory: a block that is known whole. No program. -/
namespace Go.Proofs.YtkcjafnaephjiaaGreatDoor
open Go.RowKit

/-- Block b of w holds just these cells, none of them frozen. -/
def Blk (w : World) (b : Nat) (c : List Value) (t : TypeId) : Prop := w.heap[b]? = some (.cells c.toArray t (0, 0))

theorem Blk.lt {w : World} {b : Nat} {c : List Value} {t : TypeId} (h : Blk w b c t) : b < w.heap.size := (Array.getElem?_eq_some_iff.1 h).1
theorem Blk.cell {w : World} {b : Nat} {c : List Value} {t : TypeId} (h : Blk w b c t) (o : Nat) : w.cell? ⟨b, o, none⟩ = c[o]? := by
  unfold Blk at h
  simp [World.cell?, h]
theorem Blk.frozen {w : World} {b : Nat} {c : List Value} {t : TypeId} (h : Blk w b c t) (o : Nat) : w.frozen? ⟨b, o, none⟩ = false := by
  unfold Blk at h
  simp only [World.frozen?, h]
  simp
theorem Blk.below {w w' : World} {B b : Nat} {c : List Value} {t : TypeId} (h : Blk w b c t) (hb : Below B w w') (hB : b < B) : Blk w' b c t := (hb.block b hB).trans h
theorem Blk.new (w : World) (c : List Value) (t : TypeId) : Blk (w.alloc (.cells c.toArray t)) w.heap.size c t := by
  show (w.heap.push _)[w.heap.size]? = _
  simp
theorem Blk.new_at (w : World) (c : List Value) (t : TypeId) {n : Nat} (hn : w.heap.size = n) : Blk (w.alloc (.cells c.toArray t)) n c t := hn ▸ Blk.new w c t
theorem Blk.alloc {w : World} {b : Nat} {c : List Value} {t : TypeId} (h : Blk w b c t) (o : Obj) : Blk (w.alloc o) b c t :=
  (Below.heap_alloc w o b h.lt).trans h
theorem Blk.setCell {w : World} {b o : Nat} {c : List Value} {t : TypeId} (h : Blk w b c t) (v : Value) : Blk (w.setCell ⟨b, o, none⟩ v) b (c.set o v) t := by
  unfold Blk at *
  simp only [World.setCell, Array.getElem?_modify, h]
  simp
theorem Blk.setCell_other {w : World} {b : Nat} {a : Addr} {c : List Value} {t : TypeId} (h : Blk w b c t) (hne : b ≠ a.block) (v : Value) : Blk (w.setCell a v) b c t :=
  (Below.heap_setCell w a v b hne).trans h
theorem Blk.drew {w : World} {b : Nat} {c : List Value} {t : TypeId} (h : Blk w b c t) : Blk w.drew b c t := h

/-- Nothing that was there has turned: the world has at most new blocks. -/
def Bel (w w1 : World) : Prop := Below w.heap.size w w1
theorem Bel.refl (w : World) : Bel w w := Below.refl _ _
theorem Bel.of_alloc {w w1 : World} {o : Obj} (h : Bel (w.alloc o) w1) : Bel w w1 :=
  ((Below.refl _ _).alloc (Nat.le_refl _) o).trans (Below.mono h (by simp))
theorem Bel.tr {w w1 w2 : World} (h : Bel w w1) (k : Bel w1 w2) : Bel w w2 := Below.trans h (Below.mono k h.size)
theorem Bel.ac {w w1 : World} (h : Bel w w1) (o : Obj) : Bel w (w1.alloc o) := Below.alloc h h.size o
theorem Bel.start (w : World) (o : Obj) : Bel w (w.alloc o) := (Below.refl _ _).alloc (Nat.le_refl _) o
theorem Bel.le {w w1 : World} (h : Bel w w1) : w.heap.size ≤ w1.heap.size := h.size
theorem Bel.store {w w1 : World} (h : Bel w w1) {p : Addr} (hp : w.heap.size ≤ p.block) (u : Value) : Bel w (w1.setCell p u) := Below.setCell h hp u
theorem Bel.drew {w w1 : World} (h : Bel w w1) : Bel w w1.drew := Below.drew h
theorem Blk.bel {w w' : World} {b : Nat} {c : List Value} {t : TypeId} (h : Blk w b c t) (hb : Bel w w') : Blk w' b c t := h.below hb h.lt
end Go.Proofs.YtkcjafnaephjiaaGreatDoor

/- What a call leaves as it was. No program. -/
namespace Go.Proofs.YtkcjafnaephjiaaGreatDoor
open Go.RowKit
open Go.ChangeMaps (setBlock heap_setBlock_same heap_setBlock_other)

/-- What lay there lies there, but for the blocks of S. -/
structure Keep (S : Nat → Prop) (w w' : World) : Prop where
  os : w'.os = w.os
  tape : w'.tape = w.tape
  output : w'.output = w.output
  size : w.heap.size ≤ w'.heap.size
  block : ∀ k, k < w.heap.size → ¬ S k → w'.heap[k]? = w.heap[k]?

variable {S : Nat → Prop} {w w' w'' : World}
theorem Keep.refl (S : Nat → Prop) (w : World) : Keep S w w := ⟨rfl, rfl, rfl, Nat.le_refl _, fun _ _ _ => rfl⟩
theorem Keep.tr (h : Keep S w w') (k : Keep S w' w'') : Keep S w w'' :=
  ⟨k.os.trans h.os, k.tape.trans h.tape, k.output.trans h.output, Nat.le_trans h.size k.size, fun i hi hs => (k.block i (Nat.lt_of_lt_of_le hi h.size) hs).trans (h.block i hi hs)⟩
theorem Keep.of_bel (S : Nat → Prop) (h : Bel w w') : Keep S w w' := ⟨h.os, h.tape, h.output, h.size, fun k hk _ => h.block k hk⟩
/-- What is laid behind w may turn. -/
theorem Keep.tr_new (h : Keep S w w') {S' : Nat → Prop} (k : Keep S' w' w'') (hs : ∀ i, S' i → S i ∨ w.heap.size ≤ i) : Keep S w w'' :=
  ⟨k.os.trans h.os, k.tape.trans h.tape, k.output.trans h.output, Nat.le_trans h.size k.size, fun i hi hs' => (k.block i (Nat.lt_of_lt_of_le hi h.size) (fun h1 => by rcases hs i h1 with h2 | h2; exact hs' h2; omega)).trans (h.block i hi hs')⟩
theorem Keep.below (h : Keep S w w') (B : Nat) (hB : B ≤ w.heap.size) (hs : ∀ k, S k → B ≤ k) : Below B w w' :=
  ⟨h.os, h.tape, h.output, h.size, fun k hk => h.block k (Nat.lt_of_lt_of_le hk hB) fun h1 => by have := hs k h1; omega⟩
theorem Keep.ofBelow {B : Nat} (h : Below B w w') : Keep (fun k => B ≤ k) w w' := ⟨h.os, h.tape, h.output, h.size, fun k _ hk => h.block k (by omega)⟩
theorem Keep.setBlock {b : Nat} {es : Array MapEntry} {clock : Nat} (hb : w.heap[b]? = some (.map es clock)) (o : Obj) : Keep (fun k => k = b) w (setBlock w b o) :=
  ⟨rfl, rfl, rfl, by simp [Go.ChangeMaps.setBlock], fun k _ hk => heap_setBlock_other hb o (fun e => hk e)⟩
theorem Keep.mono (h : Keep S w w') {S' : Nat → Prop} (hs : ∀ k, S k → S' k) : Keep S' w w' := ⟨h.os, h.tape, h.output, h.size, fun k hk hn => h.block k hk fun h1 => hn (hs k h1)⟩

theorem Keep.cell (h : Keep S w w') (a : Addr) (ha : a.block < w.heap.size) (hs : ¬ S a.block) : w'.cell? a = w.cell? a := by
  simp only [World.cell?, h.block a.block ha hs]

theorem Blk.keep {b : Nat} {c : List Value} {t : TypeId} (hb : Blk w b c t) (h : Keep S w w') (hs : ¬ S b) : Blk w' b c t := (h.block b hb.lt hs).trans hb
theorem bel_drewN (h : Bel w w') (n : Nat) : Bel w (w'.drewN n) := ⟨h.os, h.tape, h.output, h.size, h.block⟩
theorem upTo_snoc {p : Nat → Prop} {k : Nat} (h : ∀ j, j < k → p j) (hk : p k) : ∀ j, j < k + 1 → p j := fun j hj => by
  by_cases e : j = k
  · exact e ▸ hk
  · exact h j (by omega)
end Go.Proofs.YtkcjafnaephjiaaGreatDoor

/- Struct and slice literals, fields: what 'fill' yields where the parts lie side by side. No program. -/
namespace Go.Proofs.YtkcjafnaephjiaaGreatDoor

theorem fill_next (place : Nat → Option (Nat × Nat)) (pre mid post : List Value) (i : Nat) (v : Value) (rest : List (Nat × Value)) (hp : place i = some (pre.length, v.cells.size)) (hm : mid.length = v.cells.size) :
    Instr.fill place (pre ++ (mid ++ post)).toArray ((i, v) :: rest) = Instr.fill place (pre ++ (v.cells.toList ++ post)).toArray rest := by
  rw [Instr.fill, hp]
  simp only
  rw [if_neg (by simp; omega)]
  congr 1
  rw [← Array.foldl_toList, Array.toList_zipIdx]
  obtain ⟨h1, h2⟩ := Great.foldl_set pre.length v.cells.toList 0 (pre ++ (mid ++ post)).toArray
  apply Array.ext_getElem?
  intro k
  have := h2 k
  rw [this]
  simp only [Nat.add_zero, Array.length_toList, List.size_toArray, List.length_append, List.getElem?_toArray]
  by_cases hk : pre.length ≤ k
  · rw [List.getElem?_append_right hk, List.getElem?_append_right hk]
    by_cases hk2 : k - pre.length < v.cells.size
    · rw [if_pos (by omega), List.getElem?_append_left (by simpa using hk2)]
    · rw [if_neg (by omega), List.getElem?_append_right (by omega), List.getElem?_append_right (by simp; omega)]
      simp [hm]
  · rw [if_neg (by omega), List.getElem?_append_left (by omega), List.getElem?_append_left (by omega)]

/-- A struct literal, field by field: the places. -/
theorem fill_end (place : Nat → Option (Nat × Nat)) (cs : Array Value) : Instr.fill place cs [] = some cs := rfl

/-- A type's row: its size in cells, its size in bytes, the number of its zero value's cells. -/
theorem info_of {P : Program} {t : TypeId} {n b : Nat} (h : (P.info? t).map (fun i => (i.size, i.bytes, (i.zero.map (·.cells.size)))) = some (n, b, some n)) :
    ∃ i z, P.info? t = some i ∧ i.zero = some z ∧ i.size = n ∧ i.bytes = b ∧ z.cells.size = n := by
  cases hi : P.info? t with
  | none => rw [hi] at h; cases h
  | some i =>
    rw [hi] at h
    simp only [Option.map_some, Option.some.injEq, Prod.mk.injEq] at h
    cases hz : i.zero with
    | none => rw [hz] at h; simp at h
    | some z =>
      rw [hz] at h
      simp only [Option.map_some, Option.some.injEq] at h
      exact ⟨i, z, rfl, hz, h.1, h.2.1, h.2.2⟩

/-- A struct literal of which each field is given, in order. -/
theorem built_struct {P : Program} {t : TypeId} {n b : Nat} (h : (P.info? t).map (fun i => (i.size, i.bytes, (i.zero.map (·.cells.size)))) = some (n, b, some n)) {fs : List Field} (hu : P.underlying t = some (.struct fs.toArray)) {places : List (Nat × Nat)}
    (hp : fs.mapM (fun f => (P.info? f.type).map fun i => (f.offset, i.size)) = some places) (parts : List (Nat × Value)) (r : Array Value) (hr : ∀ z : List Value, z.length = n → Instr.fill (places.toArray[·]?) z.toArray parts = some r) : P.built t parts = some r := by
  obtain ⟨i, z, hi, hz, h1, h2, h3⟩ := info_of h
  unfold Program.built
  rw [hi, hu]
  simp only [hz, hp]
  have := hr z.cells.toList (by simpa using h3)
  simpa using this

theorem split_at {α : Type} (z : List α) (n m : Nat) (h : z.length = n + m) : ∃ a b, z = a ++ b ∧ a.length = n ∧ b.length = m :=
  ⟨z.take n, z.drop n, (List.take_append_drop n z).symm, by simp; omega, by simp; omega⟩

/-- A slice literal of one element. -/
theorem wpList_buildSlice_one {P : Program} {w : World} {ops : Array Oper} {rest : List Oper} {o : Oper} {a : Act} {Q : Exit → Act → World → Prop} (hg : o.guard = none) (t e : TypeId) (x : Operand) (ho : o.op = .buildSlice t 1 #[(0, x)])
    (cs : List Value) {b : Nat} (hx : (a.eval x).cells = cs.toArray) (hu : P.underlying t = some (.slice e)) (h : (P.info? e).map (fun i => (i.size, i.bytes, (i.zero.map (·.cells.size)))) = some (cs.length, b, some cs.length)) (hs : 0 < cs.length) (hb : cs.length ≤ 2 ^ 24)
    (hk : ∀ w', Go.RowKit.Hid (w'.heap[w.heap.size]? = some (.cells cs.toArray e (0, 0))) → Go.RowKit.Below w.heap.size w w' → wpList P ops Q rest (a.put o.dst (.slice (some ⟨w.heap.size, 0, none⟩) 1 1)) w') : wpList P ops Q (o :: rest) a w := by
  obtain ⟨i, z, hi, hz, h1, h2, h3⟩ := info_of h
  refine wpList_buildSlice hg t e 1 #[(0, x)] ho cs.toArray i z hu hi hz (by rw [h1]; omega) (by rw [h1]; omega) ?_ ?_
  · simp only [Nat.one_mul, List.map_toArray, List.map_cons, List.map_nil]
    obtain ⟨zs, hzs⟩ : ∃ zs : List Value, (Array.range i.size).map (z.cells[· % z.cells.size]!) = zs.toArray := ⟨_, (Array.toArray_toList).symm⟩
    have hl : zs.length = cs.length := by have := congrArg Array.size hzs; simpa [h1] using this.symm
    rw [hzs]
    have := fill_next (fun k => some (k * i.size, i.size)) [] zs [] 0 (a.eval x) [] (by simp [hx, h1]) (by rw [hl, hx]; simp)
    simpa [hx, Instr.fill] using this
  · exact hk _ (Go.Lib.hid (heap_alloc_new w _)) ((Go.RowKit.Below.refl _ w).alloc (Nat.le_refl _) _)
end Go.Proofs.YtkcjafnaephjiaaGreatDoor

/- Rows of the call's own: read, kept, appended to. No program. -/
namespace Go.Proofs.YtkcjafnaephjiaaGreatDoor
open Go.RowKit

variable {w w' : World} {base : Nat} {e : TypeId} {size : Nat} {v : Value} {n : Nat} {xs : List Value}

theorem row_bel (h : w.ownsRow base e size v n xs) (hb : Bel w w') : w'.ownsRow base e size v n xs := by
  refine ⟨h.1, ?_⟩
  rcases h.2 with h | ⟨g, cap, cur, h1, h2, h3, h4⟩
  · exact .inl h
  · exact .inr ⟨g, cap, cur, h1, h2, (hb.block g (Array.getElem?_eq_some_iff.1 h3).1).trans h3, h4⟩
theorem row_keep {S : Nat → Prop} (h : w.ownsRow base e size v n xs) (hb : Keep S w w') (hs : ∀ g, base ≤ g → ¬ S g) : w'.ownsRow base e size v n xs := by
  refine ⟨h.1, ?_⟩
  rcases h.2 with h | ⟨g, cap, cur, h1, h2, h3, h4⟩
  · exact .inl h
  · exact .inr ⟨g, cap, cur, h1, h2, (hb.block g (Array.getElem?_eq_some_iff.1 h3).1 (hs g h2)).trans h3, h4⟩
/-- A row is a slice; where it has an element, its cells lie at a block's head. -/
theorem row_slice (h : w.ownsRow base e size v n xs) : ∃ p cap, v = .slice p n cap ∧ n ≤ cap ∧ cap ≤ maxLen ∧ (n = 0 ∧ p = none ∧ cap = 0 ∨ ∃ g, p = some ⟨g, 0, none⟩ ∧ base ≤ g ∧ g < w.heap.size ∧ (∀ j, j < xs.length → w.cell? ⟨g, j, none⟩ = xs[j]?) ∧ (∀ j, w.frozen? ⟨g, j, none⟩ = false)) := by
  rcases h.2 with ⟨rfl, rfl⟩ | ⟨g, cap, cur, rfl, hg, hb, hn, hc, _, ht⟩
  · exact ⟨none, 0, rfl, Nat.le_refl _, Nat.zero_le _, .inl ⟨rfl, rfl, rfl⟩⟩
  · refine ⟨_, cap, rfl, hn, hc, .inr ⟨g, rfl, hg, (Array.getElem?_eq_some_iff.1 hb).1, fun j hj => ?_, fun j => ?_⟩⟩
    · have hj' : j < n * size := by
        rw [← ht, List.length_take] at hj
        exact (Nat.lt_min.1 hj).1
      simp only [World.cell?, hb]
      rw [← ht, List.getElem?_take, if_pos hj']
      simp
    · simp only [World.frozen?, hb]
      simp

theorem grown_keep (hg : w.grownBy w' v.ownBlock) (h : w.ownsRow base e size v n xs) : Keep (fun i => base ≤ i) w w' :=
  ⟨hg.os, hg.tape, hg.output, hg.size, fun k hk hn => hg.block k hk fun e => hn (by
    rcases h.2 with ⟨rfl, _⟩ | ⟨g, cap, cur, rfl, h2, _⟩
    · cases e
    · cases e; exact h2)⟩

/-- append(row, one) , the one element a literal's block. -/
theorem wpList_append_one {P : Program} {ops : Array Oper} {rest : List Oper} {o : Oper} {a : Act} {Q : Exit → Act → World → Prop} (hgd : o.guard = none) (s x : Operand) (t : TypeId)
    (ho : o.op = .call { callee := .builtin .append, args := #[s, x], argTypes := #[t, t] }) {bytes : Nat} (ht : P.underlying t = some (.slice e))
    (hi : (P.info? e).map (fun i => (i.size, i.bytes, (i.zero.map (·.cells.size)))) = some (size, bytes, some size)) (hsz : 0 < size)
    (hs : a.eval s = v) (hown : w.ownsRow base e size v n xs) (g : Nat) (cs : List Value) (t' : TypeId) (hx : a.eval x = .slice (some ⟨g, 0, none⟩) 1 1) (hB : w.heap[g]? = some (.cells cs.toArray t' (0, 0))) (hl : cs.length = size) (h1 : ∀ u ∈ cs, u.oneCell' = true)
    (h63 : n + 1 ≤ maxLen) (hbytes : (n + 1) * bytes ≤ 140737488355328) (hbase : base ≤ w.heap.size)
    (h : ∀ v' w', w'.ownsRow base e size v' (n + 1) (xs ++ cs) → Keep (fun i => base ≤ i) w w' → wpList P ops Q rest (a.put o.dst v') w') : wpList P ops Q (o :: rest) a w := by
  obtain ⟨i, z, hi, hz, e1, e2, e3⟩ := info_of hi
  refine wpList_append_own w hgd s x t ho base e i z size bytes ht hi hz e1 e2 e3 hsz v n xs hs hown ⟨g, 0, none⟩ 1 1 cs hx (by omega) (fun j u hj => ?_) h1 h63 hbytes hbase fun v' w' k1 k2 _ => h v' w' k1 (grown_keep k2 hown)
  rw [show (⟨g, 0, none⟩ : Addr).add j = ⟨g, j, none⟩ from by unfold Addr.add; split <;> simp_all]
  simp only [World.cell?, hB]
  simpa using hj
end Go.Proofs.YtkcjafnaephjiaaGreatDoor
