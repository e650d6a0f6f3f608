/- What a call leaves as it was. No program. -/
import Derived.Test.YtologfdegdljeaaDoorMem
import Derived.ChangeMaps5
import Derived.Deep.Draws
namespace Go.Proofs.YtologfdegdljeaaDoor
open Go.RowKit
open Go.ChangeMaps (setBlock heap_setBlock_same heap_setBlock_other)

/-- What lay there lies there, but for the blocks of S. -/
structure Keep (S : Nat → Prop) (w w' : World) : Prop where
  os : w'.os = w.os
  tape : w'.tape = w.tape
  output : w'.output = w.output
  size : w.heap.size ≤ w'.heap.size
  block : ∀ k, k < w.heap.size → ¬ S k → w'.heap[k]? = w.heap[k]?

variable {S : Nat → Prop} {w w' w'' : World}
theorem Keep.refl (S : Nat → Prop) (w : World) : Keep S w w := ⟨rfl, rfl, rfl, Nat.le_refl _, fun _ _ _ => rfl⟩
theorem Keep.tr (h : Keep S w w') (k : Keep S w' w'') : Keep S w w'' :=
  ⟨k.os.trans h.os, k.tape.trans h.tape, k.output.trans h.output, Nat.le_trans h.size k.size, fun i hi hs => (k.block i (Nat.lt_of_lt_of_le hi h.size) hs).trans (h.block i hi hs)⟩
theorem Keep.of_bel (S : Nat → Prop) (h : Bel w w') : Keep S w w' := ⟨h.os, h.tape, h.output, h.size, fun k hk _ => h.block k hk⟩
/-- What is laid behind w may turn. -/
theorem Keep.tr_new (h : Keep S w w') {S' : Nat → Prop} (k : Keep S' w' w'') (hs : ∀ i, S' i → S i ∨ w.heap.size ≤ i) : Keep S w w'' :=
  ⟨k.os.trans h.os, k.tape.trans h.tape, k.output.trans h.output, Nat.le_trans h.size k.size, fun i hi hs' => (k.block i (Nat.lt_of_lt_of_le hi h.size) (fun h1 => by rcases hs i h1 with h2 | h2; exact hs' h2; omega)).trans (h.block i hi hs')⟩
theorem Keep.below (h : Keep S w w') (B : Nat) (hB : B ≤ w.heap.size) (hs : ∀ k, S k → B ≤ k) : Below B w w' :=
  ⟨h.os, h.tape, h.output, h.size, fun k hk => h.block k (Nat.lt_of_lt_of_le hk hB) fun h1 => by have := hs k h1; omega⟩
theorem Keep.ofBelow {B : Nat} (h : Below B w w') : Keep (fun k => B ≤ k) w w' := ⟨h.os, h.tape, h.output, h.size, fun k _ hk => h.block k (by omega)⟩
theorem Keep.setBlock {b : Nat} {es : Array MapEntry} {clock : Nat} (hb : w.heap[b]? = some (.map es clock)) (o : Obj) : Keep (fun k => k = b) w (setBlock w b o) :=
  ⟨rfl, rfl, rfl, by simp [Go.ChangeMaps.setBlock], fun k _ hk => heap_setBlock_other hb o (fun e => hk e)⟩
theorem Keep.mono (h : Keep S w w') {S' : Nat → Prop} (hs : ∀ k, S k → S' k) : Keep S' w w' := ⟨h.os, h.tape, h.output, h.size, fun k hk hn => h.block k hk fun h1 => hn (hs k h1)⟩

theorem Keep.cell (h : Keep S w w') (a : Addr) (ha : a.block < w.heap.size) (hs : ¬ S a.block) : w'.cell? a = w.cell? a := by
  simp only [World.cell?, h.block a.block ha hs]

theorem Blk.keep {b : Nat} {c : List Value} {t : TypeId} (hb : Blk w b c t) (h : Keep S w w') (hs : ¬ S b) : Blk w' b c t := (h.block b hb.lt hs).trans hb
theorem bel_drewN (h : Bel w w') (n : Nat) : Bel w (w'.drewN n) := ⟨h.os, h.tape, h.output, h.size, h.block⟩
theorem upTo_snoc {p : Nat → Prop} {k : Nat} (h : ∀ j, j < k → p j) (hk : p k) : ∀ j, j < k + 1 → p j := fun j hj => by
  by_cases e : j = k
  · exact e ▸ hk
  · exact h j (by omega)
end Go.Proofs.YtologfdegdljeaaDoor
