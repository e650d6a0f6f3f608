/- Small laws on memory: a block that is known whole. No program. -/
import Derived.WalkKit
namespace Go.Proofs.YtologfdegdljeaaDoor
open Go.RowKit

/-- Block b of w holds just these cells, none of them frozen. -/
def Blk (w : World) (b : Nat) (c : List Value) (t : TypeId) : Prop := w.heap[b]? = some (.cells c.toArray t (0, 0))

theorem Blk.lt {w : World} {b : Nat} {c : List Value} {t : TypeId} (h : Blk w b c t) : b < w.heap.size := (Array.getElem?_eq_some_iff.1 h).1
theorem Blk.cell {w : World} {b : Nat} {c : List Value} {t : TypeId} (h : Blk w b c t) (o : Nat) : w.cell? ⟨b, o, none⟩ = c[o]? := by
  unfold Blk at h
  simp [World.cell?, h]
theorem Blk.frozen {w : World} {b : Nat} {c : List Value} {t : TypeId} (h : Blk w b c t) (o : Nat) : w.frozen? ⟨b, o, none⟩ = false := by
  unfold Blk at h
  simp only [World.frozen?, h]
  simp
theorem Blk.below {w w' : World} {B b : Nat} {c : List Value} {t : TypeId} (h : Blk w b c t) (hb : Below B w w') (hB : b < B) : Blk w' b c t := (hb.block b hB).trans h
theorem Blk.new (w : World) (c : List Value) (t : TypeId) : Blk (w.alloc (.cells c.toArray t)) w.heap.size c t := by
  show (w.heap.push _)[w.heap.size]? = _
  simp
theorem Blk.new_at (w : World) (c : List Value) (t : TypeId) {n : Nat} (hn : w.heap.size = n) : Blk (w.alloc (.cells c.toArray t)) n c t := hn ▸ Blk.new w c t
theorem Blk.alloc {w : World} {b : Nat} {c : List Value} {t : TypeId} (h : Blk w b c t) (o : Obj) : Blk (w.alloc o) b c t :=
  (Below.heap_alloc w o b h.lt).trans h
theorem Blk.setCell {w : World} {b o : Nat} {c : List Value} {t : TypeId} (h : Blk w b c t) (v : Value) : Blk (w.setCell ⟨b, o, none⟩ v) b (c.set o v) t := by
  unfold Blk at *
  simp only [World.setCell, Array.getElem?_modify, h]
  simp
theorem Blk.setCell_other {w : World} {b : Nat} {a : Addr} {c : List Value} {t : TypeId} (h : Blk w b c t) (hne : b ≠ a.block) (v : Value) : Blk (w.setCell a v) b c t :=
  (Below.heap_setCell w a v b hne).trans h
theorem Blk.drew {w : World} {b : Nat} {c : List Value} {t : TypeId} (h : Blk w b c t) : Blk w.drew b c t := h

/-- Nothing that was there has turned: the world has at most new blocks. -/
def Bel (w w1 : World) : Prop := Below w.heap.size w w1
theorem Bel.refl (w : World) : Bel w w := Below.refl _ _
theorem Bel.of_alloc {w w1 : World} {o : Obj} (h : Bel (w.alloc o) w1) : Bel w w1 :=
  ((Below.refl _ _).alloc (Nat.le_refl _) o).trans (Below.mono h (by simp))
theorem Bel.tr {w w1 w2 : World} (h : Bel w w1) (k : Bel w1 w2) : Bel w w2 := Below.trans h (Below.mono k h.size)
theorem Bel.ac {w w1 : World} (h : Bel w w1) (o : Obj) : Bel w (w1.alloc o) := Below.alloc h h.size o
theorem Bel.start (w : World) (o : Obj) : Bel w (w.alloc o) := (Below.refl _ _).alloc (Nat.le_refl _) o
theorem Bel.le {w w1 : World} (h : Bel w w1) : w.heap.size ≤ w1.heap.size := h.size
theorem Bel.store {w w1 : World} (h : Bel w w1) {p : Addr} (hp : w.heap.size ≤ p.block) (u : Value) : Bel w (w1.setCell p u) := Below.setCell h hp u
theorem Bel.drew {w w1 : World} (h : Bel w w1) : Bel w w1.drew := Below.drew h
theorem Blk.bel {w w' : World} {b : Nat} {c : List Value} {t : TypeId} (h : Blk w b c t) (hb : Bel w w') : Blk w' b c t := h.below hb h.lt
end Go.Proofs.YtologfdegdljeaaDoor
