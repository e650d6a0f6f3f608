/- Small laws on memory: a block that is known whole. No program. -/
import Derived.WalkKit
import Derived.ChangeMaps5
import Derived.Deep.Draws
import Derived.Lib.EndianBits
import Derived.Test.YtkcjafnaephjiaaGreatDoorChecked
import Derived.Deep.QuietTactic
import Derived.BigQuiet
import Derived.Lib.Hide
set_option linter.unusedVariables false
set_option linter.unusedSimpArgs false
namespace Go.Proofs.YtkcjafnaephjiaaGreatDoor
open Go.RowKit

/-- Block b of w holds just these cells, none of them frozen. -/
def Blk (w : World) (b : Nat) (c : List Value) (t : TypeId) : Prop := w.heap[b]? = some (.cells c.toArray t (0, 0))

theorem Blk.lt {w : World} {b : Nat} {c : List Value} {t : TypeId} (h : Blk w b c t) : b < w.heap.size := (Array.getElem?_eq_some_iff.1 h).1
theorem Blk.cell {w : World} {b : Nat} {c : List Value} {t : TypeId} (h : Blk w b c t) (o : Nat) : w.cell? ⟨b, o, none⟩ = c[o]? := by
  unfold Blk at h
  simp [World.cell?, h]
theorem Blk.frozen {w : World} {b : Nat} {c : List Value} {t : TypeId} (h : Blk w b c t) (o : Nat) : w.frozen? ⟨b, o, none⟩ = false := by
  unfold Blk at h
  simp only [World.frozen?, h]
  simp
theorem Blk.below {w w' : World} {B b : Nat} {c : List Value} {t : TypeId} (h : Blk w b c t) (hb : Below B w w') (hB : b < B) : Blk w' b c t := (hb.block b hB).trans h
theorem Blk.new (w : World) (c : List Value) (t : TypeId) : Blk (w.alloc (.cells c.toArray t)) w.heap.size c t := by
  show (w.heap.push _)[w.heap.size]? = _
  simp
theorem Blk.new_at (w : World) (c : List Value) (t : TypeId) {n : Nat} (hn : w.heap.size = n) : Blk (w.alloc (.cells c.toArray t)) n c t := hn ▸ Blk.new w c t
theorem Blk.alloc {w : World} {b : Nat} {c : List Value} {t : TypeId} (h : Blk w b c t) (o : Obj) : Blk (w.alloc o) b c t :=
  (Below.heap_alloc w o b h.lt).trans h
theorem Blk.setCell {w : World} {b o : Nat} {c : List Value} {t : TypeId} (h : Blk w b c t) (v : Value) : Blk (w.setCell ⟨b, o, none⟩ v) b (c.set o v) t := by
  unfold Blk at *
  simp only [World.setCell, Array.getElem?_modify, h]
  simp
theorem Blk.setCell_other {w : World} {b : Nat} {a : Addr} {c : List Value} {t : TypeId} (h : Blk w b c t) (hne : b ≠ a.block) (v : Value) : Blk (w.setCell a v) b c t :=
  (Below.heap_setCell w a v b hne).trans h
theorem Blk.drew {w : World} {b : Nat} {c : List Value} {t : TypeId} (h : Blk w b c t) : Blk w.drew b c t := h

/-- Nothing that was there has turned: the world has at most new blocks. -/
def Bel (w w1 : World) : Prop := Below w.heap.size w w1
theorem Bel.refl (w : World) : Bel w w := Below.refl _ _
theorem Bel.of_alloc {w w1 : World} {o : Obj} (h : Bel (w.alloc o) w1) : Bel w w1 :=
  ((Below.refl _ _).alloc (Nat.le_refl _) o).trans (Below.mono h (by simp))
theorem Bel.tr {w w1 w2 : World} (h : Bel w w1) (k : Bel w1 w2) : Bel w w2 := Below.trans h (Below.mono k h.size)
theorem Bel.ac {w w1 : World} (h : Bel w w1) (o : Obj) : Bel w (w1.alloc o) := Below.alloc h h.size o
theorem Bel.start (w : World) (o : Obj) : Bel w (w.alloc o) := (Below.refl _ _).alloc (Nat.le_refl _) o
theorem Bel.le {w w1 : World} (h : Bel w w1) : w.heap.size ≤ w1.heap.size := h.size
theorem Bel.store {w w1 : World} (h : Bel w w1) {p : Addr} (hp : w.heap.size ≤ p.block) (u : Value) : Bel w (w1.setCell p u) := Below.setCell h hp u
theorem Bel.drew {w w1 : World} (h : Bel w w1) : Bel w w1.drew := Below.drew h
theorem Blk.bel {w w' : World} {b : Nat} {c : List Value} {t : TypeId} (h : Blk w b c t) (hb : Bel w w') : Blk w' b c t := h.below hb h.lt
end Go.Proofs.YtkcjafnaephjiaaGreatDoor

/- What a call leaves as it was. No program. -/
namespace Go.Proofs.YtkcjafnaephjiaaGreatDoor
open Go.RowKit
open Go.ChangeMaps (setBlock heap_setBlock_same heap_setBlock_other)

/-- What lay there lies there, but for the blocks of S. -/
structure Keep (S : Nat → Prop) (w w' : World) : Prop where
  os : w'.os = w.os
  tape : w'.tape = w.tape
  output : w'.output = w.output
  size : w.heap.size ≤ w'.heap.size
  block : ∀ k, k < w.heap.size → ¬ S k → w'.heap[k]? = w.heap[k]?

variable {S : Nat → Prop} {w w' w'' : World}
theorem Keep.refl (S : Nat → Prop) (w : World) : Keep S w w := ⟨rfl, rfl, rfl, Nat.le_refl _, fun _ _ _ => rfl⟩
theorem Keep.tr (h : Keep S w w') (k : Keep S w' w'') : Keep S w w'' :=
  ⟨k.os.trans h.os, k.tape.trans h.tape, k.output.trans h.output, Nat.le_trans h.size k.size, fun i hi hs => (k.block i (Nat.lt_of_lt_of_le hi h.size) hs).trans (h.block i hi hs)⟩
theorem Keep.of_bel (S : Nat → Prop) (h : Bel w w') : Keep S w w' := ⟨h.os, h.tape, h.output, h.size, fun k hk _ => h.block k hk⟩
/-- What is laid behind w may turn. -/
theorem Keep.tr_new (h : Keep S w w') {S' : Nat → Prop} (k : Keep S' w' w'') (hs : ∀ i, S' i → S i ∨ w.heap.size ≤ i) : Keep S w w'' :=
  ⟨k.os.trans h.os, k.tape.trans h.tape, k.output.trans h.output, Nat.le_trans h.size k.size, fun i hi hs' => (k.block i (Nat.lt_of_lt_of_le hi h.size) (fun h1 => by rcases hs i h1 with h2 | h2; exact hs' h2; omega)).trans (h.block i hi hs')⟩
theorem Keep.below (h : Keep S w w') (B : Nat) (hB : B ≤ w.heap.size) (hs : ∀ k, S k → B ≤ k) : Below B w w' :=
  ⟨h.os, h.tape, h.output, h.size, fun k hk => h.block k (Nat.lt_of_lt_of_le hk hB) fun h1 => by have := hs k h1; omega⟩
theorem Keep.ofBelow {B : Nat} (h : Below B w w') : Keep (fun k => B ≤ k) w w' := ⟨h.os, h.tape, h.output, h.size, fun k _ hk => h.block k (by omega)⟩
theorem Keep.setBlock {b : Nat} {es : Array MapEntry} {clock : Nat} (hb : w.heap[b]? = some (.map es clock)) (o : Obj) : Keep (fun k => k = b) w (setBlock w b o) :=
  ⟨rfl, rfl, rfl, by simp [Go.ChangeMaps.setBlock], fun k _ hk => heap_setBlock_other hb o (fun e => hk e)⟩
theorem Keep.mono (h : Keep S w w') {S' : Nat → Prop} (hs : ∀ k, S k → S' k) : Keep S' w w' := ⟨h.os, h.tape, h.output, h.size, fun k hk hn => h.block k hk fun h1 => hn (hs k h1)⟩

theorem Keep.cell (h : Keep S w w') (a : Addr) (ha : a.block < w.heap.size) (hs : ¬ S a.block) : w'.cell? a = w.cell? a := by
  simp only [World.cell?, h.block a.block ha hs]

theorem Blk.keep {b : Nat} {c : List Value} {t : TypeId} (hb : Blk w b c t) (h : Keep S w w') (hs : ¬ S b) : Blk w' b c t := (h.block b hb.lt hs).trans hb
theorem bel_drewN (h : Bel w w') (n : Nat) : Bel w (w'.drewN n) := ⟨h.os, h.tape, h.output, h.size, h.block⟩
theorem upTo_snoc {p : Nat → Prop} {k : Nat} (h : ∀ j, j < k → p j) (hk : p k) : ∀ j, j < k + 1 → p j := fun j hj => by
  by_cases e : j = k
  · exact e ▸ hk
  · exact h j (by omega)
end Go.Proofs.YtkcjafnaephjiaaGreatDoor

/- Plain arithmetic on bytes; no program. -/
namespace Go.Proofs.YtkcjafnaephjiaaGreatDoor
open Go.RowKit

theorem wrap_i16 (n : Int) : IntKind.i16.wrap n = (n + 32768) % 65536 - 32768 := by
  simp [IntKind.wrap, IntKind.bits, IntKind.signed]
  split <;> omega
theorem ofInt_congr {k : Nat} (m n : Int) (h : m % ((2 ^ k : Nat) : Int) = n % ((2 ^ k : Nat) : Int)) : BitVec.ofInt k m = BitVec.ofInt k n := by
  apply BitVec.eq_of_toNat_eq
  rw [BitVec.toNat_ofInt, BitVec.toNat_ofInt, h]
theorem i16_join (x y : Int) (h0 : 0 ≤ x) (h1 : x ≤ 255) (h2 : 0 ≤ y) (h3 : y ≤ 255) : bits .or .i16 x (IntKind.i16.wrap (y * 256)) = IntKind.i16.wrap (x + y * 256) := by
  obtain ⟨a, rfl⟩ := Int.eq_ofNat_of_zero_le h0
  obtain ⟨b, rfl⟩ := Int.eq_ofNat_of_zero_le h2
  have hb16 : 2 ^ IntKind.i16.bits = 65536 := rfl
  have e : BitVec.ofInt IntKind.i16.bits (IntKind.i16.wrap ((b : Int) * 256)) = BitVec.ofInt IntKind.i16.bits (((b * 256 : Nat)) : Int) := by
    apply ofInt_congr
    rw [wrap_i16, hb16]
    omega
  have ha : a < 2 ^ 8 := by omega
  have hj := Nat.two_pow_add_eq_or_of_lt ha b
  show IntKind.i16.wrap (((BitVec.ofInt IntKind.i16.bits (a : Int) ||| BitVec.ofInt IntKind.i16.bits (IntKind.i16.wrap ((b : Int) * 256))).toNat : Nat) : Int) = _
  rw [e]
  rw [BitVec.ofInt_natCast, BitVec.ofInt_natCast, BitVec.toNat_or, BitVec.toNat_ofNat, BitVec.toNat_ofNat, hb16]
  rw [Nat.mod_eq_of_lt (by omega : a < 65536), Nat.mod_eq_of_lt (by omega : b * 256 < 65536), Nat.or_comm, Nat.mul_comm b 256, show (256 : Nat) = 2 ^ 8 from rfl, ← hj]
  exact congrArg IntKind.i16.wrap (by omega)
theorem or_ab (a b : Int) (ha0 : 0 ≤ a) (ha1 : a ≤ 15) (hb0 : 0 ≤ b) (hb1 : b ≤ 15) : bits .or .i64 (a * 16) b = a * 16 + b :=
  bits_join .i64 63 (by decide) (fun n h0 h1 => by rw [IntKind.wrap_i64]; omega) 4 (a * 16) b (by omega) (by omega) (by omega) hb0 (by omega) (by omega)
end Go.Proofs.YtkcjafnaephjiaaGreatDoor

/- Numbers out of bytes, bytes out of numbers: the walks of Number, number, Put, put, word. -/
namespace Go.Proofs.YtkcjafnaephjiaaGreatDoor
open Go.RowKit
set_option maxRecDepth 100000

/-- Cells of a block, from a place on, hold these bytes. -/
structure Bts (w : World) (b o : Nat) (l : List Int) : Prop where
  cell : ∀ i, i < l.length → w.cell? ⟨b, o + i, none⟩ = (l[i]?).map (Value.int .u8)
  byte : ∀ x ∈ l, 0 ≤ x ∧ x ≤ 255

theorem Bts.at_ {w : World} {b o : Nat} {l : List Int} (h : Bts w b o l) (i : Nat) (hi : i < l.length) : w.cell? ⟨b, o + i, none⟩ = some (.int .u8 (l.getD i 0)) := by
  rw [h.cell i hi, List.getElem?_eq_getElem hi, List.getD_eq_getElem?_getD, List.getElem?_eq_getElem hi]; rfl
theorem Bts.byteAt {w : World} {b o : Nat} {l : List Int} (h : Bts w b o l) (i : Nat) (hi : i < l.length) : 0 ≤ l.getD i 0 ∧ l.getD i 0 ≤ 255 := by
  rw [List.getD_eq_getElem?_getD, List.getElem?_eq_getElem hi]; exact h.byte _ (List.getElem_mem hi)
theorem Bts.part {w : World} {b o : Nat} {l : List Int} (h : Bts w b o l) (k n : Nat) (hn : k + n ≤ l.length) : Bts w b (o + k) ((l.drop k).take n) where
  cell i hi := by
    simp only [List.length_take, List.length_drop] at hi
    rw [show o + k + i = o + (k + i) from by omega, h.cell (k + i) (by omega), List.getElem?_take, List.getElem?_drop]
    simp [show i < n from by omega]
  byte x hx := h.byte x (List.mem_of_mem_drop (List.mem_of_mem_take hx))
theorem Bts.of_cell {w w' : World} {b o : Nat} {l : List Int} (h : Bts w b o l) (hc : ∀ a, a.block = b → w'.cell? a = w.cell? a) : Bts w' b o l :=
  ⟨fun i hi => (hc _ rfl).trans (h.cell i hi), h.byte⟩

/-- The number behind some bytes, the lowest first. -/
def numV : List Int → Int
  | [] => 0
  | x :: r => x + 256 * numV r
theorem numV_step (l : List Int) (i : Nat) (hi : i < l.length) : numV (l.drop i) = l.getD i 0 + 256 * numV (l.drop (i + 1)) := by
  rw [List.drop_eq_getElem_cons hi, numV, List.getD_eq_getElem?_getD, List.getElem?_eq_getElem hi]; rfl
theorem numV_bound : ∀ (l : List Int), (∀ x ∈ l, 0 ≤ x ∧ x ≤ 255) → 0 ≤ numV l ∧ numV l < 256 ^ l.length
  | [], _ => by simp [numV]
  | x :: r, h => by
    have h1 := numV_bound r fun y hy => h y (List.mem_cons_of_mem _ hy)
    have h2 := h x List.mem_cons_self
    simp only [numV, List.length_cons, Int.pow_succ]
    omega
theorem pow_le_8 : ∀ (n : Nat), n ≤ 7 → (256 : Int) ^ n ≤ 72057594037927936
  | 0, _ => by decide
  | 1, _ => by decide
  | 2, _ => by decide
  | 3, _ => by decide
  | 4, _ => by decide
  | 5, _ => by decide
  | 6, _ => by decide
  | 7, _ => by decide
  | n + 8, h => by omega
theorem numV_small (l : List Int) (h : ∀ x ∈ l, 0 ≤ x ∧ x ≤ 255) (hl : l.length ≤ 7) : 0 ≤ numV l ∧ numV l < 72057594037927936 := by
  have := numV_bound l h
  have := pow_le_8 l.length hl
  omega
theorem numV_u64 (l : List Int) (h : ∀ x ∈ l, 0 ≤ x ∧ x ≤ 255) (hl : l.length ≤ 8) : 0 ≤ numV l ∧ numV l < 18446744073709551616 := by
  have h1 := numV_bound l h
  by_cases h8 : l.length = 8
  · rw [h8] at h1
    omega
  · have := pow_le_8 l.length (by omega)
    omega
theorem or_byte (n x : Int) (hn : 0 ≤ n) (hn1 : n < 72057594037927936) (hx : 0 ≤ x) (hx1 : x ≤ 255) : bits .or .u64 (n * 256) x = n * 256 + x :=
  bits_join .u64 64 (by decide) (fun n h0 h1 => by rw [IntKind.wrap_u64]; omega) 8 (n * 256) x (by omega) (by omega) (by omega) hx (by omega) (by omega)

set_option maxHeartbeats 4000000 in
theorem number_any (b o c : Nat) (l : List Int) (w : World) (hl : l.length ≤ 8) (h : Bts w b o l) :
    Calls Tryz.prog 86 #[.slice (some ⟨b, o, none⟩) l.length c] w fun e w' => e = .returned (.int .u64 (numV l)) ∧ w = w' := by
  go_enter Tryz.func86, Tryz.ntmps86
  go_wp2
  go_loop [3, 4] (fun n i => ∃ k : Nat, k ≤ l.length ∧ i = .int .i64 k ∧ n = .int .u64 (numV (l.drop k))) (fun _ i => (intOf i).toNat)
  case atStart => exact ⟨l.length, Nat.le_refl _, rfl, by simp [numV]⟩
  case round =>
    obtain ⟨k, hk, rfl, rfl⟩ := hrel
    cases k with
    | zero =>
      go_wp2
      go_ret
      exact ⟨rfl, rfl⟩
    | succ k =>
      have hs := Lib.hid (numV_step l k hk)
      have hc := h.at_ k hk
      have hx := h.byteAt k hk
      have hn := numV_small (l.drop (k + 1)) (fun x hx => h.byte x (List.mem_of_mem_drop hx)) (by simp; omega)
      have hor := or_byte _ _ hn.1 hn.2 hx.1 hx.2
      have hx0 := hx.1
      have hx1 := hx.2
      have hn0 := hn.1
      have hn1 := hn.2
      clear hx hn
      generalize l.getD k 0 = x at *
      generalize hy : numV (l.drop (k + 1)) = y at *
      have HY := Lib.hid hy
      clear hy
      go_wp2
      go_round
      case rel => exact ⟨k, by omega, by go_num, by rw [hs.out]; congr 1; omega⟩
      case measure => simp [intOf] <;> omega
set_option maxHeartbeats 4000000 in
theorem numberR_any (b o c : Nat) (l : List Int) (w : World) (hl : l.length ≤ 8) (h : Bts w b o l) :
    Calls Tryz.prog 73 #[.slice (some ⟨b, o, none⟩) l.length c] w fun e w' => e = .returned (.int .u64 (numV l)) ∧ w = w' := by
  go_enter Tryz.func73, Tryz.ntmps73
  go_wp2
  go_loop [3, 4] (fun n i => ∃ k : Nat, k ≤ l.length ∧ i = .int .i64 ((k : Int) - 1) ∧ n = .int .u64 (numV (l.drop k))) (fun _ i => (intOf i + 1).toNat)
  case atStart => exact ⟨l.length, Nat.le_refl _, rfl, by simp [numV]⟩
  case round =>
    obtain ⟨k, hk, rfl, rfl⟩ := hrel
    cases k with
    | zero =>
      go_wp2
      go_ret
      exact ⟨rfl, rfl⟩
    | succ k =>
      have hs := Lib.hid (numV_step l k hk)
      have hc := h.at_ k hk
      have hx := h.byteAt k hk
      have hn := numV_small (l.drop (k + 1)) (fun x hx => h.byte x (List.mem_of_mem_drop hx)) (by simp; omega)
      have hx0 := hx.1
      have hx1 := hx.2
      have hn0 := hn.1
      have hn1 := hn.2
      clear hx hn
      generalize l.getD k 0 = x at *
      rw [show (((k + 1 : Nat) : Int) - 1) = (k : Int) from by omega]
      generalize hy : numV (l.drop (k + 1)) = y at *
      have HY := Lib.hid hy
      clear hy
      go_wp2
      go_round
      case rel => exact ⟨k, by omega, by go_num, by rw [hs.out]; congr 1; omega⟩
      case measure => simp [intOf] <;> omega
end Go.Proofs.YtkcjafnaephjiaaGreatDoor

/- Numbers into bytes: Put, the document's put; word. -/
namespace Go.Proofs.YtkcjafnaephjiaaGreatDoor
open Go.RowKit
set_option maxRecDepth 100000

def bytes8 (n : Int) : List Int := [n % 256, n / 256 % 256, n / 65536 % 256, n / 16777216 % 256, n / 4294967296 % 256, n / 1099511627776 % 256, n / 281474976710656 % 256, n / 72057594037927936]

/-- Bytes as a function from places. -/
def rowOf (f : Nat → Int) (N : Nat) : List Value := (List.range N).map fun i => Value.int .u8 (f i)
def setF (f : Nat → Int) (i : Nat) (x : Int) : Nat → Int := fun j => if j = i then x else f j
def putF (f : Nat → Int) (o : Nat) (n : Int) : Nat → Int :=
  setF (setF (setF (setF (setF (setF (setF (setF f o (n % 256)) (o + 1) (n / 256 % 256)) (o + 2) (n / 65536 % 256)) (o + 3) (n / 16777216 % 256)) (o + 4) (n / 4294967296 % 256)) (o + 5) (n / 1099511627776 % 256)) (o + 6) (n / 281474976710656 % 256)) (o + 7) (n / 72057594037927936)
theorem rowOf_set (f : Nat → Int) (N i : Nat) (x : Int) : (rowOf f N).set i (.int .u8 x) = rowOf (setF f i x) N := by
  apply List.ext_getElem?
  intro k
  simp only [rowOf, List.getElem?_set, List.getElem?_map, List.length_map, List.length_range, setF]
  by_cases hk : k < N
  · rw [List.getElem?_range hk]
    by_cases hi : i = k
    · subst hi; simp [hk]
    · simp [hi, Ne.symm hi]
  · rw [List.getElem?_eq_none (by simp; omega)]
    by_cases hi : i = k
    · subst hi; simp [hk]
    · simp [hi]
theorem rowOf_length (f : Nat → Int) (N : Nat) : (rowOf f N).length = N := by simp [rowOf]
theorem rowOf_get (f : Nat → Int) (N i : Nat) (h : i < N) : (rowOf f N)[i]? = some (.int .u8 (f i)) := by simp [rowOf, h]
theorem Blk.row_set {w : World} {g N : Nat} {f : Nat → Int} {t : TypeId} (h : Blk w g (rowOf f N) t) (i : Nat) (x : Int) : Blk (w.setCell ⟨g, i, none⟩ (.int .u8 x)) g (rowOf (setF f i x) N) t := by
  rw [← rowOf_set]; exact h.setCell _
theorem Keep.setCell (w : World) (g i : Nat) (v : Value) : Keep (fun k => k = g) w (w.setCell ⟨g, i, none⟩ v) :=
  ⟨rfl, rfl, rfl, by simp, fun k _ hk => Below.heap_setCell w ⟨g, i, none⟩ v k hk⟩

set_option maxHeartbeats 8000000 in
theorem put_any (g o N : Nat) (f : Nat → Int) (t : TypeId) (cap : Nat) (n : Int) (w : World) (hB : Blk w g (rowOf f N) t) (ho : o + 8 ≤ N) (hN : N < 100000) (hcap : 8 ≤ cap) (hn : 0 ≤ n) (hn1 : n < 18446744073709551616) :
    Calls Tryz.prog 91 #[.slice (some ⟨g, o, none⟩) 8 cap, .int .u64 n] w fun e w' => e = .returned (.tuple #[]) ∧ Blk w' g (rowOf (putF f o n) N) t ∧ Keep (fun k => k = g) w w' := by
  have hc : ∀ i, i < 8 → w.cell? ⟨g, o + i, none⟩ = some (.int .u8 (f (o + i))) := fun i hi => (hB.cell _).trans (rowOf_get f N _ (by omega))
  have c0 : w.cell? ⟨g, o, none⟩ = some (.int .u8 (f o)) := hc 0 (by omega)
  have c1 := hc 1 (by omega)
  have c2 := hc 2 (by omega)
  have c3 := hc 3 (by omega)
  have c4 := hc 4 (by omega)
  have c5 := hc 5 (by omega)
  have c6 := hc 6 (by omega)
  have c7 := hc 7 (by omega)
  have hf := hB.frozen
  have hg := hB.lt
  clear hc
  go_enter Tryz.func91, Tryz.ntmps91
  go_wp2
  refine wp_loop_rounds 9 ?_
  iterate 9 (rw [rounds_succ]; go_wp2)
  go_end0
  exact ⟨rfl, (((((((hB.row_set _ _).row_set _ _).row_set _ _).row_set _ _).row_set _ _).row_set _ _).row_set _ _).row_set _ _,
    (((((((Keep.setCell _ _ _ _).tr (Keep.setCell _ _ _ _)).tr (Keep.setCell _ _ _ _)).tr (Keep.setCell _ _ _ _)).tr (Keep.setCell _ _ _ _)).tr (Keep.setCell _ _ _ _)).tr (Keep.setCell _ _ _ _)).tr (Keep.setCell _ _ _ _)⟩
set_option maxHeartbeats 8000000 in
theorem putR_any (g o N : Nat) (f : Nat → Int) (t : TypeId) (cap : Nat) (n : Int) (w : World) (hB : Blk w g (rowOf f N) t) (ho : o + 8 ≤ N) (hN : N < 100000) (hn : 0 ≤ n) (hn1 : n < 18446744073709551616) :
    Calls Tryz.prog 74 #[.slice (some ⟨g, 0, none⟩) N cap, .int .i64 o, .int .u64 n] w fun e w' => e = .returned (.tuple #[]) ∧ Blk w' g (rowOf (putF f o n) N) t ∧ Keep (fun k => k = g) w w' := by
  have hc : ∀ i, i < 8 → w.cell? ⟨g, o + i, none⟩ = some (.int .u8 (f (o + i))) := fun i hi => (hB.cell _).trans (rowOf_get f N _ (by omega))
  have c0 : w.cell? ⟨g, o, none⟩ = some (.int .u8 (f o)) := hc 0 (by omega)
  have c1 := hc 1 (by omega)
  have c2 := hc 2 (by omega)
  have c3 := hc 3 (by omega)
  have c4 := hc 4 (by omega)
  have c5 := hc 5 (by omega)
  have c6 := hc 6 (by omega)
  have c7 := hc 7 (by omega)
  have hf := hB.frozen
  have hg := hB.lt
  clear hc
  go_enter Tryz.func74, Tryz.ntmps74
  go_wp2
  refine wp_loop_rounds 9 ?_
  iterate 9 (rw [rounds_succ]; go_wp2)
  go_end0
  exact ⟨rfl, (((((((hB.row_set _ _).row_set _ _).row_set _ _).row_set _ _).row_set _ _).row_set _ _).row_set _ _).row_set _ _,
    (((((((Keep.setCell _ _ _ _).tr (Keep.setCell _ _ _ _)).tr (Keep.setCell _ _ _ _)).tr (Keep.setCell _ _ _ _)).tr (Keep.setCell _ _ _ _)).tr (Keep.setCell _ _ _ _)).tr (Keep.setCell _ _ _ _)).tr (Keep.setCell _ _ _ _)⟩
end Go.Proofs.YtkcjafnaephjiaaGreatDoor
