/- The document's kernel: numbers, nodes made. -/
import Derived.Laws.AppendOwn
import Derived.Test.YtkcjafnaephjiaaGreatDoorPart02
import Derived.Test.YtkcjafnaephjiaaGreatDoorPart01
import Derived.Test.YtkcjafnaephjiaaGreatDoorPart00
set_option linter.unusedVariables false
set_option linter.unusedSimpArgs false
namespace Go.Proofs.YtkcjafnaephjiaaGreatDoor
open Go.RowKit
set_option maxRecDepth 100000

/-- The document's kernel but its inodes and its last number. -/
structure KV where
  a : Int
  b : Int
  c : Int
  d : Int
  e : Int
  pv : Value
  ov : Value
  xv : Value
  tv : Value
  uv : Value
  mv : Value
def KV.cells (s : KV) (iv : Value) (last : Nat) : List Value := [.int .i64 s.a, .int .i64 s.b, .int .i64 s.c, .int .i64 s.d, .int .i64 s.e, s.pv, s.ov, iv, s.xv, s.tv, s.uv, s.mv, .int .i64 last]

set_option maxHeartbeats 4000000 in
theorem fresh_any (kb : Nat) (s : KV) (iv : Value) (n : Nat) (w : World) (hB : Blk w kb (s.cells iv n) 71) (hn : n ≤ 1000000) :
    Calls Tryz.prog 28 #[.pointer (some ⟨kb, 0, none⟩)] w fun e w' => e = .returned (.int .i64 ((n + 1 : Nat) : Int)) ∧ Blk w' kb (s.cells iv (n + 1)) 71 ∧ Keep (fun q => q = kb) w w' := by
  have c12 : w.cell? ⟨kb, 12, none⟩ = some (.int .i64 n) := hB.cell 12
  have f12 := hB.frozen 12
  have hlt := hB.lt
  have HB := Lib.hid hB
  clear hB
  go_enter Tryz.func28, Tryz.ntmps28
  go_wp2
  go_ret
  refine ⟨?_, HB.out.setCell (o := 12) _, Keep.setCell w kb 12 _⟩
  rfl

theorem inodeInfo : (Tryz.prog.info? 90).map (fun i => (i.size, i.bytes, (i.zero.map (·.cells.size)))) = some (5, 64, some 5) := by kernel_rfl
def ndCells (i : Nat) : List Nd → List Value
  | [] => []
  | n :: L => n.cells i ++ ndCells (i + 1) L
theorem ndCells_app (i : Nat) : ∀ (L M : List Nd), ndCells i (L ++ M) = ndCells i L ++ ndCells (i + L.length) M := by
  intro L
  induction L generalizing i with
  | nil => intro M; simp [ndCells]
  | cons n L ih =>
    intro M
    simp only [List.cons_append, ndCells, ih, List.length_cons, List.append_assoc]
    rw [show i + 1 + L.length = i + (L.length + 1) from by omega]
theorem ndCells_len (i : Nat) (L : List Nd) : (ndCells i L).length = L.length * 5 := by
  induction L generalizing i with
  | nil => rfl
  | cons n L ih => simp only [ndCells, List.length_append, ih, List.length_cons, Nd.cells, List.length_nil]; omega

theorem own_ge {w : World} {base : Nat} {e : TypeId} {size : Nat} {v : Value} {n : Nat} {xs : List Value} (h : w.ownsRow base e size v n xs) (q : Nat) (hq : v.ownBlock = some q) : base ≤ q := by
  rcases h.2 with ⟨rfl, _⟩ | ⟨g, cap, cur, rfl, h2, _⟩
  · cases hq
  · cases hq; exact h2
theorem wpList_append_grown {P : Program} {w : World} {base : Nat} {e : TypeId} {size : Nat} {v : Value} {n : Nat} {xs : List Value} {ops : Array Oper} {rest : List Oper} {o : Oper} {a : Act} {Q : Exit → Act → World → Prop} (hgd : o.guard = none) (s x : Operand) (t : TypeId)
    (ho : o.op = .call { callee := .builtin .append, args := #[s, x], argTypes := #[t, t] }) {bytes : Nat} (ht : P.underlying t = some (.slice e))
    (hi : (P.info? e).map (fun i => (i.size, i.bytes, (i.zero.map (·.cells.size)))) = some (size, bytes, some size)) (hsz : 0 < size)
    (hs : a.eval s = v) (hown : w.ownsRow base e size v n xs) (g m c : Nat) (cs : List Value) (t' : TypeId) (hx : a.eval x = .slice (some ⟨g, 0, none⟩) m c) (hB : Blk w g cs t') (hl : cs.length = m * size) (h1 : ∀ u ∈ cs, u.oneCell' = true)
    (h63 : n + m ≤ maxLen) (hbytes : (n + m) * bytes ≤ 140737488355328) (hbase : base ≤ w.heap.size)
    (h : ∀ p cp w', w'.ownsRow base e size (.slice p (n + m) cp) (n + m) (xs ++ cs) → Keep (fun q => v.ownBlock = some q) w w' → wpList P ops Q rest (a.put o.dst (.slice p (n + m) cp)) w') : wpList P ops Q (o :: rest) a w := by
  obtain ⟨i, z, hi, hz, e1, e2, e3⟩ := info_of hi
  refine wpList_append_own w hgd s x t ho base e i z size bytes ht hi hz e1 e2 e3 hsz v n xs hs hown ⟨g, 0, none⟩ m c cs hx hl (fun j u hj => ?_) h1 h63 hbytes hbase fun v' w' k1 k2 _ => ?_
  · rw [show (⟨g, 0, none⟩ : Addr).add j = ⟨g, j, none⟩ from by unfold Addr.add; split <;> simp_all]
    rw [hB.cell]; exact hj
  · obtain ⟨p, cp, rfl, _⟩ := row_slice k1
    exact h p cp w' k1 ⟨k2.os, k2.tape, k2.output, k2.size, fun k hk hn => k2.block k hk fun e => hn e.symm⟩
def emptyB : Value := .slice none 0 0
set_option maxHeartbeats 4000000 in
theorem make_any (kb : Nat) (s : KV) (iv : Value) (L : List Nd) (w : World) (hB : Blk w kb (s.cells iv L.length) 71) (hrow : w.ownsRow (kb + 1) 90 5 iv L.length (ndCells 0 L)) (d : Nat) (name : ByteArray) (is : Bool) (hn : L.length ≤ 100000) :
    Calls Tryz.prog 47 #[.pointer (some ⟨kb, 0, none⟩), .int .i64 d, .string name, .bool is] w fun e w' => e = .returned (.int .i64 ((L.length + 1 : Nat) : Int)) ∧ ∃ iv', Blk w' kb (s.cells iv' (L.length + 1)) 71 ∧
      w'.ownsRow (kb + 1) 90 5 iv' (L.length + 1) (ndCells 0 (L ++ [⟨d, name, is, [], emptyB⟩])) ∧ Keep (fun q => q = kb ∨ iv.ownBlock = some q) w w' := by
  have hF := fresh_any kb s iv L.length w hB (by omega)
  have HF := Lib.hid hF
  clear hF
  have HROW := Lib.hid hrow
  have hlt := hB.lt
  have HAPP : Hid (ndCells 0 (L ++ [⟨d, name, is, [], emptyB⟩]) = ndCells 0 L ++ [.int .i64 (L.length + 1 : Nat), .int .i64 d, .string name, .bool is, emptyB]) := Lib.hid (by
    rw [ndCells_app, Nat.zero_add]; rfl)
  clear hB hrow
  go_enter Tryz.func47, Tryz.ntmps47
  go_upto_region 2 with (go_at_call 28; with_reducible refine Calls.mono HF.out ?_; rintro e w1 ⟨rfl, b1, k1⟩)
  have c7 : w1.cell? ⟨kb, 7, none⟩ = some iv := b1.cell 7
  have f7 := b1.frozen 7
  have hlt1 := b1.lt
  have hz1 := k1.size
  have HB1 := Lib.hid b1
  have HK1 := Lib.hid k1
  have HROW1 := Lib.hid (row_keep HROW.out k1 (fun g hg e => by omega))
  have HBP : Hid (Tryz.prog.built 90 [(0, .int .i64 ((L.length + 1 : Nat) : Int)), (1, .int .i64 d), (2, .string name), (3, .bool is)] = some #[.int .i64 ((L.length + 1 : Nat) : Int), .int .i64 d, .string name, .bool is, emptyB]) := Lib.hid (by kernel_rfl)
  clear b1 k1
  go_upto_region 3 with (first
    | (refine wpList_buildTo rfl 90 _ rfl (some 21) rfl _ (by simp only [List.map_toArray, List.map_cons, List.map_nil]; exact HBP.out) ?_)
    | (refine wpList_buildSlice_one rfl 67 90 (.tmp 21) rfl [.int .i64 ((L.length + 1 : Nat) : Int), .int .i64 d, .string name, .bool is, emptyB] rfl Tryz.underlying67 inodeInfo (by show 0 < 5; omega) (by show 5 ≤ 2 ^ 24; omega) ?_; intro w2 B2 K2)
    | (refine wpList_append_grown rfl (.tmp 16) (.tmp 22) 67 rfl Tryz.underlying67 inodeInfo (by omega) rfl (row_bel HROW1.out K2) _ 1 1 [.int .i64 ((L.length + 1 : Nat) : Int), .int .i64 d, .string name, .bool is, emptyB] 90 rfl B2.out rfl (by intro v hv; simp at hv; rcases hv with rfl | rfl | rfl | rfl | rfl <;> rfl) (by unfold maxLen; omega) (by omega) (by have := K2.size; omega) ?_; intro p3 c3 w3 R3 K3; have B3 := (HB1.out.bel K2).keep K3 (fun e => by have := own_ge HROW.out _ e; omega); have f3 := B3.frozen 7; have q3 : w3.cell? ⟨kb, 7, none⟩ = some iv := B3.cell 7; have l3 := B3.lt; have HB3 := Lib.hid B3; have HR3 := Lib.hid R3; clear B3 R3))
  have B4 : Blk (w3.setCell ⟨kb, 7, none⟩ (.slice p3 (L.length + 1) c3)) kb (s.cells (.slice p3 (L.length + 1) c3) (L.length + 1)) 71 := HB3.out.setCell (o := 7) _
  have K4 := Keep.setCell w3 kb 7 (.slice p3 (L.length + 1) c3)
  generalize w3.setCell ⟨kb, 7, none⟩ (.slice p3 (L.length + 1) c3) = w4 at *
  have HB4 := Lib.hid B4
  have HR4 := Lib.hid (row_keep HR3.out K4 (fun g hg e => by omega))
  have HK4 : Hid (Keep (fun q => q = kb ∨ iv.ownBlock = some q) w w4) := Lib.hid ((((HK1.out.mono (fun _ h => .inl h)).tr (Keep.of_bel _ K2)).tr (K3.mono (fun _ h => .inr h))).tr (K4.mono (fun _ h => .inl h)))
  clear B4 K4 K2 K3 B2 f3 q3 l3 c7 f7 hlt1 hz1 HBP
  go_wp2
  go_ret
  exact ⟨rfl, _, HB4.out, by rw [HAPP.out]; exact HR4.out, HK4.out⟩
end Go.Proofs.YtkcjafnaephjiaaGreatDoor
