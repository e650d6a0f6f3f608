/- The document's kernel: numbers, nodes made. -/
import Derived.Laws.AppendOwn
import Derived.Test.YtkcjafnaephjiaaGreatDoorPart02
import Derived.Test.YtkcjafnaephjiaaGreatDoorPart00
import Derived.Maps.Keyed
import Derived.Maps.Own
import Derived.Laws.Entries
namespace Go.Proofs.YtkcjafnaephjiaaGreatDoor
open Go.RowKit
set_option maxRecDepth 100000

/-- The document's kernel but its inodes and its last number. -/
structure KV where
  a : Int
  b : Int
  c : Int
  d : Int
  e : Int
  pv : Value
  ov : Value
  xv : Value
  tv : Value
  uv : Value
  mv : Value
def KV.cells (s : KV) (iv : Value) (last : Nat) : List Value := [.int .i64 s.a, .int .i64 s.b, .int .i64 s.c, .int .i64 s.d, .int .i64 s.e, s.pv, s.ov, iv, s.xv, s.tv, s.uv, s.mv, .int .i64 last]

set_option maxHeartbeats 4000000 in
theorem fresh_any (kb : Nat) (s : KV) (iv : Value) (n : Nat) (w : World) (hB : Blk w kb (s.cells iv n) 71) (hn : n ≤ 1000000) :
    Calls Tryz.prog 28 #[.pointer (some ⟨kb, 0, none⟩)] w fun e w' => e = .returned (.int .i64 ((n + 1 : Nat) : Int)) ∧ Blk w' kb (s.cells iv (n + 1)) 71 ∧ Keep (fun q => q = kb) w w' := by
  have c12 : w.cell? ⟨kb, 12, none⟩ = some (.int .i64 n) := hB.cell 12
  have f12 := hB.frozen 12
  have hlt := hB.lt
  have HB := Lib.hid hB
  clear hB
  go_enter Tryz.func28, Tryz.ntmps28
  go_wp2
  go_ret
  refine ⟨?_, HB.out.setCell (o := 12) _, Keep.setCell w kb 12 _⟩
  rfl

theorem inodeInfo : (Tryz.prog.info? 90).map (fun i => (i.size, i.bytes, (i.zero.map (·.cells.size)))) = some (5, 64, some 5) := by kernel_rfl
def ndCells (i : Nat) : List Nd → List Value
  | [] => []
  | n :: L => n.cells i ++ ndCells (i + 1) L
theorem ndCells_app (i : Nat) : ∀ (L M : List Nd), ndCells i (L ++ M) = ndCells i L ++ ndCells (i + L.length) M := by
  intro L
  induction L generalizing i with
  | nil => intro M; simp [ndCells]
  | cons n L ih =>
    intro M
    simp only [List.cons_append, ndCells, ih, List.length_cons, List.append_assoc]
    rw [show i + 1 + L.length = i + (L.length + 1) from by omega]
theorem ndCells_len (i : Nat) (L : List Nd) : (ndCells i L).length = L.length * 5 := by
  induction L generalizing i with
  | nil => rfl
  | cons n L ih => simp only [ndCells, List.length_append, ih, List.length_cons, Nd.cells, List.length_nil]; omega

theorem own_ge {w : World} {base : Nat} {e : TypeId} {size : Nat} {v : Value} {n : Nat} {xs : List Value} (h : w.ownsRow base e size v n xs) (q : Nat) (hq : v.ownBlock = some q) : base ≤ q := by
  rcases h.2 with ⟨rfl, _⟩ | ⟨g, cap, cur, rfl, h2, _⟩
  · cases hq
  · cases hq; exact h2
theorem wpList_append_grown {P : Program} {w : World} {base : Nat} {e : TypeId} {size : Nat} {v : Value} {n : Nat} {xs : List Value} {ops : Array Oper} {rest : List Oper} {o : Oper} {a : Act} {Q : Exit → Act → World → Prop} (hgd : o.guard = none) (s x : Operand) (t : TypeId)
    (ho : o.op = .call { callee := .builtin .append, args := #[s, x], argTypes := #[t, t] }) {bytes : Nat} (ht : P.underlying t = some (.slice e))
    (hi : (P.info? e).map (fun i => (i.size, i.bytes, (i.zero.map (·.cells.size)))) = some (size, bytes, some size)) (hsz : 0 < size)
    (hs : a.eval s = v) (hown : w.ownsRow base e size v n xs) (g m c : Nat) (cs : List Value) (t' : TypeId) (hx : a.eval x = .slice (some ⟨g, 0, none⟩) m c) (hB : Blk w g cs t') (hl : cs.length = m * size) (h1 : ∀ u ∈ cs, u.oneCell' = true)
    (h63 : n + m ≤ maxLen) (hbytes : (n + m) * bytes ≤ 140737488355328) (hbase : base ≤ w.heap.size)
    (h : ∀ p cp w', w'.ownsRow base e size (.slice p (n + m) cp) (n + m) (xs ++ cs) → Keep (fun q => v.ownBlock = some q) w w' → wpList P ops Q rest (a.put o.dst (.slice p (n + m) cp)) w') : wpList P ops Q (o :: rest) a w := by
  obtain ⟨i, z, hi, hz, e1, e2, e3⟩ := info_of hi
  refine wpList_append_own w hgd s x t ho base e i z size bytes ht hi hz e1 e2 e3 hsz v n xs hs hown ⟨g, 0, none⟩ m c cs hx hl (fun j u hj => ?_) h1 h63 hbytes hbase fun v' w' k1 k2 _ => ?_
  · rw [show (⟨g, 0, none⟩ : Addr).add j = ⟨g, j, none⟩ from by unfold Addr.add; split <;> simp_all]
    rw [hB.cell]; exact hj
  · obtain ⟨p, cp, rfl, _⟩ := row_slice k1
    exact h p cp w' k1 ⟨k2.os, k2.tape, k2.output, k2.size, fun k hk hn => k2.block k hk fun e => hn e.symm⟩
def emptyB : Value := .slice none 0 0
set_option maxHeartbeats 4000000 in
theorem make_any (kb : Nat) (s : KV) (iv : Value) (L : List Nd) (w : World) (hB : Blk w kb (s.cells iv L.length) 71) (hrow : w.ownsRow (kb + 1) 90 5 iv L.length (ndCells 0 L)) (d : Nat) (name : ByteArray) (is : Bool) (hn : L.length ≤ 100000) :
    Calls Tryz.prog 47 #[.pointer (some ⟨kb, 0, none⟩), .int .i64 d, .string name, .bool is] w fun e w' => e = .returned (.int .i64 ((L.length + 1 : Nat) : Int)) ∧ ∃ iv', Blk w' kb (s.cells iv' (L.length + 1)) 71 ∧
      w'.ownsRow (kb + 1) 90 5 iv' (L.length + 1) (ndCells 0 (L ++ [⟨d, name, is, [], emptyB⟩])) ∧ Keep (fun q => q = kb ∨ iv.ownBlock = some q) w w' := by
  have hF := fresh_any kb s iv L.length w hB (by omega)
  have HF := Lib.hid hF
  clear hF
  have HROW := Lib.hid hrow
  have hlt := hB.lt
  have HAPP : Hid (ndCells 0 (L ++ [⟨d, name, is, [], emptyB⟩]) = ndCells 0 L ++ [.int .i64 (L.length + 1 : Nat), .int .i64 d, .string name, .bool is, emptyB]) := Lib.hid (by
    rw [ndCells_app, Nat.zero_add]; rfl)
  clear hB hrow
  go_enter Tryz.func47, Tryz.ntmps47
  go_upto_region 2 with (go_at_call 28; with_reducible refine Calls.mono HF.out ?_; rintro e w1 ⟨rfl, b1, k1⟩)
  have c7 : w1.cell? ⟨kb, 7, none⟩ = some iv := b1.cell 7
  have f7 := b1.frozen 7
  have hlt1 := b1.lt
  have hz1 := k1.size
  have HB1 := Lib.hid b1
  have HK1 := Lib.hid k1
  have HROW1 := Lib.hid (row_keep HROW.out k1 (fun g hg e => by omega))
  have HBP : Hid (Tryz.prog.built 90 [(0, .int .i64 ((L.length + 1 : Nat) : Int)), (1, .int .i64 d), (2, .string name), (3, .bool is)] = some #[.int .i64 ((L.length + 1 : Nat) : Int), .int .i64 d, .string name, .bool is, emptyB]) := Lib.hid (by kernel_rfl)
  clear b1 k1
  go_upto_region 3 with (first
    | (refine wpList_buildTo rfl 90 _ rfl (some 21) rfl _ (by simp only [List.map_toArray, List.map_cons, List.map_nil]; exact HBP.out) ?_)
    | (refine wpList_buildSlice_one rfl 67 90 (.tmp 21) rfl [.int .i64 ((L.length + 1 : Nat) : Int), .int .i64 d, .string name, .bool is, emptyB] rfl Tryz.underlying67 inodeInfo (by show 0 < 5; omega) (by show 5 ≤ 2 ^ 24; omega) ?_; intro w2 B2 K2)
    | (refine wpList_append_grown rfl (.tmp 16) (.tmp 22) 67 rfl Tryz.underlying67 inodeInfo (by omega) rfl (row_bel HROW1.out K2) _ 1 1 [.int .i64 ((L.length + 1 : Nat) : Int), .int .i64 d, .string name, .bool is, emptyB] 90 rfl B2.out rfl (by intro v hv; simp at hv; rcases hv with rfl | rfl | rfl | rfl | rfl <;> rfl) (by unfold maxLen; omega) (by omega) (by have := K2.size; omega) ?_; intro p3 c3 w3 R3 K3; have B3 := (HB1.out.bel K2).keep K3 (fun e => by have := own_ge HROW.out _ e; omega); have f3 := B3.frozen 7; have q3 : w3.cell? ⟨kb, 7, none⟩ = some iv := B3.cell 7; have l3 := B3.lt; have HB3 := Lib.hid B3; have HR3 := Lib.hid R3; clear B3 R3))
  have B4 : Blk (w3.setCell ⟨kb, 7, none⟩ (.slice p3 (L.length + 1) c3)) kb (s.cells (.slice p3 (L.length + 1) c3) (L.length + 1)) 71 := HB3.out.setCell (o := 7) _
  have K4 := Keep.setCell w3 kb 7 (.slice p3 (L.length + 1) c3)
  generalize w3.setCell ⟨kb, 7, none⟩ (.slice p3 (L.length + 1) c3) = w4 at *
  have HB4 := Lib.hid B4
  have HR4 := Lib.hid (row_keep HR3.out K4 (fun g hg e => by omega))
  have HK4 : Hid (Keep (fun q => q = kb ∨ iv.ownBlock = some q) w w4) := Lib.hid ((((HK1.out.mono (fun _ h => .inl h)).tr (Keep.of_bel _ K2)).tr (K3.mono (fun _ h => .inr h))).tr (K4.mono (fun _ h => .inl h)))
  clear B4 K4 K2 K3 B2 f3 q3 l3 c7 f7 hlt1 hz1 HBP
  go_wp2
  go_ret
  exact ⟨rfl, _, HB4.out, by rw [HAPP.out]; exact HR4.out, HK4.out⟩
end Go.Proofs.YtkcjafnaephjiaaGreatDoor

/- A map's block as a list of keys with their values, in the order in which they came; no program. Keys by an encoding: integers, strings. -/
namespace Go.Proofs.YtkcjafnaephjiaaGreatDoor
open Go.RowKit Go.MapKept Go.Maps
open Go.ChangeMaps (setBlock heap_setBlock_same heap_setBlock_other)

/-- How a key of type k is written. -/
structure KeyEnc (P : Program) (k : TypeId) (α : Type) where
  kf : α → Value
  kl : α → Lit
  ok : α → Prop
  read : ∀ a, ok a → keyOf P k (kf a) = some (kl a)
  inj : ∀ a b, kf a = kf b → a = b

def intEnc {P : Program} {k : TypeId} (hk : P.underlying k = some (.int .i64)) : KeyEnc P k Int :=
  ⟨.int .i64, .int .i64, fun a => (Lit.int .i64 a).wf = true, fun _ h => keyOf_int_mk hk h, fun a b h => by injection h⟩

section
variable {P : Program} {k : TypeId} {α : Type}

/-- Block b of w is a map that holds these keys with these values, in the order in which they came. -/
def Mp (E : KeyEnc P k α) (w : World) (b : Nat) (kv : List (α × Value)) : Prop :=
  ∃ es clock, w.heap[b]? = some (.map es clock) ∧ Stamped es clock ∧ es.toList.map (fun e => (e.key, e.val)) = kv.map (fun p => (E.kf p.1, p.2)) ∧ ∀ p ∈ kv, E.ok p.1

variable {E : KeyEnc P k α} {w : World} {b : Nat} {kv : List (α × Value)}

theorem Mp.lt (h : Mp E w b kv) : b < w.heap.size := by
  obtain ⟨es, clock, hb, _⟩ := h
  exact (Array.getElem?_eq_some_iff.1 hb).1
theorem Mp.of_block {w' : World} (h : Mp E w b kv) (hb : w'.heap[b]? = w.heap[b]?) : Mp E w' b kv := by
  obtain ⟨es, clock, h1, h2⟩ := h
  exact ⟨es, clock, hb.trans h1, h2⟩
theorem Mp.bel {w' : World} (h : Mp E w b kv) (hb : Bel w w') : Mp E w' b kv := h.of_block (hb.block b h.lt)
theorem Mp.alloc (h : Mp E w b kv) (o : Obj) : Mp E (w.alloc o) b kv := h.bel (Bel.start w o)
theorem Mp.setCell {a : Addr} (h : Mp E w b kv) (v : Value) : Mp E (w.setCell a v) b kv := by
  obtain ⟨es, clock, h1, h2⟩ := h
  refine ⟨es, clock, ?_, h2⟩
  by_cases e : b = a.block
  · subst e
    simp only [World.setCell, Array.getElem?_modify, h1]
    simp
  · exact (Below.heap_setCell w a v b e).trans h1
theorem Mp.new (E : KeyEnc P k α) (w : World) : Mp E (w.alloc (.map #[] 0)) w.heap.size [] :=
  ⟨#[], 0, (heap_alloc w _).1, stamped_empty 0, rfl, fun _ h => by cases h⟩
theorem Mp.nodup (h : Mp E w b kv) : (kv.map Prod.fst).Nodup := by
  obtain ⟨es, clock, h1, ⟨_, _, h2⟩, h3, _⟩ := h
  have e : es.toList.map (·.key) = (kv.map Prod.fst).map E.kf := by
    have := congrArg (List.map Prod.fst) h3
    simpa [List.map_map, Function.comp_def] using this
  rw [e] at h2
  exact List.Pairwise.of_map E.kf (fun a b hab e => hab (congrArg E.kf e)) h2
theorem Mp.okKeys (h : Mp E w b kv) : ∀ p ∈ kv, E.ok p.1 := by
  obtain ⟨es, clock, _, _, _, h⟩ := h
  exact h

theorem keys_read {es : Array MapEntry} (h3 : es.toList.map (fun e => (e.key, e.val)) = kv.map (fun p => (E.kf p.1, p.2))) (h4 : ∀ p ∈ kv, E.ok p.1) : ∀ e ∈ es.toList, ∃ l, keyOf P k e.key = some l := by
  intro e he
  have hm : (e.key, e.val) ∈ kv.map (fun p => (E.kf p.1, p.2)) := by rw [← h3]; exact List.mem_map.2 ⟨e, he, rfl⟩
  obtain ⟨p, hp, hpe⟩ := List.mem_map.1 hm
  have : e.key = E.kf p.1 := by injection hpe with h1 _; exact h1.symm
  exact ⟨_, by rw [this]; exact E.read _ (h4 p hp)⟩

/-- Where the block's entries hold a key, and what m[a] finds. -/
theorem Mp.find (K : Keyed P k) (h : Mp E w b kv) (a : α) (ha : E.ok a) : ∃ es clock, w.heap[b]? = some (.map es clock) ∧ Stamped es clock ∧ es.toList.map (fun e => (e.key, e.val)) = kv.map (fun p => (E.kf p.1, p.2)) ∧
    ((a ∉ kv.map Prod.fst ∧ (∀ e ∈ es.toList, e.key ≠ E.kf a) ∧ ∀ w, (Instr.findKey k (E.kf a) es.toList).run P w = .ok none w) ∨
     ∃ j v, (kv.map Prod.fst)[j]? = some a ∧ kv[j]? = some (a, v) ∧ (∃ e, es[j]? = some e ∧ e.key = E.kf a) ∧ ∀ w, (Instr.findKey k (E.kf a) es.toList).run P w = .ok (some (j, v)) w) := by
  have hnod := h.nodup
  obtain ⟨es, clock, h1, h2, h3, h4⟩ := h
  refine ⟨es, clock, h1, h2, h3, ?_⟩
  have hk := keys_read h3 h4
  have key_of : ∀ (j : Nat) (e : MapEntry), es[j]? = some e → ∃ p, kv[j]? = some p ∧ e.key = E.kf p.1 ∧ e.val = p.2 := by
    intro j e he
    have h5 : (es.toList.map (fun e => (e.key, e.val)))[j]? = some (e.key, e.val) := by
      rw [List.getElem?_map, Array.getElem?_toList, he]; rfl
    rw [h3, List.getElem?_map] at h5
    obtain ⟨p, hp, hpe⟩ := Option.map_eq_some_iff.1 h5
    injection hpe with e1 e2
    exact ⟨p, hp, e1.symm, e2.symm⟩
  rcases K.find w (E.read a ha) es.toList hk with ⟨h5, h6⟩ | ⟨j, e, h5, h6, h7⟩
  · left
    refine ⟨?_, h6, fun w' => ?_⟩
    · intro hm
      obtain ⟨p, hp, rfl⟩ := List.mem_map.1 hm
      have hm : (E.kf p.1, p.2) ∈ es.toList.map (fun e => (e.key, e.val)) := by rw [h3]; exact List.mem_map.2 ⟨p, hp, rfl⟩
      obtain ⟨e, he, hee⟩ := List.mem_map.1 hm
      injection hee with e1 _
      exact h6 e he e1
    · rcases K.find w' (E.read a ha) es.toList hk with ⟨h5', _⟩ | ⟨j, e, _, h6', h7'⟩
      · exact h5'
      · exact absurd h7' (h6 e (List.mem_of_getElem? h6'))
  · right
    rw [Array.getElem?_toList] at h6
    obtain ⟨p, hp, hpk, hpv⟩ := key_of j e h6
    have hpa : p.1 = a := E.inj _ _ (hpk.symm.trans h7)
    refine ⟨j, e.val, by rw [List.getElem?_map, hp]; simp [hpa], by rw [hp, hpv, ← hpa], ⟨e, h6, h7⟩, fun w' => ?_⟩
    rcases K.find w' (E.read a ha) es.toList hk with ⟨_, h6'⟩ | ⟨j', e', h5', h6', h7'⟩
    · exact absurd h7 (h6' e (by rw [← Array.getElem?_toList] at h6; exact List.mem_of_getElem? h6))
    · rw [Array.getElem?_toList] at h6'
      obtain ⟨p', hp', hpk', _⟩ := key_of j' e' h6'
      have hpa' : p'.1 = a := E.inj _ _ (hpk'.symm.trans h7')
      have hj : j' = j := by
        have g1 : (kv.map Prod.fst)[j']? = some a := by rw [List.getElem?_map, hp']; simp [hpa']
        have g2 : (kv.map Prod.fst)[j]? = some a := by rw [List.getElem?_map, hp]; simp [hpa]
        have l1 := (List.getElem?_eq_some_iff.1 g1).1
        exact (List.getElem?_inj l1 hnod).1 (g1.trans g2.symm)
      subst hj
      rw [h6] at h6'
      cases h6'
      exact h5'

variable [DecidableEq α]
/-- The list behind m[a] = v. -/
def putKv (kv : List (α × Value)) (a : α) (v : Value) : List (α × Value) :=
  if a ∈ kv.map Prod.fst then kv.map (fun p => if p.1 = a then (a, v) else p) else kv ++ [(a, v)]
def getKv (kv : List (α × Value)) (a : α) : Option Value := (kv.find? fun p => decide (p.1 = a)).map Prod.snd

theorem getKv_none {a : α} (h : a ∉ kv.map Prod.fst) : getKv kv a = none := by
  unfold getKv
  rw [Option.map_eq_none_iff, List.find?_eq_none]
  intro p hp
  simp only [decide_eq_true_eq]
  rintro rfl
  exact h (List.mem_map.2 ⟨p, hp, rfl⟩)
theorem getKv_some {a : α} {v : Value} (hn : (kv.map Prod.fst).Nodup) (h : (a, v) ∈ kv) : getKv kv a = some v := by
  induction kv with
  | nil => cases h
  | cons p r ih =>
    simp only [List.map_cons, List.nodup_cons] at hn
    unfold getKv
    rw [List.find?_cons]
    by_cases hp : p.1 = a
    · simp only [hp, decide_true, Option.map_some]
      rcases List.mem_cons.1 h with rfl | h
      · rfl
      · exact absurd (List.mem_map.2 ⟨(a, v), h, hp.symm⟩) hn.1
    · simp only [hp, decide_false]
      rcases List.mem_cons.1 h with rfl | h
      · exact absurd rfl hp
      · exact ih hn.2 h

variable {t e : TypeId}

/-- m[a], with and without ok. -/
theorem Mp.lookup (K : Keyed P k) (ht : P.underlying t = some (.map k e)) (h : Mp E w b kv) (a : α) (ha : E.ok a) (c : Bool) {z : Value} (hz : (zeroValue e).run P w = .ok z w) :
    (Instr.lookup t (.map (some b)) (E.kf a) c).run P w = .ok (if c then .tuple #[(getKv kv a).getD z, .bool (getKv kv a).isSome] else (getKv kv a).getD z) w := by
  have hnod := h.nodup
  obtain ⟨es, clock, h1, h2, h3, h4⟩ := h.find K a ha
  rcases h4 with ⟨hn, _, hr⟩ | ⟨j, v, hj, hjv, _, hr⟩
  · rw [getKv_none hn]
    simp [Instr.lookup, run_underlying ht, MapKept.run_getObj_map h1, K.check w _ (E.read a ha), hr, hz, Result.andThen]
  · rw [getKv_some hnod (List.mem_of_getElem? hjv)]
    simp [Instr.lookup, run_underlying ht, MapKept.run_getObj_map h1, K.check w _ (E.read a ha), hr, Result.andThen]

/-- m[a] = v. -/
theorem Mp.update (K : Keyed P k) (ht : P.underlying t = some (.map k e)) (h : Mp E w b kv) (a : α) (ha : E.ok a) (v : Value) :
    ∃ es' clock', (Instr.mapUpdate t (.map (some b)) (E.kf a) v).run P w = .ok () (setBlock w b (.map es' clock')) ∧ Mp E (setBlock w b (.map es' clock')) b (putKv kv a v) := by
  have hnod := h.nodup
  have hok := h.okKeys
  obtain ⟨es, clock, h1, h2, h3, h4⟩ := h.find K a ha
  rcases h4 with ⟨hn, hne, hr⟩ | ⟨j, v0, hj, hjv, ⟨e0, he0, hek⟩, hr⟩
  · refine ⟨es.push ⟨E.kf a, v, clock⟩, clock + 1, ?_, _, _, heap_setBlock_same h1 _, stamped_push h2 hne, ?_, ?_⟩
    · simp [Instr.mapUpdate, run_underlying ht, MapKept.run_getObj_map h1, K.check w false (E.read a ha), hr, MapKept.run_setObj_map _ h1, Result.andThen, setBlock]
    · simp [putKv, hn, h3]
    · intro p hp
      simp only [putKv, hn, if_false, List.mem_append, List.mem_singleton] at hp
      rcases hp with hp | rfl
      · exact hok p hp
      · exact ha
  · have hm : a ∈ kv.map Prod.fst := List.mem_of_getElem? hj
    refine ⟨es.modify j fun x => { x with key := E.kf a, val := v }, clock, ?_, _, _, heap_setBlock_same h1 _, stamped_modify h2 j _ (fun _ _ => rfl) (fun x _ hx => by rw [he0] at hx; cases hx; exact hek.symm), ?_, ?_⟩
    · simp [Instr.mapUpdate, run_underlying ht, MapKept.run_getObj_map h1, K.check w false (E.read a ha), hr, he0, hek, K.stays w (E.read a ha), MapKept.run_setObj_map _ h1, Result.andThen, setBlock]
    · have hj' : j < kv.length := (List.getElem?_eq_some_iff.1 hjv).1
      apply List.ext_getElem?
      intro i
      have h3i : (es.toList.map (fun e => (e.key, e.val)))[i]? = (kv.map (fun p => (E.kf p.1, p.2)))[i]? := by rw [h3]
      simp only [List.getElem?_map, Array.getElem?_toList] at h3i
      simp only [putKv, hm, if_true, List.getElem?_map, Array.getElem?_toList, Array.getElem?_modify, Option.map_map]
      by_cases hij : j = i
      · subst hij
        simp only [if_true, he0, hjv, Option.map_some, Function.comp_def]
      · simp only [hij, if_false]
        rw [h3i]
        cases hki : kv[i]? with
        | none => rfl
        | some p =>
          have hpa : ¬ p.1 = a := by
            intro e
            have g1 : (kv.map Prod.fst)[i]? = some a := by rw [List.getElem?_map, hki]; simp [e]
            have l1 := (List.getElem?_eq_some_iff.1 hj).1
            exact hij ((List.getElem?_inj l1 hnod).1 (hj.trans g1.symm))
          simp [hpa]
    · intro p hp
      simp only [putKv, hm, if_true, List.mem_map] at hp
      obtain ⟨q, hq, rfl⟩ := hp
      by_cases hqa : q.1 = a
      · simpa [hqa] using ha
      · simpa [hqa] using hok q hq

theorem putKv_keys (kv : List (α × Value)) (a : α) (v : Value) : (putKv kv a v).map Prod.fst = if a ∈ kv.map Prod.fst then kv.map Prod.fst else kv.map Prod.fst ++ [a] := by
  unfold putKv
  split
  · rw [List.map_map]
    apply List.map_congr_left
    intro p _
    by_cases h : p.1 = a <;> simp [h]
  · simp
theorem getKv_putKv_same (kv : List (α × Value)) (a : α) (v : Value) : getKv (putKv kv a v) a = some v := by
  unfold putKv
  split
  · rename_i hm
    unfold getKv
    induction kv with
    | nil => cases hm
    | cons p r ih =>
      by_cases hp : p.1 = a
      · simp [List.find?_cons, hp]
      · simp only [List.map_cons, List.mem_cons] at hm
        rcases hm with e | hm
        · exact absurd e.symm hp
        · simp only [List.map_cons, hp, if_false, List.find?_cons, decide_false]
          exact ih hm
  · rename_i hm
    unfold getKv
    rw [List.find?_append]
    have : (kv.find? fun p => decide (p.1 = a)) = none := by
      rw [List.find?_eq_none]
      intro p hp
      simp only [decide_eq_true_eq]
      rintro rfl
      exact hm (List.mem_map.2 ⟨p, hp, rfl⟩)
    simp [this]
theorem getKv_putKv_other (kv : List (α × Value)) {a c : α} (h : c ≠ a) (v : Value) : getKv (putKv kv a v) c = getKv kv c := by
  unfold putKv
  split
  · unfold getKv
    induction kv with
    | nil => rfl
    | cons p r ih =>
      by_cases hp : p.1 = a
      · have h1 : ¬ a = c := fun e => h e.symm
        by_cases hm : a ∈ r.map Prod.fst
        · simp only [List.map_cons, hp, if_true, List.find?_cons, h1, decide_false]; exact ih hm
        · simp only [List.map_cons, hp, if_true, List.find?_cons, h1, decide_false]
          congr 1
          have : r.map (fun p => if p.1 = a then (a, v) else p) = r := by
            conv => rhs; rw [← List.map_id r]
            apply List.map_congr_left
            intro q hq
            have : ¬ q.1 = a := fun e => hm (List.mem_map.2 ⟨q, hq, e⟩)
            simp [this]
          rw [this]
      · by_cases hc : p.1 = c
        · have h1 : ¬ c = a := h
          simp [List.find?_cons, hc, h1]
        · rename_i hm
          simp only [List.map_cons, List.mem_cons] at hm
          rcases hm with e | hm
          · exact absurd e.symm hp
          · simp only [List.map_cons, hp, if_false, List.find?_cons, hc, decide_false]
            exact ih hm
  · unfold getKv
    rw [List.find?_append]
    have h1 : ¬ a = c := fun e => h e.symm
    simp [h1]
end
end Go.Proofs.YtkcjafnaephjiaaGreatDoor
