/- A map's block as a list of keys with their values, in the order in which they came; no program. Keys by an encoding: integers, strings. -/
import Derived.Maps.Keyed
import Derived.Maps.Own
import Derived.Laws.Entries
import Derived.Test.YtkcjafnaephjiaaGreatDoorPart00
import Derived.Test.YtkcjafnaephjiaaGreatDoorPart03
import Derived.Test.YtkcjafnaephjiaaGreatDoorPart01
import Derived.Test.YtkcjafnaephjiaaGreatDoorPart04
import Derived.Test.YtkcjafnaephjiaaGreatDoorChecked
import Derived.Deep.MidRow
import Derived.Deep.QuietTactic
import Derived.BigQuiet
import Derived.Lib.Hide
set_option linter.unusedVariables false
set_option linter.unusedSimpArgs false
namespace Go.Proofs.YtkcjafnaephjiaaGreatDoor
open Go.RowKit Go.MapKept Go.Maps
open Go.ChangeMaps (setBlock heap_setBlock_same heap_setBlock_other)

/-- How a key of type k is written. -/
structure KeyEnc (P : Program) (k : TypeId) (α : Type) where
  kf : α → Value
  kl : α → Lit
  ok : α → Prop
  read : ∀ a, ok a → keyOf P k (kf a) = some (kl a)
  inj : ∀ a b, kf a = kf b → a = b

def intEnc {P : Program} {k : TypeId} (hk : P.underlying k = some (.int .i64)) : KeyEnc P k Int :=
  ⟨.int .i64, .int .i64, fun a => (Lit.int .i64 a).wf = true, fun _ h => keyOf_int_mk hk h, fun a b h => by injection h⟩

section
variable {P : Program} {k : TypeId} {α : Type}

/-- Block b of w is a map that holds these keys with these values, in the order in which they came. -/
def Mp (E : KeyEnc P k α) (w : World) (b : Nat) (kv : List (α × Value)) : Prop :=
  ∃ es clock, w.heap[b]? = some (.map es clock) ∧ Stamped es clock ∧ es.toList.map (fun e => (e.key, e.val)) = kv.map (fun p => (E.kf p.1, p.2)) ∧ ∀ p ∈ kv, E.ok p.1

variable {E : KeyEnc P k α} {w : World} {b : Nat} {kv : List (α × Value)}

theorem Mp.lt (h : Mp E w b kv) : b < w.heap.size := by
  obtain ⟨es, clock, hb, _⟩ := h
  exact (Array.getElem?_eq_some_iff.1 hb).1
theorem Mp.of_block {w' : World} (h : Mp E w b kv) (hb : w'.heap[b]? = w.heap[b]?) : Mp E w' b kv := by
  obtain ⟨es, clock, h1, h2⟩ := h
  exact ⟨es, clock, hb.trans h1, h2⟩
theorem Mp.bel {w' : World} (h : Mp E w b kv) (hb : Bel w w') : Mp E w' b kv := h.of_block (hb.block b h.lt)
theorem Mp.alloc (h : Mp E w b kv) (o : Obj) : Mp E (w.alloc o) b kv := h.bel (Bel.start w o)
theorem Mp.setCell {a : Addr} (h : Mp E w b kv) (v : Value) : Mp E (w.setCell a v) b kv := by
  obtain ⟨es, clock, h1, h2⟩ := h
  refine ⟨es, clock, ?_, h2⟩
  by_cases e : b = a.block
  · subst e
    simp only [World.setCell, Array.getElem?_modify, h1]
    simp
  · exact (Below.heap_setCell w a v b e).trans h1
theorem Mp.new (E : KeyEnc P k α) (w : World) : Mp E (w.alloc (.map #[] 0)) w.heap.size [] :=
  ⟨#[], 0, (heap_alloc w _).1, stamped_empty 0, rfl, fun _ h => by cases h⟩
theorem Mp.nodup (h : Mp E w b kv) : (kv.map Prod.fst).Nodup := by
  obtain ⟨es, clock, h1, ⟨_, _, h2⟩, h3, _⟩ := h
  have e : es.toList.map (·.key) = (kv.map Prod.fst).map E.kf := by
    have := congrArg (List.map Prod.fst) h3
    simpa [List.map_map, Function.comp_def] using this
  rw [e] at h2
  exact List.Pairwise.of_map E.kf (fun a b hab e => hab (congrArg E.kf e)) h2
theorem Mp.okKeys (h : Mp E w b kv) : ∀ p ∈ kv, E.ok p.1 := by
  obtain ⟨es, clock, _, _, _, h⟩ := h
  exact h

theorem keys_read {es : Array MapEntry} (h3 : es.toList.map (fun e => (e.key, e.val)) = kv.map (fun p => (E.kf p.1, p.2))) (h4 : ∀ p ∈ kv, E.ok p.1) : ∀ e ∈ es.toList, ∃ l, keyOf P k e.key = some l := by
  intro e he
  have hm : (e.key, e.val) ∈ kv.map (fun p => (E.kf p.1, p.2)) := by rw [← h3]; exact List.mem_map.2 ⟨e, he, rfl⟩
  obtain ⟨p, hp, hpe⟩ := List.mem_map.1 hm
  have : e.key = E.kf p.1 := by injection hpe with h1 _; exact h1.symm
  exact ⟨_, by rw [this]; exact E.read _ (h4 p hp)⟩

/-- Where the block's entries hold a key, and what m[a] finds. -/
theorem Mp.find (K : Keyed P k) (h : Mp E w b kv) (a : α) (ha : E.ok a) : ∃ es clock, w.heap[b]? = some (.map es clock) ∧ Stamped es clock ∧ es.toList.map (fun e => (e.key, e.val)) = kv.map (fun p => (E.kf p.1, p.2)) ∧
    ((a ∉ kv.map Prod.fst ∧ (∀ e ∈ es.toList, e.key ≠ E.kf a) ∧ ∀ w, (Instr.findKey k (E.kf a) es.toList).run P w = .ok none w) ∨
     ∃ j v, (kv.map Prod.fst)[j]? = some a ∧ kv[j]? = some (a, v) ∧ (∃ e, es[j]? = some e ∧ e.key = E.kf a) ∧ ∀ w, (Instr.findKey k (E.kf a) es.toList).run P w = .ok (some (j, v)) w) := by
  have hnod := h.nodup
  obtain ⟨es, clock, h1, h2, h3, h4⟩ := h
  refine ⟨es, clock, h1, h2, h3, ?_⟩
  have hk := keys_read h3 h4
  have key_of : ∀ (j : Nat) (e : MapEntry), es[j]? = some e → ∃ p, kv[j]? = some p ∧ e.key = E.kf p.1 ∧ e.val = p.2 := by
    intro j e he
    have h5 : (es.toList.map (fun e => (e.key, e.val)))[j]? = some (e.key, e.val) := by
      rw [List.getElem?_map, Array.getElem?_toList, he]; rfl
    rw [h3, List.getElem?_map] at h5
    obtain ⟨p, hp, hpe⟩ := Option.map_eq_some_iff.1 h5
    injection hpe with e1 e2
    exact ⟨p, hp, e1.symm, e2.symm⟩
  rcases K.find w (E.read a ha) es.toList hk with ⟨h5, h6⟩ | ⟨j, e, h5, h6, h7⟩
  · left
    refine ⟨?_, h6, fun w' => ?_⟩
    · intro hm
      obtain ⟨p, hp, rfl⟩ := List.mem_map.1 hm
      have hm : (E.kf p.1, p.2) ∈ es.toList.map (fun e => (e.key, e.val)) := by rw [h3]; exact List.mem_map.2 ⟨p, hp, rfl⟩
      obtain ⟨e, he, hee⟩ := List.mem_map.1 hm
      injection hee with e1 _
      exact h6 e he e1
    · rcases K.find w' (E.read a ha) es.toList hk with ⟨h5', _⟩ | ⟨j, e, _, h6', h7'⟩
      · exact h5'
      · exact absurd h7' (h6 e (List.mem_of_getElem? h6'))
  · right
    rw [Array.getElem?_toList] at h6
    obtain ⟨p, hp, hpk, hpv⟩ := key_of j e h6
    have hpa : p.1 = a := E.inj _ _ (hpk.symm.trans h7)
    refine ⟨j, e.val, by rw [List.getElem?_map, hp]; simp [hpa], by rw [hp, hpv, ← hpa], ⟨e, h6, h7⟩, fun w' => ?_⟩
    rcases K.find w' (E.read a ha) es.toList hk with ⟨_, h6'⟩ | ⟨j', e', h5', h6', h7'⟩
    · exact absurd h7 (h6' e (by rw [← Array.getElem?_toList] at h6; exact List.mem_of_getElem? h6))
    · rw [Array.getElem?_toList] at h6'
      obtain ⟨p', hp', hpk', _⟩ := key_of j' e' h6'
      have hpa' : p'.1 = a := E.inj _ _ (hpk'.symm.trans h7')
      have hj : j' = j := by
        have g1 : (kv.map Prod.fst)[j']? = some a := by rw [List.getElem?_map, hp']; simp [hpa']
        have g2 : (kv.map Prod.fst)[j]? = some a := by rw [List.getElem?_map, hp]; simp [hpa]
        have l1 := (List.getElem?_eq_some_iff.1 g1).1
        exact (List.getElem?_inj l1 hnod).1 (g1.trans g2.symm)
      subst hj
      rw [h6] at h6'
      cases h6'
      exact h5'

variable [DecidableEq α]
/-- The list behind m[a] = v. -/
def putKv (kv : List (α × Value)) (a : α) (v : Value) : List (α × Value) :=
  if a ∈ kv.map Prod.fst then kv.map (fun p => if p.1 = a then (a, v) else p) else kv ++ [(a, v)]
def getKv (kv : List (α × Value)) (a : α) : Option Value := (kv.find? fun p => decide (p.1 = a)).map Prod.snd

theorem getKv_none {a : α} (h : a ∉ kv.map Prod.fst) : getKv kv a = none := by
  unfold getKv
  rw [Option.map_eq_none_iff, List.find?_eq_none]
  intro p hp
  simp only [decide_eq_true_eq]
  rintro rfl
  exact h (List.mem_map.2 ⟨p, hp, rfl⟩)
theorem getKv_some {a : α} {v : Value} (hn : (kv.map Prod.fst).Nodup) (h : (a, v) ∈ kv) : getKv kv a = some v := by
  induction kv with
  | nil => cases h
  | cons p r ih =>
    simp only [List.map_cons, List.nodup_cons] at hn
    unfold getKv
    rw [List.find?_cons]
    by_cases hp : p.1 = a
    · simp only [hp, decide_true, Option.map_some]
      rcases List.mem_cons.1 h with rfl | h
      · rfl
      · exact absurd (List.mem_map.2 ⟨(a, v), h, hp.symm⟩) hn.1
    · simp only [hp, decide_false]
      rcases List.mem_cons.1 h with rfl | h
      · exact absurd rfl hp
      · exact ih hn.2 h

variable {t e : TypeId}

/-- m[a], with and without ok. -/
theorem Mp.lookup (K : Keyed P k) (ht : P.underlying t = some (.map k e)) (h : Mp E w b kv) (a : α) (ha : E.ok a) (c : Bool) {z : Value} (hz : (zeroValue e).run P w = .ok z w) :
    (Instr.lookup t (.map (some b)) (E.kf a) c).run P w = .ok (if c then .tuple #[(getKv kv a).getD z, .bool (getKv kv a).isSome] else (getKv kv a).getD z) w := by
  have hnod := h.nodup
  obtain ⟨es, clock, h1, h2, h3, h4⟩ := h.find K a ha
  rcases h4 with ⟨hn, _, hr⟩ | ⟨j, v, hj, hjv, _, hr⟩
  · rw [getKv_none hn]
    simp [Instr.lookup, run_underlying ht, MapKept.run_getObj_map h1, K.check w _ (E.read a ha), hr, hz, Result.andThen]
  · rw [getKv_some hnod (List.mem_of_getElem? hjv)]
    simp [Instr.lookup, run_underlying ht, MapKept.run_getObj_map h1, K.check w _ (E.read a ha), hr, Result.andThen]

/-- m[a] = v. -/
theorem Mp.update (K : Keyed P k) (ht : P.underlying t = some (.map k e)) (h : Mp E w b kv) (a : α) (ha : E.ok a) (v : Value) :
    ∃ es' clock', (Instr.mapUpdate t (.map (some b)) (E.kf a) v).run P w = .ok () (setBlock w b (.map es' clock')) ∧ Mp E (setBlock w b (.map es' clock')) b (putKv kv a v) := by
  have hnod := h.nodup
  have hok := h.okKeys
  obtain ⟨es, clock, h1, h2, h3, h4⟩ := h.find K a ha
  rcases h4 with ⟨hn, hne, hr⟩ | ⟨j, v0, hj, hjv, ⟨e0, he0, hek⟩, hr⟩
  · refine ⟨es.push ⟨E.kf a, v, clock⟩, clock + 1, ?_, _, _, heap_setBlock_same h1 _, stamped_push h2 hne, ?_, ?_⟩
    · simp [Instr.mapUpdate, run_underlying ht, MapKept.run_getObj_map h1, K.check w false (E.read a ha), hr, MapKept.run_setObj_map _ h1, Result.andThen, setBlock]
    · simp [putKv, hn, h3]
    · intro p hp
      simp only [putKv, hn, if_false, List.mem_append, List.mem_singleton] at hp
      rcases hp with hp | rfl
      · exact hok p hp
      · exact ha
  · have hm : a ∈ kv.map Prod.fst := List.mem_of_getElem? hj
    refine ⟨es.modify j fun x => { x with key := E.kf a, val := v }, clock, ?_, _, _, heap_setBlock_same h1 _, stamped_modify h2 j _ (fun _ _ => rfl) (fun x _ hx => by rw [he0] at hx; cases hx; exact hek.symm), ?_, ?_⟩
    · simp [Instr.mapUpdate, run_underlying ht, MapKept.run_getObj_map h1, K.check w false (E.read a ha), hr, he0, hek, K.stays w (E.read a ha), MapKept.run_setObj_map _ h1, Result.andThen, setBlock]
    · have hj' : j < kv.length := (List.getElem?_eq_some_iff.1 hjv).1
      apply List.ext_getElem?
      intro i
      have h3i : (es.toList.map (fun e => (e.key, e.val)))[i]? = (kv.map (fun p => (E.kf p.1, p.2)))[i]? := by rw [h3]
      simp only [List.getElem?_map, Array.getElem?_toList] at h3i
      simp only [putKv, hm, if_true, List.getElem?_map, Array.getElem?_toList, Array.getElem?_modify, Option.map_map]
      by_cases hij : j = i
      · subst hij
        simp only [if_true, he0, hjv, Option.map_some, Function.comp_def]
      · simp only [hij, if_false]
        rw [h3i]
        cases hki : kv[i]? with
        | none => rfl
        | some p =>
          have hpa : ¬ p.1 = a := by
            intro e
            have g1 : (kv.map Prod.fst)[i]? = some a := by rw [List.getElem?_map, hki]; simp [e]
            have l1 := (List.getElem?_eq_some_iff.1 hj).1
            exact hij ((List.getElem?_inj l1 hnod).1 (hj.trans g1.symm))
          simp [hpa]
    · intro p hp
      simp only [putKv, hm, if_true, List.mem_map] at hp
      obtain ⟨q, hq, rfl⟩ := hp
      by_cases hqa : q.1 = a
      · simpa [hqa] using ha
      · simpa [hqa] using hok q hq

theorem putKv_keys (kv : List (α × Value)) (a : α) (v : Value) : (putKv kv a v).map Prod.fst = if a ∈ kv.map Prod.fst then kv.map Prod.fst else kv.map Prod.fst ++ [a] := by
  unfold putKv
  split
  · rw [List.map_map]
    apply List.map_congr_left
    intro p _
    by_cases h : p.1 = a <;> simp [h]
  · simp
theorem getKv_putKv_same (kv : List (α × Value)) (a : α) (v : Value) : getKv (putKv kv a v) a = some v := by
  unfold putKv
  split
  · rename_i hm
    unfold getKv
    induction kv with
    | nil => cases hm
    | cons p r ih =>
      by_cases hp : p.1 = a
      · simp [List.find?_cons, hp]
      · simp only [List.map_cons, List.mem_cons] at hm
        rcases hm with e | hm
        · exact absurd e.symm hp
        · simp only [List.map_cons, hp, if_false, List.find?_cons, decide_false]
          exact ih hm
  · rename_i hm
    unfold getKv
    rw [List.find?_append]
    have : (kv.find? fun p => decide (p.1 = a)) = none := by
      rw [List.find?_eq_none]
      intro p hp
      simp only [decide_eq_true_eq]
      rintro rfl
      exact hm (List.mem_map.2 ⟨p, hp, rfl⟩)
    simp [this]
theorem getKv_putKv_other (kv : List (α × Value)) {a c : α} (h : c ≠ a) (v : Value) : getKv (putKv kv a v) c = getKv kv c := by
  unfold putKv
  split
  · unfold getKv
    induction kv with
    | nil => rfl
    | cons p r ih =>
      by_cases hp : p.1 = a
      · have h1 : ¬ a = c := fun e => h e.symm
        by_cases hm : a ∈ r.map Prod.fst
        · simp only [List.map_cons, hp, if_true, List.find?_cons, h1, decide_false]; exact ih hm
        · simp only [List.map_cons, hp, if_true, List.find?_cons, h1, decide_false]
          congr 1
          have : r.map (fun p => if p.1 = a then (a, v) else p) = r := by
            conv => rhs; rw [← List.map_id r]
            apply List.map_congr_left
            intro q hq
            have : ¬ q.1 = a := fun e => hm (List.mem_map.2 ⟨q, hq, e⟩)
            simp [this]
          rw [this]
      · by_cases hc : p.1 = c
        · have h1 : ¬ c = a := h
          simp [List.find?_cons, hc, h1]
        · rename_i hm
          simp only [List.map_cons, List.mem_cons] at hm
          rcases hm with e | hm
          · exact absurd e.symm hp
          · simp only [List.map_cons, hp, if_false, List.find?_cons, hc, decide_false]
            exact ih hm
  · unfold getKv
    rw [List.find?_append]
    have h1 : ¬ a = c := fun e => h e.symm
    simp [h1]
end
end Go.Proofs.YtkcjafnaephjiaaGreatDoor

/- The program's tree of files, in memory. -/
namespace Go.Proofs.YtkcjafnaephjiaaGreatDoor
open Go.RowKit Go.MapKept Go.Maps
set_option maxRecDepth 100000

def strEnc {P : Program} {k : TypeId} (hk : P.underlying k = some .string) : KeyEnc P k ByteArray :=
  ⟨.string, fun a => .string a.data.toList, fun a => a.size ≤ maxLen, fun _ h => WideMaps.keyOf_string_mk hk h, fun a b h => by injection h⟩
noncomputable def keyS : KeyEnc Tryz.prog 9 ByteArray := strEnc Tryz.underlying9
theorem keyedS : Keyed Tryz.prog 9 := string_keyed Tryz.underlying9

/-- A slice of bytes at a block's head. -/
def Rw (w : World) (v : Value) (L : List Int) : Prop := (∀ x ∈ L, 0 ≤ x ∧ x ≤ 255) ∧
  (v = .slice none 0 0 ∧ L = [] ∨ ∃ g cap cur, v = .slice (some ⟨g, 0, none⟩) L.length cap ∧ Blk w g cur 5 ∧ L.length ≤ cap ∧ cap ≤ cur.length ∧ cap ≤ maxLen ∧ cur.take L.length = L.map (Value.int .u8))
theorem Rw.keep {S : Nat → Prop} {w w' : World} {v : Value} {L : List Int} (h : Rw w v L) (k : Keep S w w') (hs : ∀ g, v.ownBlock = some g → ¬ S g) : Rw w' v L := by
  refine ⟨h.1, ?_⟩
  rcases h.2 with h2 | ⟨g, cap, cur, rfl, hb, h3⟩
  · exact .inl h2
  · exact .inr ⟨g, cap, cur, rfl, hb.keep k (hs g rfl), h3⟩
theorem Rw.bel {w w' : World} {v : Value} {L : List Int} (h : Rw w v L) (k : Bel w w') : Rw w' v L := h.keep (Keep.of_bel (fun _ => False) k) (fun _ _ h => h)
theorem Rw.lt {w : World} {v : Value} {L : List Int} (h : Rw w v L) {g : Nat} (hg : v.ownBlock = some g) : g < w.heap.size ∧ ∃ cur, Blk w g cur 5 := by
  rcases h.2 with ⟨rfl, _⟩ | ⟨g', cap, cur, rfl, hb, _⟩
  · cases hg
  · cases hg; exact ⟨hb.lt, cur, hb⟩
theorem Rw.slice {w : World} {v : Value} {L : List Int} (h : Rw w v L) : ∃ p cap, v = .slice p L.length cap ∧ L.length ≤ cap ∧ cap ≤ maxLen ∧ (p = none → L = [] ∧ cap = 0) := by
  rcases h.2 with ⟨rfl, rfl⟩ | ⟨g, cap, cur, rfl, hb, h1, _, h2, _⟩
  · exact ⟨none, 0, rfl, Nat.le_refl _, Nat.zero_le _, fun _ => ⟨rfl, rfl⟩⟩
  · exact ⟨_, cap, rfl, h1, h2, fun e => by cases e⟩
theorem Rw.cells {w : World} {v : Value} {L : List Int} (h : Rw w v L) {a : Addr} {n cap : Nat} (hv : v = .slice (some a) n cap) : ∃ g, a = ⟨g, 0, none⟩ ∧ ∀ j u, (L.map (Value.int .u8))[j]? = some u → w.cell? ⟨g, j, none⟩ = some u := by
  rcases h.2 with ⟨rfl, _⟩ | ⟨g, cap', cur, rfl, hb, h1, h2, _, h3⟩
  · cases hv
  · cases hv
    refine ⟨g, rfl, fun j u hj => ?_⟩
    rw [hb.cell, ← hj, ← h3, List.getElem?_take]
    have := (List.getElem?_eq_some_iff.1 hj).1
    rw [if_pos (by simpa using this)]
theorem Blk.ne {w : World} {a b : Nat} {c d : List Value} {t u : TypeId} (h : Blk w a c t) (k : Blk w b d u) (hn : t ≠ u) : a ≠ b := by
  rintro rfl
  unfold Blk at h k
  rw [h] at k
  injection k with k
  injection k with _ k
  exact hn k
theorem Blk.ne_map {P : Program} {k : TypeId} {α : Type} {E : KeyEnc P k α} {w : World} {a b : Nat} {c : List Value} {t : TypeId} {kv : List (α × Value)} (h : Blk w a c t) (m : Mp E w b kv) : a ≠ b := by
  rintro rfl
  obtain ⟨es, clock, hb, _⟩ := m
  unfold Blk at h
  rw [h] at hb
  injection hb with hb
  cases hb

/-- An inode of the program; its number is its place and one. -/
structure Pn where
  par : Nat
  name : ByteArray
  dir : Bool
  byt : List Int
  bv : Value
  obj : Int
  gone : Bool
/-- Where the inodes lie, by their numbers, and the directories' maps. -/
structure Adr where
  nb : Nat → Nat
  mb : Nat → Nat
def Adr.at_ (A : Adr) (n : Nat) : Option Addr := if n = 0 then none else some ⟨A.nb n, 0, none⟩
def Adr.ptr (A : Adr) (n : Nat) : Value := .pointer (A.at_ n)
def Pn.map (A : Adr) (i : Nat) (n : Pn) : Option Nat := if n.dir then some (A.mb i) else none
def Pn.cells (A : Adr) (i : Nat) (n : Pn) : List Value := [.string n.name, A.ptr n.par, .map (n.map A i), n.bv, .int .i64 n.obj, .bool n.gone]
/-- As the document has it. -/
def Pn.nd (n : Pn) : Nd := ⟨if n.gone then 0 else n.par, n.name, n.dir, n.byt, emptyB⟩
def nds (T : List Pn) : List Nd := T.map Pn.nd
def kidsF (A : Adr) (d : Nat) : Nat → List Pn → List (ByteArray × Value)
  | _, [] => []
  | i, n :: T => if n.nd.par = d then (n.name, A.ptr (i + 1)) :: kidsF A d (i + 1) T else kidsF A d (i + 1) T
def kids (A : Adr) (d : Nat) (T : List Pn) : List (ByteArray × Value) := kidsF A d 0 T

theorem getKv_cons {α : Type} [DecidableEq α] (p : α × Value) (l : List (α × Value)) (a : α) : getKv (p :: l) a = if p.1 = a then some p.2 else getKv l a := by
  unfold getKv
  rw [List.find?_cons]
  by_cases h : p.1 = a <;> simp [h]
theorem childF_ne (d : Nat) (s : ByteArray) : ∀ (i : Nat) (L : List Nd), childF d s i L ≠ 0 → i < childF d s i L
  | _, [], h => absurd rfl h
  | i, n :: L, h => by
    unfold childF at h ⊢
    split
    · omega
    · rename_i hn
      rw [if_neg hn] at h
      have := childF_ne d s (i + 1) L h
      omega
theorem kidsF_get (A : Adr) (d : Nat) (s : ByteArray) : ∀ (i : Nat) (T : List Pn), getKv (kidsF A d i T) s = if childF d s i (nds T) = 0 then none else some (A.ptr (childF d s i (nds T)))
  | _, [] => by simp [kidsF, getKv, nds, childF]
  | i, n :: T => by
    have ih := kidsF_get A d s (i + 1) T
    unfold kidsF
    simp only [nds, List.map_cons, childF]
    by_cases hp : n.nd.par = d
    · rw [if_pos hp, getKv_cons]
      by_cases hn : n.name = s
      · have hc : n.nd.par = d ∧ n.nd.name = s := ⟨hp, hn⟩
        rw [if_pos hn, if_pos hc, if_neg (by omega)]
      · have hc : ¬ (n.nd.par = d ∧ n.nd.name = s) := fun h => hn h.2
        rw [if_neg hn, if_neg hc]
        exact ih
    · have hc : ¬ (n.nd.par = d ∧ n.nd.name = s) := fun h => hp h.1
      rw [if_neg hp, if_neg hc]
      exact ih
theorem kids_get (A : Adr) (d : Nat) (T : List Pn) (s : ByteArray) : (getKv (kids A d T) s).getD (.pointer none) = A.ptr (child (nds T) d s) := by
  unfold kids child
  rw [kidsF_get]
  by_cases h : childF d s 0 (nds T) = 0
  · rw [if_pos h, h]; rfl
  · rw [if_neg h]; rfl

/-- The tree T lies in w at A. -/
structure PTree (w : World) (A : Adr) (T : List Pn) : Prop where
  node : ∀ (i : Nat) (n : Pn), T[i]? = some n → Blk w (A.nb (i + 1)) (n.cells A (i + 1)) 173
  kids : ∀ (i : Nat) (n : Pn), T[i]? = some n → n.dir = true → Mp keyS w (A.mb (i + 1)) (kids A (i + 1) T)
  byts : ∀ (i : Nat) (n : Pn), T[i]? = some n → Rw w n.bv n.byt
  inj : ∀ (i j : Nat), i < T.length → j < T.length → A.nb (i + 1) = A.nb (j + 1) → i = j
  minj : ∀ (i j : Nat) (m n : Pn), T[i]? = some m → T[j]? = some n → m.dir = true → n.dir = true → A.mb (i + 1) = A.mb (j + 1) → i = j
  sep : ∀ (i j : Nat) (m n : Pn) (g : Nat), T[i]? = some m → T[j]? = some n → m.bv.ownBlock = some g → n.bv.ownBlock = some g → i = j
  par : ∀ (i : Nat) (n : Pn), T[i]? = some n → n.par ≤ i
  pdir : ∀ (i : Nat) (n : Pn), T[i]? = some n → n.par ≠ 0 → ∃ p : Pn, T[n.par - 1]? = some p ∧ p.dir = true
  root : ∃ r : Pn, T[0]? = some r ∧ r.par = 0 ∧ r.dir = true ∧ r.gone = false
  top : ∀ (i : Nat) (n : Pn), T[i]? = some n → n.par = 0 → i ≠ 0 → n.gone = true
  name : ∀ (i : Nat) (n : Pn), T[i]? = some n → n.gone = false → i ≠ 0 → nameOk n.name.data.toList = true ∧ (47 : UInt8) ∉ n.name.data.toList
  few : T.length ≤ 100000
/-- The blocks of a tree. -/
def TFoot (A : Adr) (T : List Pn) (q : Nat) : Prop := ∃ (i : Nat) (n : Pn), T[i]? = some n ∧ (q = A.nb (i + 1) ∨ n.dir = true ∧ q = A.mb (i + 1) ∨ n.bv.ownBlock = some q)
theorem PTree.foot_lt {w : World} {A : Adr} {T : List Pn} (h : PTree w A T) {q : Nat} (hq : TFoot A T q) : q < w.heap.size := by
  obtain ⟨i, n, hi, rfl | ⟨hd, rfl⟩ | hb⟩ := hq
  · exact (h.node i n hi).lt
  · exact (h.kids i n hi hd).lt
  · exact ((h.byts i n hi).lt hb).1
theorem PTree.keep {S : Nat → Prop} {w w' : World} {A : Adr} {T : List Pn} (h : PTree w A T) (k : Keep S w w') (hs : ∀ q, TFoot A T q → ¬ S q) : PTree w' A T where
  node i n hi := (h.node i n hi).keep k (hs _ ⟨i, n, hi, .inl rfl⟩)
  kids i n hi hd := (h.kids i n hi hd).of_block (k.block _ (h.kids i n hi hd).lt (hs _ ⟨i, n, hi, .inr (.inl ⟨hd, rfl⟩)⟩))
  byts i n hi := (h.byts i n hi).keep k fun g hg => hs _ ⟨i, n, hi, .inr (.inr hg)⟩
  inj := h.inj
  minj := h.minj
  sep := h.sep
  par := h.par
  pdir := h.pdir
  root := h.root
  top := h.top
  name := h.name
  few := h.few
theorem PTree.bel {w w' : World} {A : Adr} {T : List Pn} (h : PTree w A T) (k : Bel w w') : PTree w' A T := h.keep (Keep.of_bel (fun _ => False) k) (fun _ _ h => h)
theorem nds_len (T : List Pn) : (nds T).length = T.length := by simp [nds]
theorem isDir_nds (T : List Pn) (n : Nat) : isDir (nds T) n = (T[n - 1]?.map Pn.dir).getD false := by
  unfold isDir nds
  rw [List.getElem?_map]
  cases T[n - 1]? <;> rfl
end Go.Proofs.YtkcjafnaephjiaaGreatDoor

/- An address space of the program: a map from page numbers to pages. -/
namespace Go.Proofs.YtkcjafnaephjiaaGreatDoor
open Go.RowKit Go.Maps
set_option maxRecDepth 100000

def IsByte (b : Int) : Prop := 0 ≤ b ∧ b ≤ 255

/-- A page: what may be done with it, its 256 bytes. -/
structure Pg where
  perm : Int
  bytes : List Int

structure Pg.wf (p : Pg) : Prop where
  len : p.bytes.length = 256
  byte : ∀ x ∈ p.bytes, IsByte x
  perm : 0 ≤ p.perm ∧ p.perm ≤ 7

def Pg.cells (p : Pg) : List Value := .int .u8 p.perm :: p.bytes.map (Value.int .u8)
def Pg.v (p : Pg) : Value := .agg p.cells.toArray
def Pg.zero : Pg := ⟨0, List.replicate 256 0⟩
theorem Pg.zero_wf : Pg.zero.wf := ⟨by simp [Pg.zero], by simp [Pg.zero, IsByte], by simp [Pg.zero]⟩

noncomputable def keyI : KeyEnc Tryz.prog 3 Int := intEnc Tryz.underlying3
theorem keyedI : Keyed Tryz.prog 3 := int_keyed Tryz.underlying3

/-- The pages that are there. -/
abbrev Pages := Nat → Option Pg
structure PagesOk (m : Pages) : Prop where
  below : ∀ n, 256 ≤ n → m n = none
  wf : ∀ n p, m n = some p → p.wf

/-- Block b of w is the space m. -/
def Sp (w : World) (b : Nat) (m : Pages) : Prop :=
  ∃ kv, Mp keyI w b kv ∧ (∀ n : Nat, getKv kv (n : Int) = (m n).map Pg.v) ∧ ∀ p ∈ kv, 0 ≤ p.1

theorem Sp.lt {w : World} {b : Nat} {m : Pages} (h : Sp w b m) : b < w.heap.size := by
  obtain ⟨kv, h, _⟩ := h
  exact h.lt
theorem Sp.of_block {w w' : World} {b : Nat} {m : Pages} (h : Sp w b m) (hb : w'.heap[b]? = w.heap[b]?) : Sp w' b m := by
  obtain ⟨kv, h1, h2⟩ := h
  exact ⟨kv, h1.of_block hb, h2⟩
theorem Sp.bel {w w' : World} {b : Nat} {m : Pages} (h : Sp w b m) (hb : Bel w w') : Sp w' b m := h.of_block (hb.block b h.lt)
theorem Sp.alloc {w : World} {b : Nat} {m : Pages} (h : Sp w b m) (o : Obj) : Sp (w.alloc o) b m := h.bel (Bel.start w o)
theorem Sp.setCell {w : World} {b : Nat} {m : Pages} {a : Addr} (h : Sp w b m) (v : Value) : Sp (w.setCell a v) b m := by
  obtain ⟨kv, h1, h2⟩ := h
  exact ⟨kv, h1.setCell v, h2⟩

theorem zeroPage (w : World) : (zeroValue 192).run Tryz.prog w = .ok Pg.zero.v w := by
  have : Pg.zero.v = .agg (.int .u8 0 :: (List.replicate 256 (Value.int .u8 0))).toArray := by simp [Pg.v, Pg.cells, Pg.zero]
  rw [this]
  exact (by kernel_rfl : (zeroValue 192).run Tryz.prog w = .ok (.agg (.int .u8 0 :: (List.replicate 256 (Value.int .u8 0))).toArray) w)

/-- m[n]. -/
theorem Sp.lookup {w : World} {b : Nat} {m : Pages} (h : Sp w b m) (n : Nat) (hn : n < 9223372036854775808) :
    (Instr.lookup 132 (.map (some b)) (.int .i64 n) false).run Tryz.prog w = .ok ((m n).getD Pg.zero).v w := by
  obtain ⟨kv, h1, h2, _⟩ := h
  have := h1.lookup keyedI Tryz.underlying132 (n : Int) (WalkArith.wf_i64 (by omega)) false (zeroPage w)
  simp only [Bool.false_eq_true, if_false] at this
  rw [h2 n] at this
  rw [show Value.int .i64 (n : Int) = (keyI).kf (n : Int) from rfl, this]
  cases m n <;> rfl

theorem field_perm (p : Pg) (w : World) : (Instr.field 192 p.v 0).run Tryz.prog w = .ok (.int .u8 p.perm) w := by
  kernel_rfl

/-- May a page be used so? -/
def Pg.can (p : Pg) (perm : Int) : Bool := !(bits .and .u8 p.perm perm == 0)
def canAt (m : Pages) (n : Nat) (perm : Int) : Bool := ((m n).getD Pg.zero).can perm
/-- May n bytes from an address on be used so? -/
def mayAll (m : Pages) (perm : Int) (first last : Nat) : Bool := (List.range (last - first)).all fun i => canAt m (first + i) perm
def lastOf (a n : Int) : Nat := ((a + n + 255) / 256).toNat
def mayB (m : Pages) (a n perm : Int) : Bool :=
  if n = 0 then true else if n < 0 ∨ 65536 ≤ a ∨ 65536 - a < n then false else mayAll m perm (a / 256).toNat (lastOf a n)

theorem mayAll_snoc (m : Pages) (perm : Int) (f l : Nat) (h : f ≤ l) : mayAll m perm f (l + 1) = (mayAll m perm f l && canAt m l perm) := by
  unfold mayAll
  rw [show l + 1 - f = (l - f) + 1 from by omega, List.range_succ, List.all_append]
  simp [show f + (l - f) = l from by omega]
theorem mayAll_false (m : Pages) (perm : Int) (f l k : Nat) (h1 : f ≤ k) (h2 : k < l) (hk : canAt m k perm = false) : mayAll m perm f l = false := by
  unfold mayAll
  rw [List.all_eq_false]
  refine ⟨k - f, by simp; omega, ?_⟩
  simp [show f + (k - f) = k from by omega, hk]

set_option maxHeartbeats 4000000 in
/-- (Space).May. -/
theorem may_any (b : Nat) (m : Pages) (a n perm : Int) (w : World) (hs : Sp w b m) (ha : 0 ≤ a) (ha1 : a < 18446744073709551616) (hn : -9223372036854775808 ≤ n) (hn1 : n < 9223372036854775808) :
    Calls Tryz.prog 87 #[.map (some b), .int .u64 a, .int .i64 n, .int .u8 perm] w fun e w' => e = .returned (.bool (mayB m a n perm)) ∧ w = w' := by
  by_cases h0 : n = 0
  · subst h0
    go_enter Tryz.func87, Tryz.ntmps87
    go_wp2
    go_ret
    exact ⟨by simp [mayB], rfl⟩
  have g0 : (n == 0) = false := by simpa using h0
  by_cases h1 : n < 0 ∨ 65536 ≤ a ∨ 65536 - a < n
  · have hr : mayB m a n perm = false := by simp [mayB, h0, h1]
    have HR := Lib.hid hr
    clear hr
    by_cases h2 : n < 0
    · clear h1 h0
      go_enter Tryz.func87, Tryz.ntmps87
      go_wp2
      go_ret
      exact ⟨by rw [HR.out]; try rfl, rfl⟩
    · have h3 : 0 ≤ n := by omega
      by_cases h4 : 65536 ≤ a
      · clear h1 h0 h2
        go_enter Tryz.func87, Tryz.ntmps87
        go_wp2
        go_ret
        exact ⟨by rw [HR.out]; try rfl, rfl⟩
      · have h5 : a < 65536 := by omega
        have h6 : 65536 - a < n := by omega
        clear h1 h0 h2 h4
        go_enter Tryz.func87, Tryz.ntmps87
        go_wp2
        go_ret
        exact ⟨by rw [HR.out]; try rfl, rfl⟩
  · have h2 : 0 < n := by omega
    have h3 : a < 65536 := by omega
    have h4 : n ≤ 65536 - a := by omega
    have hr : mayB m a n perm = mayAll m perm (a / 256).toNat (lastOf a n) := by simp [mayB, h0, h1]
    have HR := Lib.hid hr
    clear hr h1 h0 hn hn1 ha1
    go_enter Tryz.func87, Tryz.ntmps87
    go_wp2
    go_loop [9] (fun p => ∃ k : Nat, (a / 256).toNat ≤ k ∧ k ≤ lastOf a n ∧ p = .int .i64 k ∧ mayAll m perm (a / 256).toNat k = true) (fun p => lastOf a n - (intOf p).toNat)
    case atStart => exact ⟨(a / 256).toNat, Nat.le_refl _, by simp only [lastOf]; omega, by congr 1; omega, by simp [mayAll]⟩
    case round =>
      obtain ⟨k, hk, hk1, rfl, hall⟩ := hrel
      have hl := hs.lookup k (by simp only [lastOf] at hk1; omega)
      have hf := field_perm ((m k).getD Pg.zero)
      have HA := Lib.hid hall
      clear hall
      have hkb : (k : Int) ≤ 256 := by simp only [lastOf] at hk1; omega
      by_cases hlt : (k : Int) * 256 < a + n
      · have hlast : k < lastOf a n := by simp only [lastOf]; omega
        cases hc : canAt m k perm with
        | false =>
          have hres := Lib.hid (HR.out.trans (mayAll_false m perm _ _ k hk hlast hc))
          have hb : (bits .and .u8 ((m k).getD Pg.zero).perm perm == 0) = true := by simpa [canAt, Pg.can] using hc
          clear hc
          go_wp2
          go_ret
          exact ⟨by rw [hres.out]; try rfl, rfl⟩
        | true =>
          have hnext := Lib.hid ((mayAll_snoc m perm _ k hk).trans (by rw [HA.out, hc]))
          have hb : (bits .and .u8 ((m k).getD Pg.zero).perm perm == 0) = false := by simpa [canAt, Pg.can] using hc
          clear hc
          go_wp2
          go_round
          case rel => exact ⟨k + 1, by omega, by omega, by go_num, hnext.out⟩
          case measure => simp [intOf] <;> omega
      · have hlast : lastOf a n = k := by simp only [lastOf] at hk1 ⊢; omega
        have hres := Lib.hid (HR.out.trans (by rw [hlast]; exact HA.out) : mayB m a n perm = true)
        clear hlast
        go_wp2
        go_ret
        exact ⟨by rw [hres.out]; try rfl, rfl⟩
end Go.Proofs.YtkcjafnaephjiaaGreatDoor
