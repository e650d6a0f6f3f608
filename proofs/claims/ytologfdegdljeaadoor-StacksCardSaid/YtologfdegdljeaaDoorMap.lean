/- A map's block as a list of keys with their values, in the order in which they came; no program. Keys by an encoding: integers, strings. -/
import Derived.Test.YtologfdegdljeaaDoorMem
import Derived.Maps.Keyed
import Derived.Maps.Own
import Derived.Laws.Entries
namespace Go.Proofs.YtologfdegdljeaaDoor
open Go.RowKit Go.MapKept Go.Maps
open Go.ChangeMaps (setBlock heap_setBlock_same heap_setBlock_other)

/-- How a key of type k is written. -/
structure KeyEnc (P : Program) (k : TypeId) (α : Type) where
  kf : α → Value
  kl : α → Lit
  ok : α → Prop
  read : ∀ a, ok a → keyOf P k (kf a) = some (kl a)
  inj : ∀ a b, kf a = kf b → a = b

def intEnc {P : Program} {k : TypeId} (hk : P.underlying k = some (.int .i64)) : KeyEnc P k Int :=
  ⟨.int .i64, .int .i64, fun a => (Lit.int .i64 a).wf = true, fun _ h => keyOf_int_mk hk h, fun a b h => by injection h⟩

section
variable {P : Program} {k : TypeId} {α : Type}

/-- Block b of w is a map that holds these keys with these values, in the order in which they came. -/
def Mp (E : KeyEnc P k α) (w : World) (b : Nat) (kv : List (α × Value)) : Prop :=
  ∃ es clock, w.heap[b]? = some (.map es clock) ∧ Stamped es clock ∧ es.toList.map (fun e => (e.key, e.val)) = kv.map (fun p => (E.kf p.1, p.2)) ∧ ∀ p ∈ kv, E.ok p.1

variable {E : KeyEnc P k α} {w : World} {b : Nat} {kv : List (α × Value)}

theorem Mp.lt (h : Mp E w b kv) : b < w.heap.size := by
  obtain ⟨es, clock, hb, _⟩ := h
  exact (Array.getElem?_eq_some_iff.1 hb).1
theorem Mp.of_block {w' : World} (h : Mp E w b kv) (hb : w'.heap[b]? = w.heap[b]?) : Mp E w' b kv := by
  obtain ⟨es, clock, h1, h2⟩ := h
  exact ⟨es, clock, hb.trans h1, h2⟩
theorem Mp.bel {w' : World} (h : Mp E w b kv) (hb : Bel w w') : Mp E w' b kv := h.of_block (hb.block b h.lt)
theorem Mp.alloc (h : Mp E w b kv) (o : Obj) : Mp E (w.alloc o) b kv := h.bel (Bel.start w o)
theorem Mp.setCell {a : Addr} (h : Mp E w b kv) (v : Value) : Mp E (w.setCell a v) b kv := by
  obtain ⟨es, clock, h1, h2⟩ := h
  refine ⟨es, clock, ?_, h2⟩
  by_cases e : b = a.block
  · subst e
    simp only [World.setCell, Array.getElem?_modify, h1]
    simp
  · exact (Below.heap_setCell w a v b e).trans h1
theorem Mp.new (E : KeyEnc P k α) (w : World) : Mp E (w.alloc (.map #[] 0)) w.heap.size [] :=
  ⟨#[], 0, (heap_alloc w _).1, stamped_empty 0, rfl, fun _ h => by cases h⟩
theorem Mp.nodup (h : Mp E w b kv) : (kv.map Prod.fst).Nodup := by
  obtain ⟨es, clock, h1, ⟨_, _, h2⟩, h3, _⟩ := h
  have e : es.toList.map (·.key) = (kv.map Prod.fst).map E.kf := by
    have := congrArg (List.map Prod.fst) h3
    simpa [List.map_map, Function.comp_def] using this
  rw [e] at h2
  exact List.Pairwise.of_map E.kf (fun a b hab e => hab (congrArg E.kf e)) h2
theorem Mp.okKeys (h : Mp E w b kv) : ∀ p ∈ kv, E.ok p.1 := by
  obtain ⟨es, clock, _, _, _, h⟩ := h
  exact h

theorem keys_read {es : Array MapEntry} (h3 : es.toList.map (fun e => (e.key, e.val)) = kv.map (fun p => (E.kf p.1, p.2))) (h4 : ∀ p ∈ kv, E.ok p.1) : ∀ e ∈ es.toList, ∃ l, keyOf P k e.key = some l := by
  intro e he
  have hm : (e.key, e.val) ∈ kv.map (fun p => (E.kf p.1, p.2)) := by rw [← h3]; exact List.mem_map.2 ⟨e, he, rfl⟩
  obtain ⟨p, hp, hpe⟩ := List.mem_map.1 hm
  have : e.key = E.kf p.1 := by injection hpe with h1 _; exact h1.symm
  exact ⟨_, by rw [this]; exact E.read _ (h4 p hp)⟩

/-- Where the block's entries hold a key, and what m[a] finds. -/
theorem Mp.find (K : Keyed P k) (h : Mp E w b kv) (a : α) (ha : E.ok a) : ∃ es clock, w.heap[b]? = some (.map es clock) ∧ Stamped es clock ∧ es.toList.map (fun e => (e.key, e.val)) = kv.map (fun p => (E.kf p.1, p.2)) ∧
    ((a ∉ kv.map Prod.fst ∧ (∀ e ∈ es.toList, e.key ≠ E.kf a) ∧ ∀ w, (Instr.findKey k (E.kf a) es.toList).run P w = .ok none w) ∨
     ∃ j v, (kv.map Prod.fst)[j]? = some a ∧ kv[j]? = some (a, v) ∧ (∃ e, es[j]? = some e ∧ e.key = E.kf a) ∧ ∀ w, (Instr.findKey k (E.kf a) es.toList).run P w = .ok (some (j, v)) w) := by
  have hnod := h.nodup
  obtain ⟨es, clock, h1, h2, h3, h4⟩ := h
  refine ⟨es, clock, h1, h2, h3, ?_⟩
  have hk := keys_read h3 h4
  have key_of : ∀ (j : Nat) (e : MapEntry), es[j]? = some e → ∃ p, kv[j]? = some p ∧ e.key = E.kf p.1 ∧ e.val = p.2 := by
    intro j e he
    have h5 : (es.toList.map (fun e => (e.key, e.val)))[j]? = some (e.key, e.val) := by
      rw [List.getElem?_map, Array.getElem?_toList, he]; rfl
    rw [h3, List.getElem?_map] at h5
    obtain ⟨p, hp, hpe⟩ := Option.map_eq_some_iff.1 h5
    injection hpe with e1 e2
    exact ⟨p, hp, e1.symm, e2.symm⟩
  rcases K.find w (E.read a ha) es.toList hk with ⟨h5, h6⟩ | ⟨j, e, h5, h6, h7⟩
  · left
    refine ⟨?_, h6, fun w' => ?_⟩
    · intro hm
      obtain ⟨p, hp, rfl⟩ := List.mem_map.1 hm
      have hm : (E.kf p.1, p.2) ∈ es.toList.map (fun e => (e.key, e.val)) := by rw [h3]; exact List.mem_map.2 ⟨p, hp, rfl⟩
      obtain ⟨e, he, hee⟩ := List.mem_map.1 hm
      injection hee with e1 _
      exact h6 e he e1
    · rcases K.find w' (E.read a ha) es.toList hk with ⟨h5', _⟩ | ⟨j, e, _, h6', h7'⟩
      · exact h5'
      · exact absurd h7' (h6 e (List.mem_of_getElem? h6'))
  · right
    rw [Array.getElem?_toList] at h6
    obtain ⟨p, hp, hpk, hpv⟩ := key_of j e h6
    have hpa : p.1 = a := E.inj _ _ (hpk.symm.trans h7)
    refine ⟨j, e.val, by rw [List.getElem?_map, hp]; simp [hpa], by rw [hp, hpv, ← hpa], ⟨e, h6, h7⟩, fun w' => ?_⟩
    rcases K.find w' (E.read a ha) es.toList hk with ⟨_, h6'⟩ | ⟨j', e', h5', h6', h7'⟩
    · exact absurd h7 (h6' e (by rw [← Array.getElem?_toList] at h6; exact List.mem_of_getElem? h6))
    · rw [Array.getElem?_toList] at h6'
      obtain ⟨p', hp', hpk', _⟩ := key_of j' e' h6'
      have hpa' : p'.1 = a := E.inj _ _ (hpk'.symm.trans h7')
      have hj : j' = j := by
        have g1 : (kv.map Prod.fst)[j']? = some a := by rw [List.getElem?_map, hp']; simp [hpa']
        have g2 : (kv.map Prod.fst)[j]? = some a := by rw [List.getElem?_map, hp]; simp [hpa]
        have l1 := (List.getElem?_eq_some_iff.1 g1).1
        exact (List.getElem?_inj l1 hnod).1 (g1.trans g2.symm)
      subst hj
      rw [h6] at h6'
      cases h6'
      exact h5'

variable [DecidableEq α]
/-- The list behind m[a] = v. -/
def putKv (kv : List (α × Value)) (a : α) (v : Value) : List (α × Value) :=
  if a ∈ kv.map Prod.fst then kv.map (fun p => if p.1 = a then (a, v) else p) else kv ++ [(a, v)]
def getKv (kv : List (α × Value)) (a : α) : Option Value := (kv.find? fun p => decide (p.1 = a)).map Prod.snd

theorem getKv_none {a : α} (h : a ∉ kv.map Prod.fst) : getKv kv a = none := by
  unfold getKv
  rw [Option.map_eq_none_iff, List.find?_eq_none]
  intro p hp
  simp only [decide_eq_true_eq]
  rintro rfl
  exact h (List.mem_map.2 ⟨p, hp, rfl⟩)
theorem getKv_some {a : α} {v : Value} (hn : (kv.map Prod.fst).Nodup) (h : (a, v) ∈ kv) : getKv kv a = some v := by
  induction kv with
  | nil => cases h
  | cons p r ih =>
    simp only [List.map_cons, List.nodup_cons] at hn
    unfold getKv
    rw [List.find?_cons]
    by_cases hp : p.1 = a
    · simp only [hp, decide_true, Option.map_some]
      rcases List.mem_cons.1 h with rfl | h
      · rfl
      · exact absurd (List.mem_map.2 ⟨(a, v), h, hp.symm⟩) hn.1
    · simp only [hp, decide_false]
      rcases List.mem_cons.1 h with rfl | h
      · exact absurd rfl hp
      · exact ih hn.2 h

variable {t e : TypeId}

/-- m[a], with and without ok. -/
theorem Mp.lookup (K : Keyed P k) (ht : P.underlying t = some (.map k e)) (h : Mp E w b kv) (a : α) (ha : E.ok a) (c : Bool) {z : Value} (hz : (zeroValue e).run P w = .ok z w) :
    (Instr.lookup t (.map (some b)) (E.kf a) c).run P w = .ok (if c then .tuple #[(getKv kv a).getD z, .bool (getKv kv a).isSome] else (getKv kv a).getD z) w := by
  have hnod := h.nodup
  obtain ⟨es, clock, h1, h2, h3, h4⟩ := h.find K a ha
  rcases h4 with ⟨hn, _, hr⟩ | ⟨j, v, hj, hjv, _, hr⟩
  · rw [getKv_none hn]
    simp [Instr.lookup, run_underlying ht, MapKept.run_getObj_map h1, K.check w _ (E.read a ha), hr, hz, Result.andThen]
  · rw [getKv_some hnod (List.mem_of_getElem? hjv)]
    simp [Instr.lookup, run_underlying ht, MapKept.run_getObj_map h1, K.check w _ (E.read a ha), hr, Result.andThen]

/-- m[a] = v. -/
theorem Mp.update (K : Keyed P k) (ht : P.underlying t = some (.map k e)) (h : Mp E w b kv) (a : α) (ha : E.ok a) (v : Value) :
    ∃ es' clock', (Instr.mapUpdate t (.map (some b)) (E.kf a) v).run P w = .ok () (setBlock w b (.map es' clock')) ∧ Mp E (setBlock w b (.map es' clock')) b (putKv kv a v) := by
  have hnod := h.nodup
  have hok := h.okKeys
  obtain ⟨es, clock, h1, h2, h3, h4⟩ := h.find K a ha
  rcases h4 with ⟨hn, hne, hr⟩ | ⟨j, v0, hj, hjv, ⟨e0, he0, hek⟩, hr⟩
  · refine ⟨es.push ⟨E.kf a, v, clock⟩, clock + 1, ?_, _, _, heap_setBlock_same h1 _, stamped_push h2 hne, ?_, ?_⟩
    · simp [Instr.mapUpdate, run_underlying ht, MapKept.run_getObj_map h1, K.check w false (E.read a ha), hr, MapKept.run_setObj_map _ h1, Result.andThen, setBlock]
    · simp [putKv, hn, h3]
    · intro p hp
      simp only [putKv, hn, if_false, List.mem_append, List.mem_singleton] at hp
      rcases hp with hp | rfl
      · exact hok p hp
      · exact ha
  · have hm : a ∈ kv.map Prod.fst := List.mem_of_getElem? hj
    refine ⟨es.modify j fun x => { x with key := E.kf a, val := v }, clock, ?_, _, _, heap_setBlock_same h1 _, stamped_modify h2 j _ (fun _ _ => rfl) (fun x _ hx => by rw [he0] at hx; cases hx; exact hek.symm), ?_, ?_⟩
    · simp [Instr.mapUpdate, run_underlying ht, MapKept.run_getObj_map h1, K.check w false (E.read a ha), hr, he0, hek, K.stays w (E.read a ha), MapKept.run_setObj_map _ h1, Result.andThen, setBlock]
    · have hj' : j < kv.length := (List.getElem?_eq_some_iff.1 hjv).1
      apply List.ext_getElem?
      intro i
      have h3i : (es.toList.map (fun e => (e.key, e.val)))[i]? = (kv.map (fun p => (E.kf p.1, p.2)))[i]? := by rw [h3]
      simp only [List.getElem?_map, Array.getElem?_toList] at h3i
      simp only [putKv, hm, if_true, List.getElem?_map, Array.getElem?_toList, Array.getElem?_modify, Option.map_map]
      by_cases hij : j = i
      · subst hij
        simp only [if_true, he0, hjv, Option.map_some, Function.comp_def]
      · simp only [hij, if_false]
        rw [h3i]
        cases hki : kv[i]? with
        | none => rfl
        | some p =>
          have hpa : ¬ p.1 = a := by
            intro e
            have g1 : (kv.map Prod.fst)[i]? = some a := by rw [List.getElem?_map, hki]; simp [e]
            have l1 := (List.getElem?_eq_some_iff.1 hj).1
            exact hij ((List.getElem?_inj l1 hnod).1 (hj.trans g1.symm))
          simp [hpa]
    · intro p hp
      simp only [putKv, hm, if_true, List.mem_map] at hp
      obtain ⟨q, hq, rfl⟩ := hp
      by_cases hqa : q.1 = a
      · simpa [hqa] using ha
      · simpa [hqa] using hok q hq

theorem putKv_keys (kv : List (α × Value)) (a : α) (v : Value) : (putKv kv a v).map Prod.fst = if a ∈ kv.map Prod.fst then kv.map Prod.fst else kv.map Prod.fst ++ [a] := by
  unfold putKv
  split
  · rw [List.map_map]
    apply List.map_congr_left
    intro p _
    by_cases h : p.1 = a <;> simp [h]
  · simp
theorem getKv_putKv_same (kv : List (α × Value)) (a : α) (v : Value) : getKv (putKv kv a v) a = some v := by
  unfold putKv
  split
  · rename_i hm
    unfold getKv
    induction kv with
    | nil => cases hm
    | cons p r ih =>
      by_cases hp : p.1 = a
      · simp [List.find?_cons, hp]
      · simp only [List.map_cons, List.mem_cons] at hm
        rcases hm with e | hm
        · exact absurd e.symm hp
        · simp only [List.map_cons, hp, if_false, List.find?_cons, decide_false]
          exact ih hm
  · rename_i hm
    unfold getKv
    rw [List.find?_append]
    have : (kv.find? fun p => decide (p.1 = a)) = none := by
      rw [List.find?_eq_none]
      intro p hp
      simp only [decide_eq_true_eq]
      rintro rfl
      exact hm (List.mem_map.2 ⟨p, hp, rfl⟩)
    simp [this]
theorem getKv_putKv_other (kv : List (α × Value)) {a c : α} (h : c ≠ a) (v : Value) : getKv (putKv kv a v) c = getKv kv c := by
  unfold putKv
  split
  · unfold getKv
    induction kv with
    | nil => rfl
    | cons p r ih =>
      by_cases hp : p.1 = a
      · have h1 : ¬ a = c := fun e => h e.symm
        by_cases hm : a ∈ r.map Prod.fst
        · simp only [List.map_cons, hp, if_true, List.find?_cons, h1, decide_false]; exact ih hm
        · simp only [List.map_cons, hp, if_true, List.find?_cons, h1, decide_false]
          congr 1
          have : r.map (fun p => if p.1 = a then (a, v) else p) = r := by
            conv => rhs; rw [← List.map_id r]
            apply List.map_congr_left
            intro q hq
            have : ¬ q.1 = a := fun e => hm (List.mem_map.2 ⟨q, hq, e⟩)
            simp [this]
          rw [this]
      · by_cases hc : p.1 = c
        · have h1 : ¬ c = a := h
          simp [List.find?_cons, hc, h1]
        · rename_i hm
          simp only [List.map_cons, List.mem_cons] at hm
          rcases hm with e | hm
          · exact absurd e.symm hp
          · simp only [List.map_cons, hp, if_false, List.find?_cons, hc, decide_false]
            exact ih hm
  · unfold getKv
    rw [List.find?_append]
    have h1 : ¬ a = c := fun e => h e.symm
    simp [h1]
end
end Go.Proofs.YtologfdegdljeaaDoor
