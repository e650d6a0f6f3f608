/- Rows of the call's own: read, kept, appended to. No program. -/
import Derived.Test.YtologfdegdljeaaDoorFill
import Derived.Test.YtologfdegdljeaaDoorKeep
import Derived.Laws.AppendOwn
import Derived.Deep.Onto
namespace Go.Proofs.YtologfdegdljeaaDoor
open Go.RowKit

variable {w w' : World} {base : Nat} {e : TypeId} {size : Nat} {v : Value} {n : Nat} {xs : List Value}

theorem row_bel (h : w.ownsRow base e size v n xs) (hb : Bel w w') : w'.ownsRow base e size v n xs := by
  refine ⟨h.1, ?_⟩
  rcases h.2 with h | ⟨g, cap, cur, h1, h2, h3, h4⟩
  · exact .inl h
  · exact .inr ⟨g, cap, cur, h1, h2, (hb.block g (Array.getElem?_eq_some_iff.1 h3).1).trans h3, h4⟩
theorem row_keep {S : Nat → Prop} (h : w.ownsRow base e size v n xs) (hb : Keep S w w') (hs : ∀ g, base ≤ g → ¬ S g) : w'.ownsRow base e size v n xs := by
  refine ⟨h.1, ?_⟩
  rcases h.2 with h | ⟨g, cap, cur, h1, h2, h3, h4⟩
  · exact .inl h
  · exact .inr ⟨g, cap, cur, h1, h2, (hb.block g (Array.getElem?_eq_some_iff.1 h3).1 (hs g h2)).trans h3, h4⟩
/-- A row is a slice; where it has an element, its cells lie at a block's head. -/
theorem row_slice (h : w.ownsRow base e size v n xs) : ∃ p cap, v = .slice p n cap ∧ n ≤ cap ∧ cap ≤ maxLen ∧ (n = 0 ∧ p = none ∧ cap = 0 ∨ ∃ g, p = some ⟨g, 0, none⟩ ∧ base ≤ g ∧ g < w.heap.size ∧ (∀ j, j < xs.length → w.cell? ⟨g, j, none⟩ = xs[j]?) ∧ (∀ j, w.frozen? ⟨g, j, none⟩ = false)) := by
  rcases h.2 with ⟨rfl, rfl⟩ | ⟨g, cap, cur, rfl, hg, hb, hn, hc, _, ht⟩
  · exact ⟨none, 0, rfl, Nat.le_refl _, Nat.zero_le _, .inl ⟨rfl, rfl, rfl⟩⟩
  · refine ⟨_, cap, rfl, hn, hc, .inr ⟨g, rfl, hg, (Array.getElem?_eq_some_iff.1 hb).1, fun j hj => ?_, fun j => ?_⟩⟩
    · have hj' : j < n * size := by
        rw [← ht, List.length_take] at hj
        exact (Nat.lt_min.1 hj).1
      simp only [World.cell?, hb]
      rw [← ht, List.getElem?_take, if_pos hj']
      simp
    · simp only [World.frozen?, hb]
      simp

theorem grown_keep (hg : w.grownBy w' v.ownBlock) (h : w.ownsRow base e size v n xs) : Keep (fun i => base ≤ i) w w' :=
  ⟨hg.os, hg.tape, hg.output, hg.size, fun k hk hn => hg.block k hk fun e => hn (by
    rcases h.2 with ⟨rfl, _⟩ | ⟨g, cap, cur, rfl, h2, _⟩
    · cases e
    · cases e; exact h2)⟩

/-- append(row, one) , the one element a literal's block. -/
theorem wpList_append_one {P : Program} {ops : Array Oper} {rest : List Oper} {o : Oper} {a : Act} {Q : Exit → Act → World → Prop} (hgd : o.guard = none) (s x : Operand) (t : TypeId)
    (ho : o.op = .call { callee := .builtin .append, args := #[s, x], argTypes := #[t, t] }) {bytes : Nat} (ht : P.underlying t = some (.slice e))
    (hi : (P.info? e).map (fun i => (i.size, i.bytes, (i.zero.map (·.cells.size)))) = some (size, bytes, some size)) (hsz : 0 < size)
    (hs : a.eval s = v) (hown : w.ownsRow base e size v n xs) (g : Nat) (cs : List Value) (t' : TypeId) (hx : a.eval x = .slice (some ⟨g, 0, none⟩) 1 1) (hB : w.heap[g]? = some (.cells cs.toArray t' (0, 0))) (hl : cs.length = size) (h1 : ∀ u ∈ cs, u.oneCell' = true)
    (h63 : n + 1 ≤ maxLen) (hbytes : (n + 1) * bytes ≤ 140737488355328) (hbase : base ≤ w.heap.size)
    (h : ∀ v' w', w'.ownsRow base e size v' (n + 1) (xs ++ cs) → Keep (fun i => base ≤ i) w w' → wpList P ops Q rest (a.put o.dst v') w') : wpList P ops Q (o :: rest) a w := by
  obtain ⟨i, z, hi, hz, e1, e2, e3⟩ := info_of hi
  refine wpList_append_own w hgd s x t ho base e i z size bytes ht hi hz e1 e2 e3 hsz v n xs hs hown ⟨g, 0, none⟩ 1 1 cs hx (by omega) (fun j u hj => ?_) h1 h63 hbytes hbase fun v' w' k1 k2 _ => h v' w' k1 (grown_keep k2 hown)
  rw [show (⟨g, 0, none⟩ : Addr).add j = ⟨g, j, none⟩ from by unfold Addr.add; split <;> simp_all]
  simp only [World.cell?, hB]
  simpa using hj
end Go.Proofs.YtologfdegdljeaaDoor
