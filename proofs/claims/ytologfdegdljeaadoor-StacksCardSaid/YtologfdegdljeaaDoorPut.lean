/- Numbers into bytes: Put, the document's put; word. -/
import Derived.Test.YtologfdegdljeaaDoorNum
import Derived.Test.YtologfdegdljeaaDoorKeep
namespace Go.Proofs.YtologfdegdljeaaDoor
open Go.RowKit
set_option maxRecDepth 100000

def bytes8 (n : Int) : List Int := [n % 256, n / 256 % 256, n / 65536 % 256, n / 16777216 % 256, n / 4294967296 % 256, n / 1099511627776 % 256, n / 281474976710656 % 256, n / 72057594037927936]

/-- Bytes as a function from places. -/
def rowOf (f : Nat → Int) (N : Nat) : List Value := (List.range N).map fun i => Value.int .u8 (f i)
def setF (f : Nat → Int) (i : Nat) (x : Int) : Nat → Int := fun j => if j = i then x else f j
def putF (f : Nat → Int) (o : Nat) (n : Int) : Nat → Int :=
  setF (setF (setF (setF (setF (setF (setF (setF f o (n % 256)) (o + 1) (n / 256 % 256)) (o + 2) (n / 65536 % 256)) (o + 3) (n / 16777216 % 256)) (o + 4) (n / 4294967296 % 256)) (o + 5) (n / 1099511627776 % 256)) (o + 6) (n / 281474976710656 % 256)) (o + 7) (n / 72057594037927936)
theorem rowOf_set (f : Nat → Int) (N i : Nat) (x : Int) : (rowOf f N).set i (.int .u8 x) = rowOf (setF f i x) N := by
  apply List.ext_getElem?
  intro k
  simp only [rowOf, List.getElem?_set, List.getElem?_map, List.length_map, List.length_range, setF]
  by_cases hk : k < N
  · rw [List.getElem?_range hk]
    by_cases hi : i = k
    · subst hi; simp [hk]
    · simp [hi, Ne.symm hi]
  · rw [List.getElem?_eq_none (by simp; omega)]
    by_cases hi : i = k
    · subst hi; simp [hk]
    · simp [hi]
theorem rowOf_length (f : Nat → Int) (N : Nat) : (rowOf f N).length = N := by simp [rowOf]
theorem rowOf_get (f : Nat → Int) (N i : Nat) (h : i < N) : (rowOf f N)[i]? = some (.int .u8 (f i)) := by simp [rowOf, h]
theorem Blk.row_set {w : World} {g N : Nat} {f : Nat → Int} {t : TypeId} (h : Blk w g (rowOf f N) t) (i : Nat) (x : Int) : Blk (w.setCell ⟨g, i, none⟩ (.int .u8 x)) g (rowOf (setF f i x) N) t := by
  rw [← rowOf_set]; exact h.setCell _
theorem Keep.setCell (w : World) (g i : Nat) (v : Value) : Keep (fun k => k = g) w (w.setCell ⟨g, i, none⟩ v) :=
  ⟨rfl, rfl, rfl, by simp, fun k _ hk => Below.heap_setCell w ⟨g, i, none⟩ v k hk⟩

set_option maxHeartbeats 8000000 in
theorem put_any (g o N : Nat) (f : Nat → Int) (t : TypeId) (cap : Nat) (n : Int) (w : World) (hB : Blk w g (rowOf f N) t) (ho : o + 8 ≤ N) (hN : N < 100000) (hcap : 8 ≤ cap) (hn : 0 ≤ n) (hn1 : n < 18446744073709551616) :
    Calls Tryd.prog 40 #[.slice (some ⟨g, o, none⟩) 8 cap, .int .u64 n] w fun e w' => e = .returned (.tuple #[]) ∧ Blk w' g (rowOf (putF f o n) N) t ∧ Keep (fun k => k = g) w w' := by
  have hc : ∀ i, i < 8 → w.cell? ⟨g, o + i, none⟩ = some (.int .u8 (f (o + i))) := fun i hi => (hB.cell _).trans (rowOf_get f N _ (by omega))
  have c0 : w.cell? ⟨g, o, none⟩ = some (.int .u8 (f o)) := hc 0 (by omega)
  have c1 := hc 1 (by omega)
  have c2 := hc 2 (by omega)
  have c3 := hc 3 (by omega)
  have c4 := hc 4 (by omega)
  have c5 := hc 5 (by omega)
  have c6 := hc 6 (by omega)
  have c7 := hc 7 (by omega)
  have hf := hB.frozen
  have hg := hB.lt
  clear hc
  go_enter Tryd.func40, Tryd.ntmps40
  go_wp2
  refine wp_loop_rounds 9 ?_
  iterate 9 (rw [rounds_succ]; go_wp2)
  go_end0
  exact ⟨rfl, (((((((hB.row_set _ _).row_set _ _).row_set _ _).row_set _ _).row_set _ _).row_set _ _).row_set _ _).row_set _ _,
    (((((((Keep.setCell _ _ _ _).tr (Keep.setCell _ _ _ _)).tr (Keep.setCell _ _ _ _)).tr (Keep.setCell _ _ _ _)).tr (Keep.setCell _ _ _ _)).tr (Keep.setCell _ _ _ _)).tr (Keep.setCell _ _ _ _)).tr (Keep.setCell _ _ _ _)⟩
set_option maxHeartbeats 8000000 in
theorem putR_any (g o N : Nat) (f : Nat → Int) (t : TypeId) (cap : Nat) (n : Int) (w : World) (hB : Blk w g (rowOf f N) t) (ho : o + 8 ≤ N) (hN : N < 100000) (hn : 0 ≤ n) (hn1 : n < 18446744073709551616) :
    Calls Tryd.prog 25 #[.slice (some ⟨g, 0, none⟩) N cap, .int .i64 o, .int .u64 n] w fun e w' => e = .returned (.tuple #[]) ∧ Blk w' g (rowOf (putF f o n) N) t ∧ Keep (fun k => k = g) w w' := by
  have hc : ∀ i, i < 8 → w.cell? ⟨g, o + i, none⟩ = some (.int .u8 (f (o + i))) := fun i hi => (hB.cell _).trans (rowOf_get f N _ (by omega))
  have c0 : w.cell? ⟨g, o, none⟩ = some (.int .u8 (f o)) := hc 0 (by omega)
  have c1 := hc 1 (by omega)
  have c2 := hc 2 (by omega)
  have c3 := hc 3 (by omega)
  have c4 := hc 4 (by omega)
  have c5 := hc 5 (by omega)
  have c6 := hc 6 (by omega)
  have c7 := hc 7 (by omega)
  have hf := hB.frozen
  have hg := hB.lt
  clear hc
  go_enter Tryd.func25, Tryd.ntmps25
  go_wp2
  refine wp_loop_rounds 9 ?_
  iterate 9 (rw [rounds_succ]; go_wp2)
  go_end0
  exact ⟨rfl, (((((((hB.row_set _ _).row_set _ _).row_set _ _).row_set _ _).row_set _ _).row_set _ _).row_set _ _).row_set _ _,
    (((((((Keep.setCell _ _ _ _).tr (Keep.setCell _ _ _ _)).tr (Keep.setCell _ _ _ _)).tr (Keep.setCell _ _ _ _)).tr (Keep.setCell _ _ _ _)).tr (Keep.setCell _ _ _ _)).tr (Keep.setCell _ _ _ _)).tr (Keep.setCell _ _ _ _)⟩
end Go.Proofs.YtologfdegdljeaaDoor
