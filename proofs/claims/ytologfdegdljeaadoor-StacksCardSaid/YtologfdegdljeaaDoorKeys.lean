/- The pages of a space, by their numbers: slices.Sorted(maps.Keys(m)). -/
import Derived.Test.YtologfdegdljeaaDoorSpace
import Derived.Test.YtologfdegdljeaaDoorLay
namespace Go.Proofs.YtologfdegdljeaaDoor
open Go.RowKit Go.Maps Go.Sort Go.Shelf
set_option maxRecDepth 100000

/-- The numbers of the pages that are there. -/
def pageNums (m : Pages) : List Nat := (List.range 256).filter fun n => (m n).isSome

def R0 : Value → Option (DataW Unit × List MemPlace) := fun _ => some (.nil, [])
def D0 (kv : List (Int × Value)) : DataW Unit := .map ((kv.map fun p => (Lit.int .i64 p.1, .nil)).foldr DataW.insert [])

theorem Mp.owns {w : World} {b : Nat} {kv : List (Int × Value)} (h : Mp keyI w b kv) (hl : kv.length ≤ maxLen) : w.ownsMap Tryd.prog 3 R0 b kv.length (D0 kv) := by
  obtain ⟨es, clock, h1, h2, h3, h4⟩ := h
  have hlen : es.size = kv.length := by have := congrArg List.length h3; simpa using this
  have hrd : ∀ a v, keyI.ok a → ∀ c, Go.WideElems.rd Tryd.prog 3 R0 ⟨.int .i64 a, v, c⟩ = some (Lit.int .i64 a, .nil) := by
    intro a v ha c
    have : keyOf Tryd.prog 3 (.int .i64 a) = some (.int .i64 a) := keyI.read a ha
    simp [Go.WideElems.rd, this, R0]
  have hent : ∀ x ∈ es.toList, ∃ p ∈ kv, x.key = .int .i64 p.1 := by
    intro x hx
    have hm : (x.key, x.val) ∈ kv.map (fun p => (keyI.kf p.1, p.2)) := by rw [← h3]; exact List.mem_map.2 ⟨x, hx, rfl⟩
    obtain ⟨p, hp, e⟩ := List.mem_map.1 hm
    injection e with e1 _
    exact ⟨p, hp, e1.symm⟩
  have hone : ∀ x ∈ es.toList, ∀ a, x.key = .int .i64 a → keyI.ok a → Go.WideElems.rd Tryd.prog 3 R0 x = some (Lit.int .i64 a, .nil) := by
    rintro ⟨k, v, c⟩ _ a rfl ha
    exact hrd a v ha c
  refine ⟨es, clock, h1, ⟨by omega, h2, fun x hx => ?_⟩, by omega, ?_⟩
  · obtain ⟨p, hp, e⟩ := hent x hx
    exact ⟨_, hone x hx p.1 e (h4 p hp)⟩
  · unfold D0
    congr 2
    apply List.ext_getElem?
    intro i
    have h3i := congrArg (·[i]?) h3
    simp only [List.getElem?_map] at h3i ⊢
    cases he : es.toList[i]? with
    | none =>
      rw [he] at h3i
      cases hk : kv[i]? with
      | none => rfl
      | some p => rw [hk] at h3i; cases h3i
    | some x =>
      rw [he] at h3i
      cases hk : kv[i]? with
      | none => rw [hk] at h3i; cases h3i
      | some p =>
        rw [hk] at h3i
        simp only [Option.map_some, Option.some.injEq, Prod.mk.injEq] at h3i
        have := hone x (List.mem_of_getElem? he) p.1 h3i.1 (h4 p (List.mem_of_getElem? hk))
        simp only [Option.map_some, Go.WideElems.rg, this, Option.getD_some]

theorem D0_keys (kv : List (Int × Value)) : (intKeys (D0 kv)).Perm (kv.map Prod.fst) := by
  unfold D0 intKeys
  have := (Go.WideShapes.sorted_perm (kv.map fun p => (Lit.int .i64 p.1, (.nil : DataW Unit)))).map (fun p => Go.intOf p.1)
  refine this.trans ?_
  rw [List.map_map]
  exact List.Perm.refl _
theorem D0_size (kv : List (Int × Value)) : Maps.size (D0 kv) = kv.length := by
  unfold D0
  rw [size_eq, length_sorted, List.length_map]

theorem getKv_isSome {kv : List (Int × Value)} {a : Int} : (getKv kv a).isSome = true ↔ a ∈ kv.map Prod.fst := by
  unfold getKv
  rw [Option.isSome_map, List.find?_isSome]
  simp only [decide_eq_true_eq, List.mem_map]

theorem Sp.keys {w : World} {b : Nat} {m : Pages} {kv : List (Int × Value)} (hm : ∀ n, 256 ≤ n → m n = none) (h1 : Mp keyI w b kv) (h2 : ∀ n : Nat, getKv kv (n : Int) = (m n).map Pg.v) (h3 : ∀ p ∈ kv, 0 ≤ p.1) :
    (kv.map Prod.fst).Perm ((pageNums m).map fun n : Nat => (n : Int)) := by
  refine (List.perm_ext_iff_of_nodup h1.nodup ?_).2 fun x => ?_
  · refine List.Pairwise.map _ (fun a b hab e => hab (by omega)) ((List.nodup_range (n := 256)).filter _)
  · constructor
    · intro hx
      obtain ⟨p, hp, rfl⟩ := List.mem_map.1 hx
      obtain ⟨n, hn⟩ := Int.eq_ofNat_of_zero_le (h3 p hp)
      have hs : (getKv kv (n : Int)).isSome = true := getKv_isSome.2 (hn ▸ hx)
      rw [h2 n, Option.isSome_map] at hs
      refine List.mem_map.2 ⟨n, ?_, hn.symm⟩
      refine List.mem_filter.2 ⟨List.mem_range.2 ?_, hs⟩
      by_cases hlt : n < 256
      · exact hlt
      · rw [hm n (by omega)] at hs; cases hs
    · intro hx
      obtain ⟨n, hn, rfl⟩ := List.mem_map.1 hx
      have hs := (List.mem_filter.1 hn).2
      refine getKv_isSome.1 ?_
      rw [h2 n, Option.isSome_map]
      exact hs

theorem sorts (m : Nat) : AnyZI.SortsIn Tryd.prog Tryd.sortedA_ren Fence.wide m :=
  ⟨fun blk off cap ss W hH hblk hsz => callsIn_wide.2 (AnyM.slices_Sort_int Tryd.sortA blk off cap ss W hH hblk hsz),
   fun p cap W => callsIn_wide.2 (AnyM.slices_Sort_int_none Tryd.sortA p cap W)⟩

/-- maps.Keys(m). -/
theorem keys_any (mb : Option Nat) (w : World) : Calls Tryd.prog 42 #[.map mb] w fun e w' => e = .returned (.func (.func 54) #[] #[.pointer (some ⟨w.heap.size, 0, none⟩)]) ∧ w' = w.alloc (.cells #[.map mb] 68) :=
  (callsIn_wide (n := 5)).1 (AnyZI.keys_in Tryd.keysA Fence.wide 5 trivial rfl mb w)

theorem sorted_eq {ss : List Int} {ns : List Nat} (h : ss.Perm (ns.map fun n : Nat => (n : Int))) (hs : ns.Pairwise (· < ·)) : ss.mergeSort (fun x y => decide (x ≤ y)) = ns.map fun n : Nat => (n : Int) := by
  refine List.Perm.eq_of_pairwise (le := fun x y : Int => decide (x ≤ y) = true) (fun a b _ _ h1 h2 => ?_) ?_ ?_ ((List.mergeSort_perm _ _).trans h)
  · simp at h1 h2; omega
  · exact List.pairwise_mergeSort (fun a b c h1 h2 => by simp at *; omega) (fun a b => by simp; omega) _
  · exact List.Pairwise.map _ (fun a b hab => by simp; omega) hs

theorem pageNums_sorted (m : Pages) : (pageNums m).Pairwise (· < ·) := (List.pairwise_lt_range (n := 256)).filter _
theorem pageNums_length (m : Pages) : (pageNums m).length ≤ 256 := by
  have := List.length_filter_le (fun n => (m n).isSome) (List.range 256)
  simpa [pageNums] using this

/-- slices.Sorted of a space's keys. -/
theorem sorted_any (q b : Nat) (m : Pages) (w : World) (hm : ∀ n, 256 ≤ n → m n = none) (hs : Sp w b m) (hq : q < w.heap.size) (hc : w.cell? ⟨q, 0, none⟩ = some (.map (some b))) :
    Calls Tryd.prog 41 #[.func (.func 54) #[] #[.pointer (some ⟨q, 0, none⟩)]] w fun e w' => ∃ v, e = .returned v ∧
      w'.ownsRow w.heap.size 3 1 v (pageNums m).length ((pageNums m).map fun n : Nat => Value.int .i64 n) ∧ Below w.heap.size w w' := by
  obtain ⟨kv, h1, h2, h3⟩ := hs
  have hk := Sp.keys hm h1 h2 h3
  have hlen : kv.length = (pageNums m).length := by simpa using hk.length_eq
  have hle := pageNums_length m
  have hmax : kv.length ≤ maxLen := by rw [hlen]; exact Nat.le_trans hle (by unfold maxLen; omega)
  have hown := Mp.owns h1 hmax
  have hseq : SeqGives Fence.wide 2 Tryd.prog 54 #[.pointer (some ⟨q, 0, none⟩)] encZ (fun ss => ss.Perm (intKeys (D0 kv))) (Maps.size (D0 kv)) w :=
    AnyZI.keys_gives (ρ := Tryd.keysA_ren) { Tryd.keysA with } Fence.wide _ trivial rfl (by omega) q b kv.length (D0 kv) _ hq hc hown
  have cS := AnyZI.sorted_in Tryd.sortedA Fence.wide 5 trivial trivial trivial trivial rfl (by omega) (sorts _) (enters_of Tryd.func53 (by kernel_rfl) rfl) 54 #[.pointer (some ⟨q, 0, none⟩)] trivial (enters_of Tryd.func54 (by kernel_rfl) rfl) _ _ (by rw [D0_size]; exact hmax) (by rw [D0_size]; omega) _ hseq
  refine ((callsIn_wide (n := 5)).1 cS).mono ?_
  rintro e w' ⟨v, ss, rfl, hS, hrow, _, hb⟩
  have hp : ss.Perm ((pageNums m).map fun n : Nat => (n : Int)) := (hS.trans (D0_keys kv)).trans hk
  rw [sorted_eq hp (pageNums_sorted m), List.map_map, show ss.length = (pageNums m).length from by simpa using hp.length_eq] at hrow
  exact ⟨v, rfl, hrow, hb⟩
theorem sorted_none (q : Nat) (w : World) (hq : q < w.heap.size) (hc : w.cell? ⟨q, 0, none⟩ = some (.map none)) :
    Calls Tryd.prog 41 #[.func (.func 54) #[] #[.pointer (some ⟨q, 0, none⟩)]] w fun e w' => e = .returned (.slice none 0 0) ∧ Below w.heap.size w w' := by
  have hseq : SeqGives Fence.wide 2 Tryd.prog 54 #[.pointer (some ⟨q, 0, none⟩)] encZ (fun ss : List Int => ss = []) 0 w :=
    AnyZI.keys_gives_nil (ρ := Tryd.keysA_ren) { Tryd.keysA with } Fence.wide _ trivial rfl q _ hq hc
  have cS := AnyZI.sorted_in Tryd.sortedA Fence.wide 5 trivial trivial trivial trivial rfl (by omega) (sorts _) (enters_of Tryd.func53 (by kernel_rfl) rfl) 54 #[.pointer (some ⟨q, 0, none⟩)] trivial (enters_of Tryd.func54 (by kernel_rfl) rfl) _ 0 (Nat.zero_le _) (by omega) _ hseq
  refine ((callsIn_wide (n := 5)).1 cS).mono ?_
  rintro e w' ⟨v, ss, rfl, rfl, _, hnil, hb⟩
  exact ⟨by rw [hnil.2 rfl], hb⟩
end Go.Proofs.YtologfdegdljeaaDoor
