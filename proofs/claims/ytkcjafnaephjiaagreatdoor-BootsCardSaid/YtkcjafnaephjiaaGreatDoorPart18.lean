/- Library functions of the dump, laid at the proved contracts (written by a tool of the kit). -/
import Derived.Shelf.SlIterI.Nil
import Derived.Shelf.SortM.Plain
import Derived.Shelf.SortM.SortNone
import Derived.Ground.GgzProg
import Derived.Ground.SlgmProg
import Derived.Test.YtkcjafnaephjiaaGreatDoorProg
import Derived.Test.YtkcjafnaephjiaaGreatDoorPart05
import Derived.Laws.AppendOwn
import Derived.Test.YtkcjafnaephjiaaGreatDoorPart06
import Derived.Test.YtkcjafnaephjiaaGreatDoorPart01
set_option linter.unusedVariables false
set_option linter.unusedSimpArgs false
namespace Go.Proofs
open Go.Shelf
def Tryz.keysA_ren : Go.Shelf.Ren := ⟨fun | 7 => 78 | 10 => 96 | n => n, fun | 23 => 132 | 26 => 3 | 3 => 192 | 28 => 163 | 0 => 0 | 27 => 162 | 33 => 193 | 4 => 4 | n => n, fun | n => n⟩
theorem Tryz.keysA : Go.Proofs.SlLaysZI.n7 Tryz.prog Tryz.keysA_ren := {
  mixed := by kernel_rfl
  f7 := ⟨Tryz.f78.name, by decide, Tryz.func78.trans (congrArg some (by kernel_rfl))⟩
  f10 := ⟨Tryz.f96.name, by decide, Tryz.func96.trans (congrArg some (by kernel_rfl))⟩
  t0 := Tryz.underlying0
  a0 := Tryz.isAgg0
  z0 := Tryz.sizeOf0
  v0 := Tryz.zeroValue0
  t4 := Tryz.underlying4
  a4 := Tryz.isAgg4
  z4 := Tryz.sizeOf4
  v4 := Tryz.zeroValue4
  t23 := Tryz.underlying132
  a23 := Tryz.isAgg132
  z23 := Tryz.sizeOf132
  v23 := Tryz.zeroValue132
  t26 := Tryz.underlying3
  a26 := Tryz.isAgg3
  z26 := Tryz.sizeOf3
  v26 := Tryz.zeroValue3
  t27 := Tryz.underlying162
  a27 := Tryz.isAgg162
  z27 := Tryz.sizeOf162
  v27 := Tryz.zeroValue162
  t28 := Tryz.underlying163
  a28 := Tryz.isAgg163
  z28 := Tryz.sizeOf163
  v28 := Tryz.zeroValue163
  t33 := Tryz.underlying193
  a33 := Tryz.isAgg193
  z33 := Tryz.sizeOf193
  v33 := Tryz.zeroValue193 }
def Tryz.sortedA_ren : Go.Shelf.Ren := ⟨fun | 6 => 50 | 8 => 75 | 9 => 76 | 11 => 93 | 13 => 95 | 12 => 94 | 23 => 117 | 24 => 118 | 14 => 108 | 15 => 109 | 16 => 110 | 17 => 111 | 18 => 112 | 19 => 113 | 20 => 114 | 21 => 115 | 22 => 116 | 25 => 127 | 26 => 128 | 27 => 129 | 28 => 130 | 29 => 131 | 30 => 132 | 31 => 147 | n => n, fun | 26 => 3 | 28 => 163 | 24 => 125 | 0 => 0 | 3 => 3 | 37 => 250 | 48 => 276 | 50 => 74 | 4 => 4 | 40 => 270 | 39 => 269 | 45 => 211 | 5 => 5 | 9 => 9 | 51 => 281 | 55 => 285 | 57 => 295 | 58 => 103 | 33 => 193 | n => n, fun | n => n⟩
theorem Tryz.sortedA : Go.Proofs.SlLaysZI.n6 Tryz.prog Tryz.sortedA_ren := {
  mixed := by kernel_rfl
  f6 := ⟨Tryz.f50.name, by decide, Tryz.func50.trans (congrArg some (by kernel_rfl))⟩
  f8 := ⟨Tryz.f75.name, by decide, Tryz.func75.trans (congrArg some (by kernel_rfl))⟩
  f11 := ⟨Tryz.f93.name, by decide, Tryz.func93.trans (congrArg some (by kernel_rfl))⟩
  t0 := Tryz.underlying0
  a0 := Tryz.isAgg0
  z0 := Tryz.sizeOf0
  v0 := Tryz.zeroValue0
  t24 := Tryz.underlying125
  a24 := Tryz.isAgg125
  z24 := Tryz.sizeOf125
  v24 := Tryz.zeroValue125
  t26 := Tryz.underlying3
  a26 := Tryz.isAgg3
  z26 := Tryz.sizeOf3
  v26 := Tryz.zeroValue3
  t28 := Tryz.underlying163
  a28 := Tryz.isAgg163
  z28 := Tryz.sizeOf163
  v28 := Tryz.zeroValue163
  i26 := by kernel_rfl }
def Tryz.sortA_ren : Go.Shelf.Ren := ⟨fun | 5 => 76 | 8 => 95 | 7 => 94 | 19 => 117 | 20 => 118 | 10 => 108 | 11 => 109 | 12 => 110 | 13 => 111 | 14 => 112 | 15 => 113 | 16 => 114 | 17 => 115 | 18 => 116 | 30 => 127 | 31 => 128 | 32 => 129 | 33 => 130 | 34 => 131 | 35 => 132 | 40 => 147 | n => n, fun | 23 => 125 | 25 => 3 | 3 => 3 | 32 => 250 | 22 => 125 | 0 => 0 | 44 => 276 | 46 => 74 | 4 => 4 | 36 => 270 | 35 => 269 | 41 => 211 | 5 => 5 | 9 => 9 | 53 => 281 | 57 => 285 | 63 => 295 | 64 => 103 | n => n, fun | n => n⟩
theorem Tryz.sortA : Go.Proofs.SlLaysM.n5 Tryz.prog Tryz.sortA_ren := {
  mixed := by kernel_rfl
  f5 := ⟨Tryz.f76.name, by decide, Tryz.func76.trans (congrArg some (by kernel_rfl))⟩
  f7 := ⟨Tryz.f94.name, by decide, Tryz.func94.trans (congrArg some (by kernel_rfl))⟩
  f8 := Tryz.func95.trans (congrArg some (by kernel_rfl))
  f10 := ⟨Tryz.f108.name, by decide, Tryz.func108.trans (congrArg some (by kernel_rfl))⟩
  f11 := ⟨Tryz.f109.name, by decide, Tryz.func109.trans (congrArg some (by kernel_rfl))⟩
  f12 := ⟨Tryz.f110.name, by decide, Tryz.func110.trans (congrArg some (by kernel_rfl))⟩
  f13 := ⟨Tryz.f111.name, by decide, Tryz.func111.trans (congrArg some (by kernel_rfl))⟩
  f14 := ⟨Tryz.f112.name, by decide, Tryz.func112.trans (congrArg some (by kernel_rfl))⟩
  f15 := ⟨Tryz.f113.name, by decide, Tryz.func113.trans (congrArg some (by kernel_rfl))⟩
  f16 := ⟨Tryz.f114.name, by decide, Tryz.func114.trans (congrArg some (by kernel_rfl))⟩
  f17 := ⟨Tryz.f115.name, by decide, Tryz.func115.trans (congrArg some (by kernel_rfl))⟩
  f18 := ⟨Tryz.f116.name, by decide, Tryz.func116.trans (congrArg some (by kernel_rfl))⟩
  f19 := Tryz.func117.trans (congrArg some (by kernel_rfl))
  f20 := Tryz.func118.trans (congrArg some (by kernel_rfl))
  f30 := ⟨Tryz.f127.name, by decide, Tryz.func127.trans (congrArg some (by kernel_rfl))⟩
  f31 := Tryz.func128.trans (congrArg some (by kernel_rfl))
  f32 := Tryz.func129.trans (congrArg some (by kernel_rfl))
  f33 := ⟨Tryz.f130.name, by decide, Tryz.func130.trans (congrArg some (by kernel_rfl))⟩
  f34 := ⟨Tryz.f131.name, by decide, Tryz.func131.trans (congrArg some (by kernel_rfl))⟩
  f35 := ⟨Tryz.f132.name, by decide, Tryz.func132.trans (congrArg some (by kernel_rfl))⟩
  f40 := ⟨Tryz.f147.name, by decide, Tryz.func147.trans (congrArg some (by kernel_rfl))⟩
  t0 := Tryz.underlying0
  a0 := Tryz.isAgg0
  z0 := Tryz.sizeOf0
  v0 := Tryz.zeroValue0
  t3 := Tryz.underlying3
  a3 := Tryz.isAgg3
  z3 := Tryz.sizeOf3
  v3 := Tryz.zeroValue3
  t4 := Tryz.underlying4
  a4 := Tryz.isAgg4
  z4 := Tryz.sizeOf4
  v4 := Tryz.zeroValue4
  t5 := Tryz.underlying5
  a5 := Tryz.isAgg5
  z5 := Tryz.sizeOf5
  v5 := Tryz.zeroValue5
  t9 := Tryz.underlying9
  a9 := Tryz.isAgg9
  z9 := Tryz.sizeOf9
  v9 := Tryz.zeroValue9
  t22 := Tryz.underlying125
  a22 := Tryz.isAgg125
  z22 := Tryz.sizeOf125
  v22 := Tryz.zeroValue125
  t23 := Tryz.underlying125
  a23 := Tryz.isAgg125
  z23 := Tryz.sizeOf125
  v23 := Tryz.zeroValue125
  t25 := Tryz.underlying3
  a25 := Tryz.isAgg3
  z25 := Tryz.sizeOf3
  v25 := Tryz.zeroValue3
  t32 := Tryz.underlying250
  a32 := Tryz.isAgg250
  z32 := Tryz.sizeOf250
  v32 := Tryz.zeroValue250
  t35 := Tryz.underlying269
  a35 := Tryz.isAgg269
  z35 := Tryz.sizeOf269
  v35 := Tryz.zeroValue269
  t36 := Tryz.underlying270
  a36 := Tryz.isAgg270
  z36 := Tryz.sizeOf270
  v36 := Tryz.zeroValue270
  t41 := Tryz.underlying211
  a41 := Tryz.isAgg211
  z41 := Tryz.sizeOf211
  v41 := Tryz.zeroValue211
  t44 := Tryz.underlying276
  a44 := Tryz.isAgg276
  z44 := Tryz.sizeOf276
  v44 := Tryz.zeroValue276
  t46 := Tryz.underlying74
  a46 := Tryz.isAgg74
  z46 := Tryz.sizeOf74
  v46 := Tryz.zeroValue74
  t53 := Tryz.underlying281
  a53 := Tryz.isAgg281
  z53 := Tryz.sizeOf281
  v53 := Tryz.zeroValue281
  t57 := Tryz.underlying285
  a57 := Tryz.isAgg285
  z57 := Tryz.sizeOf285
  v57 := Tryz.zeroValue285
  t63 := Tryz.underlying295
  a63 := Tryz.isAgg295
  z63 := Tryz.sizeOf295
  v63 := Tryz.zeroValue295
  t64 := Tryz.underlying103
  a64 := Tryz.isAgg103
  z64 := Tryz.sizeOf103
  v64 := Tryz.zeroValue103 }
end Go.Proofs

/- The pages of a space, by their numbers: slices.Sorted(maps.Keys(m)). -/
namespace Go.Proofs.YtkcjafnaephjiaaGreatDoor
open Go.RowKit Go.Maps Go.Sort Go.Shelf
set_option maxRecDepth 100000

/-- The numbers of the pages that are there. -/
def pageNums (m : Pages) : List Nat := (List.range 256).filter fun n => (m n).isSome

def R0 : Value → Option (DataW Unit × List MemPlace) := fun _ => some (.nil, [])
def D0 (kv : List (Int × Value)) : DataW Unit := .map ((kv.map fun p => (Lit.int .i64 p.1, .nil)).foldr DataW.insert [])

theorem Mp.owns {w : World} {b : Nat} {kv : List (Int × Value)} (h : Mp keyI w b kv) (hl : kv.length ≤ maxLen) : w.ownsMap Tryz.prog 3 R0 b kv.length (D0 kv) := by
  obtain ⟨es, clock, h1, h2, h3, h4⟩ := h
  have hlen : es.size = kv.length := by have := congrArg List.length h3; simpa using this
  have hrd : ∀ a v, keyI.ok a → ∀ c, Go.WideElems.rd Tryz.prog 3 R0 ⟨.int .i64 a, v, c⟩ = some (Lit.int .i64 a, .nil) := by
    intro a v ha c
    have : keyOf Tryz.prog 3 (.int .i64 a) = some (.int .i64 a) := keyI.read a ha
    simp [Go.WideElems.rd, this, R0]
  have hent : ∀ x ∈ es.toList, ∃ p ∈ kv, x.key = .int .i64 p.1 := by
    intro x hx
    have hm : (x.key, x.val) ∈ kv.map (fun p => (keyI.kf p.1, p.2)) := by rw [← h3]; exact List.mem_map.2 ⟨x, hx, rfl⟩
    obtain ⟨p, hp, e⟩ := List.mem_map.1 hm
    injection e with e1 _
    exact ⟨p, hp, e1.symm⟩
  have hone : ∀ x ∈ es.toList, ∀ a, x.key = .int .i64 a → keyI.ok a → Go.WideElems.rd Tryz.prog 3 R0 x = some (Lit.int .i64 a, .nil) := by
    rintro ⟨k, v, c⟩ _ a rfl ha
    exact hrd a v ha c
  refine ⟨es, clock, h1, ⟨by omega, h2, fun x hx => ?_⟩, by omega, ?_⟩
  · obtain ⟨p, hp, e⟩ := hent x hx
    exact ⟨_, hone x hx p.1 e (h4 p hp)⟩
  · unfold D0
    congr 2
    apply List.ext_getElem?
    intro i
    have h3i := congrArg (·[i]?) h3
    simp only [List.getElem?_map] at h3i ⊢
    cases he : es.toList[i]? with
    | none =>
      rw [he] at h3i
      cases hk : kv[i]? with
      | none => rfl
      | some p => rw [hk] at h3i; cases h3i
    | some x =>
      rw [he] at h3i
      cases hk : kv[i]? with
      | none => rw [hk] at h3i; cases h3i
      | some p =>
        rw [hk] at h3i
        simp only [Option.map_some, Option.some.injEq, Prod.mk.injEq] at h3i
        have := hone x (List.mem_of_getElem? he) p.1 h3i.1 (h4 p (List.mem_of_getElem? hk))
        simp only [Option.map_some, Go.WideElems.rg, this, Option.getD_some]

theorem D0_keys (kv : List (Int × Value)) : (intKeys (D0 kv)).Perm (kv.map Prod.fst) := by
  unfold D0 intKeys
  have := (Go.WideShapes.sorted_perm (kv.map fun p => (Lit.int .i64 p.1, (.nil : DataW Unit)))).map (fun p => Go.intOf p.1)
  refine this.trans ?_
  rw [List.map_map]
  exact List.Perm.refl _
theorem D0_size (kv : List (Int × Value)) : Maps.size (D0 kv) = kv.length := by
  unfold D0
  rw [size_eq, length_sorted, List.length_map]

theorem getKv_isSome {kv : List (Int × Value)} {a : Int} : (getKv kv a).isSome = true ↔ a ∈ kv.map Prod.fst := by
  unfold getKv
  rw [Option.isSome_map, List.find?_isSome]
  simp only [decide_eq_true_eq, List.mem_map]

theorem Sp.keys {w : World} {b : Nat} {m : Pages} {kv : List (Int × Value)} (hm : ∀ n, 256 ≤ n → m n = none) (h1 : Mp keyI w b kv) (h2 : ∀ n : Nat, getKv kv (n : Int) = (m n).map Pg.v) (h3 : ∀ p ∈ kv, 0 ≤ p.1) :
    (kv.map Prod.fst).Perm ((pageNums m).map fun n : Nat => (n : Int)) := by
  refine (List.perm_ext_iff_of_nodup h1.nodup ?_).2 fun x => ?_
  · refine List.Pairwise.map _ (fun a b hab e => hab (by omega)) ((List.nodup_range (n := 256)).filter _)
  · constructor
    · intro hx
      obtain ⟨p, hp, rfl⟩ := List.mem_map.1 hx
      obtain ⟨n, hn⟩ := Int.eq_ofNat_of_zero_le (h3 p hp)
      have hs : (getKv kv (n : Int)).isSome = true := getKv_isSome.2 (hn ▸ hx)
      rw [h2 n, Option.isSome_map] at hs
      refine List.mem_map.2 ⟨n, ?_, hn.symm⟩
      refine List.mem_filter.2 ⟨List.mem_range.2 ?_, hs⟩
      by_cases hlt : n < 256
      · exact hlt
      · rw [hm n (by omega)] at hs; cases hs
    · intro hx
      obtain ⟨n, hn, rfl⟩ := List.mem_map.1 hx
      have hs := (List.mem_filter.1 hn).2
      refine getKv_isSome.1 ?_
      rw [h2 n, Option.isSome_map]
      exact hs

theorem sorts (m : Nat) : AnyZI.SortsIn Tryz.prog Tryz.sortedA_ren Fence.wide m :=
  ⟨fun blk off cap ss W hH hblk hsz => callsIn_wide.2 (AnyM.slices_Sort_int Tryz.sortA blk off cap ss W hH hblk hsz),
   fun p cap W => callsIn_wide.2 (AnyM.slices_Sort_int_none Tryz.sortA p cap W)⟩

/-- maps.Keys(m). -/
theorem keys_any (mb : Option Nat) (w : World) : Calls Tryz.prog 78 #[.map mb] w fun e w' => e = .returned (.func (.func 96) #[] #[.pointer (some ⟨w.heap.size, 0, none⟩)]) ∧ w' = w.alloc (.cells #[.map mb] 132) :=
  (callsIn_wide (n := 5)).1 (AnyZI.keys_in Tryz.keysA Fence.wide 5 trivial rfl mb w)

theorem sorted_eq {ss : List Int} {ns : List Nat} (h : ss.Perm (ns.map fun n : Nat => (n : Int))) (hs : ns.Pairwise (· < ·)) : ss.mergeSort (fun x y => decide (x ≤ y)) = ns.map fun n : Nat => (n : Int) := by
  refine List.Perm.eq_of_pairwise (le := fun x y : Int => decide (x ≤ y) = true) (fun a b _ _ h1 h2 => ?_) ?_ ?_ ((List.mergeSort_perm _ _).trans h)
  · simp at h1 h2; omega
  · exact List.pairwise_mergeSort (fun a b c h1 h2 => by simp at *; omega) (fun a b => by simp; omega) _
  · exact List.Pairwise.map _ (fun a b hab => by simp; omega) hs

theorem pageNums_sorted (m : Pages) : (pageNums m).Pairwise (· < ·) := (List.pairwise_lt_range (n := 256)).filter _
theorem pageNums_length (m : Pages) : (pageNums m).length ≤ 256 := by
  have := List.length_filter_le (fun n => (m n).isSome) (List.range 256)
  simpa [pageNums] using this

/-- slices.Sorted of a space's keys. -/
theorem sorted_any (q b : Nat) (m : Pages) (w : World) (hm : ∀ n, 256 ≤ n → m n = none) (hs : Sp w b m) (hq : q < w.heap.size) (hc : w.cell? ⟨q, 0, none⟩ = some (.map (some b))) :
    Calls Tryz.prog 50 #[.func (.func 96) #[] #[.pointer (some ⟨q, 0, none⟩)]] w fun e w' => ∃ v, e = .returned v ∧
      w'.ownsRow w.heap.size 3 1 v (pageNums m).length ((pageNums m).map fun n : Nat => Value.int .i64 n) ∧ Below w.heap.size w w' := by
  obtain ⟨kv, h1, h2, h3⟩ := hs
  have hk := Sp.keys hm h1 h2 h3
  have hlen : kv.length = (pageNums m).length := by simpa using hk.length_eq
  have hle := pageNums_length m
  have hmax : kv.length ≤ maxLen := by rw [hlen]; exact Nat.le_trans hle (by unfold maxLen; omega)
  have hown := Mp.owns h1 hmax
  have hseq : SeqGives Fence.wide 2 Tryz.prog 96 #[.pointer (some ⟨q, 0, none⟩)] encZ (fun ss => ss.Perm (intKeys (D0 kv))) (Maps.size (D0 kv)) w :=
    AnyZI.keys_gives (ρ := Tryz.keysA_ren) { Tryz.keysA with } Fence.wide _ trivial rfl (by omega) q b kv.length (D0 kv) _ hq hc hown
  have cS := AnyZI.sorted_in Tryz.sortedA Fence.wide 5 trivial trivial trivial trivial rfl (by omega) (sorts _) (enters_of Tryz.func76 (by kernel_rfl) rfl) 96 #[.pointer (some ⟨q, 0, none⟩)] trivial (enters_of Tryz.func96 (by kernel_rfl) rfl) _ _ (by rw [D0_size]; exact hmax) (by rw [D0_size]; omega) _ hseq
  refine ((callsIn_wide (n := 5)).1 cS).mono ?_
  rintro e w' ⟨v, ss, rfl, hS, hrow, _, hb⟩
  have hp : ss.Perm ((pageNums m).map fun n : Nat => (n : Int)) := (hS.trans (D0_keys kv)).trans hk
  rw [sorted_eq hp (pageNums_sorted m), List.map_map, show ss.length = (pageNums m).length from by simpa using hp.length_eq] at hrow
  exact ⟨v, rfl, hrow, hb⟩
theorem sorted_none (q : Nat) (w : World) (hq : q < w.heap.size) (hc : w.cell? ⟨q, 0, none⟩ = some (.map none)) :
    Calls Tryz.prog 50 #[.func (.func 96) #[] #[.pointer (some ⟨q, 0, none⟩)]] w fun e w' => e = .returned (.slice none 0 0) ∧ Below w.heap.size w w' := by
  have hseq : SeqGives Fence.wide 2 Tryz.prog 96 #[.pointer (some ⟨q, 0, none⟩)] encZ (fun ss : List Int => ss = []) 0 w :=
    AnyZI.keys_gives_nil (ρ := Tryz.keysA_ren) { Tryz.keysA with } Fence.wide _ trivial rfl q _ hq hc
  have cS := AnyZI.sorted_in Tryz.sortedA Fence.wide 5 trivial trivial trivial trivial rfl (by omega) (sorts _) (enters_of Tryz.func76 (by kernel_rfl) rfl) 96 #[.pointer (some ⟨q, 0, none⟩)] trivial (enters_of Tryz.func96 (by kernel_rfl) rfl) _ 0 (Nat.zero_le _) (by omega) _ hseq
  refine ((callsIn_wide (n := 5)).1 cS).mono ?_
  rintro e w' ⟨v, ss, rfl, rfl, _, hnil, hb⟩
  exact ⟨by rw [hnil.2 rfl], hb⟩
end Go.Proofs.YtkcjafnaephjiaaGreatDoor

/- (Space).Pages: a row of pages. -/
namespace Go.Proofs.YtkcjafnaephjiaaGreatDoor
open Go.RowKit Go.Maps
set_option maxRecDepth 100000

/-- A page as the program hands it out. -/
def apiCells (n : Nat) (p : Pg) : List Value := .int .i64 n :: .int .u8 p.perm :: p.bytes.map (Value.int .u8)
def pagesCells (m : Pages) (ns : List Nat) : List Value := ns.flatMap fun n => apiCells n ((m n).getD Pg.zero)

theorem pageInfo : (Tryz.prog.info? 87).map (fun i => (i.size, i.bytes, (i.zero.map (·.cells.size)))) = some (258, 272, some 258) := by kernel_rfl
theorem built_page (n : Int) (p : Pg) (hp : p.bytes.length = 256) :
    Tryz.prog.built 87 [(0, .int .i64 n), (1, .int .u8 p.perm), (2, .agg (p.bytes.map (Value.int .u8)).toArray)] = some (Value.int .i64 n :: .int .u8 p.perm :: p.bytes.map (Value.int .u8)).toArray := by
  refine built_struct (places := [(0, 1), (1, 1), (2, 256)]) pageInfo Tryz.underlying87 (by kernel_rfl) _ _ fun z hz => ?_
  obtain ⟨z0, z', rfl, h0, hz'⟩ := split_at z 1 257 hz
  obtain ⟨z1, z2, rfl, h1, h2⟩ := split_at z' 1 256 hz'
  rw [show z0 ++ (z1 ++ z2) = [] ++ (z0 ++ (z1 ++ z2)) from rfl, fill_next _ _ _ _ _ _ _ rfl h0]
  rw [show [] ++ ((Value.int .i64 n).cells.toList ++ (z1 ++ z2)) = [Value.int .i64 n] ++ (z1 ++ z2) from rfl, fill_next _ _ _ _ _ _ _ rfl h1]
  rw [show [Value.int .i64 n] ++ ((Value.int .u8 p.perm).cells.toList ++ z2) = [Value.int .i64 n, .int .u8 p.perm] ++ (z2 ++ []) from by simp [Value.cells], fill_next _ _ _ _ _ _ _ (by simp [Value.cells, hp]) (by simp [Value.cells, hp, h2])]
  simp [Instr.fill, Value.cells]
theorem field_bytes (p : Pg) (hp : p.bytes.length = 256) (w : World) : (Instr.field 192 p.v 1).run Tryz.prog w = .ok (.agg (p.bytes.map (Value.int .u8)).toArray) w := by
  have e1 : (isAgg 85).run Tryz.prog w = .ok true w := by kernel_rfl
  have e2 : (sizeOf 85).run Tryz.prog w = .ok 256 w := by kernel_rfl
  simp only [Instr.field, Pg.v, Pg.cells, Sem.run_bind, run_underlying Tryz.underlying192, Result.andThen_ok, asAgg]
  simp [part, e1, e2, hp]
  exact List.take_of_length_le (by simp [hp])

theorem field_perm1 (p : Pg) (w : World) : (Instr.field 192 p.v 0).run Tryz.prog w = .ok (.int .u8 p.perm) w := field_perm p w
theorem apiCells_length (n : Nat) (p : Pg) (hp : p.bytes.length = 256) : (apiCells n p).length = 258 := by simp [apiCells, hp]
theorem apiCells_one (n : Nat) (p : Pg) : ∀ v ∈ apiCells n p, v.oneCell' = true := by
  intro v hv
  simp only [apiCells, List.mem_cons, List.mem_map] at hv
  rcases hv with rfl | rfl | ⟨x, _, rfl⟩ <;> rfl

set_option maxHeartbeats 4000000 in
theorem pages_any (b : Nat) (m : Pages) (w : World) (hs : Sp w b m) (hm : PagesOk m) :
    Calls Tryz.prog 52 #[.map (some b)] w fun e w' => ∃ v, e = .returned v ∧
      w'.ownsRow w.heap.size 87 258 v (pageNums m).length (pagesCells m (pageNums m)) ∧ Bel w w' := by
  have hn1 := pageNums_length m
  obtain ⟨ns, hns⟩ : ∃ ns, ns = pageNums m := ⟨_, rfl⟩
  rw [← hns] at hn1 ⊢
  have hin : ∀ k, (h : k < ns.length) → ∃ p, m ns[k] = some p ∧ p.wf := by
    intro k h
    have : ns[k] ∈ pageNums m := by rw [← hns]; exact List.getElem_mem h
    obtain ⟨p, hp⟩ := Option.isSome_iff_exists.1 (List.mem_filter.1 this).2
    exact ⟨p, hp, hm.wf _ p hp⟩
  have HN := Lib.hid hns
  have HIN := Lib.hid hin
  clear hns hin
  go_enter Tryz.func52, Tryz.ntmps52
  go_wp2_with (first
    | (go_at_call 78; refine (keys_any (some b) _).mono ?_; rintro e w1 ⟨rfl, rfl⟩)
    | (go_at_call 50; refine (sorted_any w.heap.size b m _ hm.below (hs.alloc _) (by simp) (by simp)).mono ?_; rintro e w2 ⟨v, rfl, hrow0, k2⟩
       rw [← HN.out] at hrow0
       obtain ⟨ps, cap, rfl, hcap, _, hps⟩ := row_slice hrow0
       have K2 : Bel w w2 := (Below.heap_alloc' w _).trans (k2.mono (by simp))
       have HPS := Lib.hid hps
       clear hps hrow0 k2))
  go_loopw [3, 10] (fun l i wr => ∃ (k : Nat), k ≤ ns.length ∧ i = .int .i64 k ∧ wr.ownsRow w2.heap.size 87 258 l k (pagesCells m (ns.take k)) ∧ Below w2.heap.size w2 wr) (fun _ i _ => ns.length - (intOf i).toNat)
  case atStart => exact ⟨0, Nat.zero_le _, rfl, ⟨rfl, .inl ⟨rfl, rfl⟩⟩, Below.refl _ _⟩
  case round =>
    obtain ⟨k, hk, rfl, hrow, kr⟩ := hrel
    by_cases hlt : k < ns.length
    · obtain ⟨gs, rfl, hb0, hb1, hcells, _⟩ := HPS.out.resolve_left (by omega)
      obtain ⟨p, hp, hpw⟩ := HIN.out k hlt
      have hc : wr.cell? ⟨gs, k, none⟩ = some (.int .i64 (ns[k] : Nat)) := by
        rw [World.cell?_of_block (a := ⟨gs, k, none⟩) (kr.block gs hb1), hcells k (by simpa using hlt)]
        simp [hlt]
      have hsr : Sp wr b m := (hs.bel K2).bel kr
      have hl := hsr.lookup ns[k] (by
        have h1 : ns[k] ∈ pageNums m := by rw [← HN.out]; exact List.getElem_mem hlt
        have := List.mem_range.1 (List.mem_filter.1 h1).1
        omega)
      have hx : pagesCells m (ns.take (k + 1)) = pagesCells m (ns.take k) ++ apiCells ns[k] p := by
        rw [List.take_succ_eq_append_getElem hlt, pagesCells, List.flatMap_append, List.flatMap_singleton, hp]
        rfl
      rw [hp, Option.getD_some] at hl
      have f1 := field_perm p
      have f2 := field_bytes p hpw.len
      have HX := Lib.hid hx
      have HCL := Lib.hid (apiCells_length ns[k] p hpw.len)
      have HB := Lib.hid (built_page (ns[k] : Nat) p hpw.len)
      have HPS' := Lib.hid hcells
      have HROW := Lib.hid hrow
      have HP := Lib.hid hp
      clear hx hcells hrow hp HPS
      generalize hnk : ns[k] = nk at *
      have HNK := Lib.hid hnk
      clear hnk
      have hbase := kr.size
      go_wp2_with (first
        | (refine wpList_buildTo rfl 87 _ rfl (some 24) rfl (apiCells nk p).toArray (by simp only [List.map_toArray, List.map_cons, List.map_nil]; exact HB.out) ?_)
        | (refine wpList_buildSlice_one rfl 76 87 (.tmp 24) rfl (apiCells nk p) rfl Tryz.underlying76 (by rw [HCL.out]; exact pageInfo) (by rw [HCL.out]; omega) (by rw [HCL.out]; decide) ?_; intro w3 B3 K3)
        | (refine wpList_append_one rfl (.tmp 14) (.tmp 25) 76 rfl Tryz.underlying76 pageInfo (by omega) rfl (row_bel HROW.out K3) wr.heap.size (apiCells nk p) 87 rfl B3.out HCL.out (apiCells_one nk p) (by unfold maxLen; omega) (by omega) (Nat.le_trans hbase K3.size) ?_; intro v5 w5 R5 K5))
      exact ⟨⟨k + 1, by omega, by go_num, by rw [HX.out]; exact R5, (kr.trans (K3.mono hbase)).trans (K5.below _ (Nat.le_trans hbase K3.size) fun i hi => hi)⟩, by simp only [intOf]; omega⟩
    · obtain rfl : k = ns.length := by omega
      rw [List.take_length] at hrow
      have HROW := Lib.hid hrow
      clear hrow
      go_wp2
      go_ret
      exact ⟨_, rfl, HROW.out.mono K2.size, K2.tr kr⟩

set_option maxHeartbeats 4000000 in
theorem pages_none (w : World) :
    Calls Tryz.prog 52 #[.map none] w fun e w' => e = .returned (.slice none 0 0) ∧ Bel w w' := by
  go_enter Tryz.func52, Tryz.ntmps52
  go_wp2_with (first
    | (go_at_call 78; refine (keys_any none _).mono ?_; rintro e w1 ⟨rfl, rfl⟩)
    | (go_at_call 50; refine (sorted_none w.heap.size _ (by simp) (by simp)).mono ?_; rintro e w2 ⟨rfl, k2⟩))
  refine wp_loop_rounds 1 ?_
  rw [rounds_succ]
  go_wp2
  go_ret
  exact ⟨rfl, (Below.heap_alloc' w _).trans (k2.mono (by simp))⟩
end Go.Proofs.YtkcjafnaephjiaaGreatDoor
