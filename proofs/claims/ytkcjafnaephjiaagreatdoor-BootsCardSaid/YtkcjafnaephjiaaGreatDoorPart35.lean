/- cmp.Compare of texts. -/
import Derived.WalkLawsBesides
import Derived.Sort.Walk0
import Derived.Test.YtkcjafnaephjiaaGreatDoorPart31
import Derived.Sort.OwnSorted
import Derived.Test.YtkcjafnaephjiaaGreatDoorPart33
import Derived.Test.YtkcjafnaephjiaaGreatDoorPart19
import Derived.Deep.RegionWith
import Derived.Laws.EntriesVeiled
import Derived.Test.YtkcjafnaephjiaaGreatDoorPart34
set_option linter.unusedVariables false
set_option linter.unusedSimpArgs false
namespace Go.Proofs.YtkcjafnaephjiaaGreatDoor
open Go.RowKit
set_option maxRecDepth 100000

set_option maxHeartbeats 4000000 in
theorem isNaN_any (a : ByteArray) (w : World) : Calls Tryz.prog 123 #[.string a] w fun e w' => e = .returned (.bool false) ∧ w = w' := by
  go_enter Tryz.func123, Tryz.ntmps123
  go_wp2
  go_ret
  exact ⟨rfl, rfl⟩
/-- How two texts lie to each other. -/
def pcmp (a b : List UInt8) : Int := if a < b then -1 else if a = b then 0 else 1
set_option maxHeartbeats 4000000 in
theorem cmpS_any (a b : ByteArray) (w : World) : Calls Tryz.prog 101 #[.string a, .string b] w fun e w' => e = .returned (.int .i64 (pcmp a.data.toList b.data.toList)) ∧ w = w' := by
  go_enter Tryz.func101, Tryz.ntmps101
  go_wp2_with (go_at_call 123; ((with_reducible refine Calls.mono (isNaN_any _ _) ?_); rintro e w1 ⟨rfl, hh⟩; subst hh))
  · have h : Op.bytesLess a.toList b.toList = true := by assumption
    rw [ByteArray.toList_eq, ByteArray.toList_eq, bytesLess_eq] at h
    go_ret
    refine ⟨?_, rfl⟩
    rw [pcmp, if_pos (by simpa using h)]
    rfl
  · have h1 : Op.bytesLess a.toList b.toList = false := by assumption
    have h2 : (!a.toList == b.toList) = true := by assumption
    rw [ByteArray.toList_eq, ByteArray.toList_eq, bytesLess_eq] at h1
    rw [ByteArray.toList_eq, ByteArray.toList_eq] at h2
    go_ret
    refine ⟨?_, rfl⟩
    rw [pcmp, if_neg (by simpa using h1), if_neg (by simpa using h2)]
    rfl
  · have h1 : Op.bytesLess a.toList b.toList = false := by assumption
    have h2 : (!a.toList == b.toList) = false := by assumption
    rw [ByteArray.toList_eq, ByteArray.toList_eq, bytesLess_eq] at h1
    rw [ByteArray.toList_eq, ByteArray.toList_eq] at h2
    go_ret
    refine ⟨?_, rfl⟩
    rw [pcmp, if_neg (by simpa using h1), if_pos (by simpa using h2)]
    rfl
end Go.Proofs.YtkcjafnaephjiaaGreatDoor

/- files.byPath: the files by their paths. -/
namespace Go.Proofs.YtkcjafnaephjiaaGreatDoor
open Go.RowKit Go.Sort Go.Shelf
set_option maxRecDepth 100000

instance : Inhabited FileR := ⟨⟨[], false, [], none, 0⟩⟩
def fcmp (x y : FileR) : Int := pcmp x.path y.path
theorem fcmp_lt (x y : FileR) : ltOf fcmp x y = decide (x.path < y.path) := by
  unfold ltOf fcmp pcmp
  by_cases h : x.path < y.path
  · rw [if_pos h]; simp [h]
  · rw [if_neg h]
    by_cases e : x.path = y.path
    · rw [if_pos e]; simp [h]
    · rw [if_neg e]; simp [h]
theorem fcmp_swo : SWO (ltOf fcmp) where
  irrefl x := by rw [fcmp_lt]; simp [List.lt_irrefl]
  trans x y z h1 h2 := by
    rw [fcmp_lt] at *
    simp only [decide_eq_true_eq] at *
    exact List.lt_trans h1 h2
  ntrans x y z h1 h2 := by
    rw [fcmp_lt] at *
    simp only [decide_eq_false_iff_not] at *
    rw [List.not_lt] at *
    exact List.le_trans h2 h1
theorem grow_two (w : World) (a b : Obj) : (w.alloc a).alloc b = grow w #[a, b] := by
  rw [alloc_eq_grow, alloc_eq_grow, grow_grow]
  rfl
set_option maxHeartbeats 4000000 in
theorem byPathF_any (x y : FileR) (w : World) : Calls Tryz.prog 100 #[.agg x.cells.toArray, .agg y.cells.toArray] w fun e w' => e = .returned (.int .i64 (fcmp x y)) ∧ ∃ os, w' = grow w os := by
  have hc := cmpS_any ⟨x.path.toArray⟩ ⟨y.path.toArray⟩
  have HC := Lib.hid hc
  have HF : Hid (pcmp (⟨x.path.toArray⟩ : ByteArray).data.toList (⟨y.path.toArray⟩ : ByteArray).data.toList = fcmp x y) := Lib.hid rfl
  clear hc
  have ex : x.cells.toArray = #[.string ⟨x.path.toArray⟩, .bool x.dir, x.bv] := rfl
  have ey : y.cells.toArray = #[.string ⟨y.path.toArray⟩, .bool y.dir, y.bv] := rfl
  rw [ex, ey]
  generalize (⟨x.path.toArray⟩ : ByteArray) = sx at *
  generalize (⟨y.path.toArray⟩ : ByteArray) = sy at *
  clear ex ey
  go_enter Tryz.func100, Tryz.ntmps100
  go_wp2_with (go_at_call 101; ((with_reducible refine Calls.mono (HC.out _) ?_); rintro e w1 ⟨rfl, hh⟩; subst hh))
  go_ret
  exact ⟨by rw [← HF.out]; rfl, _, grow_two _ _ _⟩
theorem flatK_list (d : List FileR) : (flatK FileR.cells 3 d.toArray).toList = d.flatMap FileR.cells := by
  apply List.ext_getElem?
  intro t
  have h3 : ∀ x ∈ d, (FileR.cells x).length = 3 := fun _ _ => rfl
  by_cases ht : t < d.length * 3
  · have e := flat_at FileR.cells 3 d h3 (t / 3) (t % 3) (Nat.mod_lt _ (by omega))
    rw [show t / 3 * 3 + t % 3 = t from by omega] at e
    rw [e, List.getElem?_eq_getElem (show t / 3 < d.length by omega)]
    have hs : t < (flatK FileR.cells 3 d.toArray).size := by simpa using ht
    rw [Array.getElem?_toList, Array.getElem?_eq_getElem hs]
    have := get_flatK FileR.cells 3 d.toArray t (by simpa using ht)
    rw [getElem!_pos _ t hs, getElem!_pos _ (t / 3) (by simp; omega)] at this
    rw [this]
    simp only [Option.bind_some, List.getElem_toArray]
    rw [getElem!_pos _ (t % 3) (by show t % 3 < 3; omega)]
    exact (List.getElem?_eq_getElem _).symm
  · rw [List.getElem?_eq_none (by simp; omega), List.getElem?_eq_none (by rw [rowsLen]; omega)]
theorem heap_sortK {w : World} {g n : Nat} {os : Array Obj} {cur : Array Value} {e : TypeId} {fr : Nat × Nat} (d : Array Value) (hb : w.heap[g]? = some (.cells cur e fr)) :
    (grow (putRow id (Sort.ahead w n) g 0 d) os).heap[g]? = some (.cells (putCells id 0 d cur) e fr) := by
  have hg : g < w.heap.size := (Array.getElem?_eq_some_iff.1 hb).1
  rw [heap_grow_old _ _ (by simpa using hg)]
  simp [putRow, mapBlock, Sort.ahead, Array.getElem?_modify, hb, onCells]
theorem keep_sortK {w : World} {g n : Nat} {os : Array Obj} (d : Array Value) : Keep (fun q => q = g) w (grow (putRow id (Sort.ahead w n) g 0 d) os) := by
  refine ⟨rfl, rfl, rfl, by simp, fun k hk hne => ?_⟩
  rw [heap_grow_old _ _ (by simpa using hk)]
  have : g ≠ k := fun e => hne e.symm
  simp [putRow, mapBlock, Sort.ahead, Array.getElem?_modify, this]
theorem take_putK (cur : Array Value) (ts : List Value) (h : ts.length ≤ cur.size) : (putCells id 0 ts.toArray cur).toList.take ts.length = ts := by
  apply List.ext_getElem?
  intro j
  by_cases hj : j < ts.length
  · rw [List.getElem?_take_of_lt hj, Array.getElem?_toList]
    simp [putCells, hj, show j < cur.size by omega]
  · rw [List.getElem?_take_eq_none (by omega), List.getElem?_eq_none (by omega)]
/-- The files in the order of their paths: no path twice. -/
def ByPath (R : List FileR) : Prop := R.Pairwise fun x y => ¬ y.path < x.path
set_option maxHeartbeats 4000000 in
theorem byPath_any (base : Nat) (v : Value) (R : List FileR) (w : World) (h : FRows w base v R) (hl : R.length ≤ 100000) :
    Calls Tryz.prog 82 #[v] w fun e w' => e = .returned v ∧ ∃ R', R'.Perm R ∧ ByPath R' ∧ FRows w' base v R' ∧ Keep (fun q => v.ownBlock = some q) w w' := by
  rcases h.row.2 with ⟨rfl, h0⟩ | ⟨g, cap, cur, rfl, h2, h3, h4, h5, h6, h7⟩
  · obtain rfl := List.eq_nil_of_length_eq_zero h0
    have hs : ∀ W : World, Calls Tryz.prog 99 #[.slice none 0 0, .func (.func 100) #[] #[]] W fun e w' => e = .returned (.tuple #[]) ∧ w' = W := fun W => AnyF.slices_SortFunc_none Tryz.sortF none 0 (.func (.func 100) #[] #[]) W
    have HS := Lib.hid hs
    have HH := Lib.hid h
    clear hs h h0
    go_enter Tryz.func82, Tryz.ntmps82
    go_wp2_with (go_at_call 99; ((with_reducible refine Calls.mono (HS.out _) ?_); rintro e w1 ⟨rfl, hh⟩; subst hh))
    go_ret
    exact ⟨rfl, [], List.Perm.refl _, List.Pairwise.nil, HH.out, Keep.refl _ _⟩
  · have hgl : g < w.heap.size := (Array.getElem?_eq_some_iff.1 h3).1
    have hH : HoldsK FileR.cells 3 w g 0 R.toArray := by
      intro j hj
      have hj' : j < R.length * 3 := by simpa using hj
      refine ⟨?_, by simp [World.frozen?, h3]⟩
      have e1 : (flatK FileR.cells 3 R.toArray)[j]! = (R.flatMap FileR.cells)[j]'(by rw [rowsLen]; exact hj') := by
        rw [getElem!_pos _ j hj]
        have := congrArg (·[j]?) (flatK_list R)
        simp only [Array.getElem?_toList] at this
        rw [Array.getElem?_eq_getElem hj, List.getElem?_eq_getElem (by rw [rowsLen]; exact hj')] at this
        exact Option.some.inj this
      rw [e1]
      have h8 := congrArg (·[j]?) h7
      simp only [List.getElem?_take, if_pos hj'] at h8
      rw [List.getElem?_eq_getElem (l := R.flatMap FileR.cells) (by rw [rowsLen]; exact hj')] at h8
      simp only [World.cell?, h3, Nat.zero_add]
      simp only [Option.isSome_none, Bool.false_eq_true, if_false]
      rw [← Array.getElem?_toList, h8]
      rfl
    have hcmp : CmpLays Tryz.prog 100 #[] FileR.cells 3 fcmp g 0 R.toArray.size w := fun m os dk _ x y => by
      refine (byPathF_any x y _).mono ?_
      rintro e w' ⟨rfl, os', rfl⟩
      exact ⟨rfl, 0, os', rfl⟩
    have hone : ∀ x : FileR, ∀ u ∈ FileR.cells x, u.oneCell' = true := fun x u hu => by
      simp [FileR.cells] at hu
      rcases hu with rfl | rfl | rfl <;> rfl
    have hs : Calls Tryz.prog 99 #[.slice (some ⟨g, 0, none⟩) R.length cap, .func (.func 100) #[] #[]] w fun e w' => e = .returned (.tuple #[]) ∧ ∃ R', R'.Perm R ∧ ByPath R' ∧ FRows w' base (.slice (some ⟨g, 0, none⟩) R.length cap) R' ∧ Keep (fun q => q = g) w w' := by
      refine (AnyQ.slices_SortFunc Tryz.sortF 3 (fun w => by kernel_rfl) (fun w => by kernel_rfl) FileR.cells (fun _ => rfl) hone fcmp fcmp_swo 100 #[] g 0 cap R.toArray w (enters_of Tryz.func100 (by kernel_rfl) rfl) hcmp hH hgl (by simp; omega)).mono ?_
      rintro e w' ⟨rfl, d', n, os, hp, hso, rfl⟩
      obtain ⟨R', rfl⟩ : ∃ R' : List FileR, d' = R'.toArray := ⟨d'.toList, by simp⟩
      have hlen : R'.length = R.length := by have := hp.1; simpa using this
      have hperm : R'.Perm R := by
        have := hp.2.2
        simp only [List.size_toArray, List.extract_toArray, List.extract_eq_take_drop, List.drop_zero, Nat.sub_zero] at this
        rw [List.take_of_length_le (by omega), List.take_of_length_le (by omega)] at this
        exact this
      have hkeep := keep_sortK (w := w) (g := g) (n := n) (os := os) (flatK FileR.cells 3 R'.toArray)
      refine ⟨rfl, R', hperm, ?_, ⟨⟨by rw [rowsLen], .inr ⟨g, cap, _, by rw [hlen], h2, heap_sortK _ h3, by omega, h5, by simp [putCells, h6], ?_⟩⟩, fun r hr => ?_⟩, hkeep⟩
      · refine List.pairwise_iff_getElem.2 fun i j hi hj hij => ?_
        have := hso i j (Nat.zero_le _) hij (by simp; omega)
        rw [fcmp_lt, getElem!_pos _ i (by simpa using hi), getElem!_pos _ j (by simpa using hj)] at this
        simpa using this
      · have e : flatK FileR.cells 3 R'.toArray = (R'.flatMap FileR.cells).toArray := by rw [← flatK_list]
        rw [e, ← rowsLen R']
        exact take_putK cur _ (by rw [rowsLen]; omega)
      · have hb := h.byt r (hperm.mem_iff.1 hr)
        refine ⟨hb.1.keep hkeep fun q hq e => ?_, hb.2⟩
        obtain ⟨_, cur2, hb2⟩ := hb.1.lt hq
        have e : q = g := e
        subst e
        have h3' : Blk w q cur.toList 44 := h3
        exact h3'.ne hb2 (by decide) rfl
    have HS := Lib.hid hs
    have HE : Hid (∀ q, q = g ↔ (Value.slice (some ⟨g, 0, none⟩) R.length cap).ownBlock = some q) := Lib.hid fun q => ⟨fun e => by rw [e]; rfl, fun e => (Option.some.inj e).symm⟩
    clear hs hcmp hH h7 h3 h h6 hone
    go_enter Tryz.func82, Tryz.ntmps82
    go_wp2_with (go_at_call 99; ((with_reducible refine Calls.mono HS.out ?_); rintro e w1 ⟨rfl, h1⟩; have H1 := Lib.hid h1; clear h1))
    go_ret
    obtain ⟨R', k1, k2, k3, k4⟩ := H1.out
    exact ⟨rfl, R', k1, k2, k3, k4.mono fun q hq => (HE.out q).1 hq⟩
end Go.Proofs.YtkcjafnaephjiaaGreatDoor

/- (*Tree).All. -/
namespace Go.Proofs.YtkcjafnaephjiaaGreatDoor
open Go.RowKit
set_option maxRecDepth 100000

theorem le_sum_mem {x : Nat} : ∀ {l : List Nat}, x ∈ l → x ≤ l.sum
  | [], h => by cases h
  | y :: l, h => by
    rw [List.sum_cons]
    rcases List.mem_cons.1 h with rfl | h
    · omega
    · have := le_sum_mem h; omega
/-- The files of a tree, as they are handed out. -/
structure AllOut (w : World) (T : List Pn) (v : Value) (w' : World) : Prop where
  out : ∃ R : List FileR, (R.map FileR.key).Perm ((descF (nds T) T.length 1).map (nodeK T)) ∧ ByPath R ∧ FRows w' w.heap.size v R
  bel : Bel w w'
set_option maxHeartbeats 4000000 in
theorem treeAll_any (tb : Nat) (A : Adr) (T : List Pn) (mi mb : Nat) (w : World) (h : PT w tb A T mi mb) (hl : T.length ≤ 8000) (hlv : Live T) (hs : ∀ n ∈ nds T, n.name.size ≤ 1000) (hd : (descF (nds T) T.length 1).length ≤ 100000) :
    Calls Tryz.prog 53 #[.pointer (some ⟨tb, 0, none⟩)] w fun e w' => ∃ v, e = .returned v ∧ AllOut w T v w' := by
  have hc : w.cell? ⟨tb, 0, none⟩ = some (A.ptr 1) := h.block.cell 0
  have hby : ∀ n ∈ T, n.byt.length ≤ 1000000 := fun n hn => by
    have h1 : n.nd.byt.length ≤ sumB (nds T) := by
      unfold sumB
      exact le_sum_mem (List.mem_map.2 ⟨n.nd, List.mem_map.2 ⟨n, hn, rfl⟩, rfl⟩)
    have h2 := h.small
    have h3 := h.mb
    show n.nd.byt.length ≤ _
    omega
  have hfl := fun q hq => h.foot_lt (q := q) (.inr hq)
  rw [show A.ptr 1 = .pointer (some ⟨A.nb 1, 0, none⟩) from rfl] at hc
  obtain ⟨r, hr0, hrp, hrd, hrg⟩ := h.tree.root
  have k3 : Bel w ((w.alloc (.cells #[.slice none 0 0] 24)).alloc (.cells #[.func (.func 79) #[] #[.pointer (some ⟨w.heap.size, 0, none⟩), .pointer (some ⟨w.heap.size + 1, 0, none⟩)]] 223)) := (Bel.start w _).ac _
  have hbx : Boxes ((w.alloc (.cells #[.slice none 0 0] 24)).alloc (.cells #[.func (.func 79) #[] #[.pointer (some ⟨w.heap.size, 0, none⟩), .pointer (some ⟨w.heap.size + 1, 0, none⟩)]] 223)) w.heap.size (w.heap.size + 1) (.slice none 0 0) :=
    ⟨(Blk.new w [.slice none 0 0] _).alloc _, Blk.new_at _ _ _ (by simp)⟩
  have hsz : ((w.alloc (.cells #[.slice none 0 0] 24)).alloc (.cells #[.func (.func 79) #[] #[.pointer (some ⟨w.heap.size, 0, none⟩), .pointer (some ⟨w.heap.size + 1, 0, none⟩)]] 223)).heap.size = w.heap.size + 2 := by simp
  have HH := Lib.hid h
  clear h
  go_enter Tryz.func53, Tryz.ntmps53
  go_upto_region 4 with fail
  generalize (w.alloc (.cells #[.slice none 0 0] 24)).alloc (.cells #[.func (.func 79) #[] #[.pointer (some ⟨w.heap.size, 0, none⟩), .pointer (some ⟨w.heap.size + 1, 0, none⟩)]] 223) = w3 at *
  generalize hB : w.heap.size = B at *
  have hB' : w.heap.size = B := hB
  have hih := fun W (hW : Bel w3 W) => all1_any A T hl hlv hs hby B (B + 1) (B + 2) (by omega) (by omega) (by omega) (fun q hq => by have := hfl q hq; omega) T.length 0 r W (.slice none 0 0) [] (by omega) hr0 hrg (HH.out.tree.bel (k3.tr hW)) (by have := hW.size; omega) ⟨hbx.l.bel hW, hbx.f.bel hW⟩ (FRows.nil _ _) (by simpa using hd)
  rw [show A.ptr (0 + 1) = .pointer (some ⟨A.nb 1, 0, none⟩) from rfl] at hih
  have cb : w3.cell? ⟨B + 1, 0, none⟩ = some (.func (.func 79) #[] #[.pointer (some ⟨B, 0, none⟩), .pointer (some ⟨B + 1, 0, none⟩)]) := hbx.f.cell 0
  have ct := cell_bel k3 hc
  have HIH := Lib.hid hih
  have HK3 := Lib.hid k3
  have HSZ := Lib.hid (And.intro hsz hB)
  clear hih hbx hsz k3 hfl hc hB hB'
  go_region_with (go_at_call 79; ((with_reducible refine Calls.mono (HIH.out _ (Bel.drew (Bel.refl _))) ?_); rintro e w4 ⟨rfl, ⟨v', E, Rn, hE, hRn, hbx4, hfr4, hk4, hv4⟩⟩; have cl4 : w4.cell? ⟨B, 0, none⟩ = some v' := hbx4.l.cell 0; have H4 := Lib.hid (And.intro hE (And.intro hRn (And.intro hfr4 (And.intro hk4 hv4)))); clear hE hRn hbx4 hfr4 hk4 hv4))
  all_goals
    have hln : Rn.length ≤ 100000 := by
      have h1 := congrArg List.length H4.out.2.1
      have h2 := H4.out.1.length_eq
      simp only [List.length_map] at h1
      rw [show (0 + 1 : Nat) = 1 from rfl] at h2
      omega
    have hbp := byPath_any (B + 2) v' Rn w4 (by have := H4.out.2.2.1; rwa [List.nil_append] at this) hln
    have HBP := Lib.hid hbp
    clear hbp
    go_wp2_with (go_at_call 82; ((with_reducible refine Calls.mono HBP.out ?_); rintro e w5 ⟨rfl, h5⟩; have H5 := Lib.hid h5; clear h5))
    go_ret
    obtain ⟨R', p1, p2, p3, p4⟩ := H5.out
    refine ⟨v', rfl, ⟨⟨R', ?_, p2, ?_⟩, ?_⟩⟩
    · refine (p1.map _).trans ?_
      rw [H4.out.2.1]
      exact H4.out.1.map _
    · rw [HSZ.out.2]
      exact ⟨ownsRow_base_a p3.row (by omega), fun x hx => ⟨(p3.byt x hx).1, fun g hg => by have := (p3.byt x hx).2 g hg; omega⟩⟩
    · have hv : ∀ q, v'.ownBlock = some q → B + 2 ≤ q := fun q hq => (row_blk H4.out.2.2.1.row hq).1
      have hb := HSZ.out.2
      have h3 : Keep (fun q => B ≤ q) w w3 := Keep.of_bel _ HK3.out
      have hd3 : Keep (fun q => B ≤ q) w3 w3.drew := Keep.of_bel _ (Bel.drew (Bel.refl _))
      have h4 : Keep (fun q => B ≤ q) w3.drew w4 := H4.out.2.2.2.1.mono fun q h => by
        rcases h with h | h
        · have h : q = B := h
          omega
        · cases h
      have h5 : Keep (fun q => B ≤ q) w4 w5 := p4.mono fun q h => by have := hv q h; show B ≤ q; omega
      exact (((h3.tr hd3).tr h4).tr h5).below _ (Nat.le_refl _) fun q hq => by have hq : B ≤ q := hq; omega
end Go.Proofs.YtkcjafnaephjiaaGreatDoor
