/- The document's Boot. -/
import Derived.Test.YtkcjafnaephjiaaGreatDoorPart28
set_option linter.unusedVariables false
set_option linter.unusedSimpArgs false
namespace Go.Proofs.YtkcjafnaephjiaaGreatDoor
open Go.RowKit
set_option maxRecDepth 100000

def limC (l : Lims) : List Value := [.int .i64 l.a, .int .i64 l.b, .int .i64 l.c, .int .i64 l.d, .int .i64 l.e]
set_option maxHeartbeats 16000000 in
theorem bootD_a (l : Lims) (v1 v2 v3 : Value) (w : World) (h : l.okA = false) :
    Calls Tryz.prog 16 #[.agg (limC l).toArray, v1, v2, v3] w fun e w' => e = .returned (.tuple #[.pointer none, .int .i64 6]) ∧ Bel w w' := by
  obtain ⟨a, b, c, d, e⟩ := l
  have h' : a < 1 ∨ (¬ a < 1 ∧ 16 < a) ∨ (¬ a < 1 ∧ ¬ 16 < a ∧ b < 1) ∨ (¬ a < 1 ∧ ¬ 16 < a ∧ ¬ b < 1 ∧ 1000 < b) := by
    simp only [Lims.okA, decide_eq_false_iff_not] at h
    omega
  clear h
  simp only [limC]
  rcases h' with h1 | ⟨h1, h2⟩ | ⟨h1, h2, h3⟩ | ⟨h1, h2, h3, h4⟩
  all_goals
    go_enter Tryz.func16, Tryz.ntmps16
    go_wp2
    go_ret2
    exact ⟨rfl, (Bel.start w _).ac _⟩
set_option maxHeartbeats 16000000 in
theorem bootD_b (l : Lims) (v1 v2 v3 : Value) (w : World) (h : l.okA = true) (hb : l.okB = false) :
    Calls Tryz.prog 16 #[.agg (limC l).toArray, v1, v2, v3] w fun e w' => e = .returned (.tuple #[.pointer none, .int .i64 6]) ∧ Bel w w' := by
  obtain ⟨a, b, c, d, e⟩ := l
  have h' : ¬ a < 1 ∧ ¬ 16 < a ∧ ¬ b < 1 ∧ ¬ 1000 < b := by
    simp only [Lims.okA, decide_eq_true_eq] at h
    omega
  have hb' : c < 0 ∨ (¬ c < 0 ∧ 100000 < c) ∨ (¬ c < 0 ∧ ¬ 100000 < c ∧ d < 0) ∨ (¬ c < 0 ∧ ¬ 100000 < c ∧ ¬ d < 0 ∧ 100000 < d) ∨ (¬ c < 0 ∧ ¬ 100000 < c ∧ ¬ d < 0 ∧ ¬ 100000 < d ∧ e < 0) ∨ (¬ c < 0 ∧ ¬ 100000 < c ∧ ¬ d < 0 ∧ ¬ 100000 < d ∧ ¬ e < 0 ∧ 100000 < e) := by
    simp only [Lims.okB, decide_eq_false_iff_not] at hb
    omega
  clear h hb
  simp only [limC]
  obtain ⟨h1, h2, h3, h4⟩ := h'
  rcases hb' with g1 | ⟨g1, g2⟩ | ⟨g1, g2, g3⟩ | ⟨g1, g2, g3, g4⟩ | ⟨g1, g2, g3, g4, g5⟩ | ⟨g1, g2, g3, g4, g5, g6⟩
  all_goals
    go_enter Tryz.func16, Tryz.ntmps16
    go_wp2
    go_ret2
    exact ⟨rfl, (Bel.start w _).ac _⟩
set_option maxHeartbeats 16000000 in
theorem bootD_c (l : Lims) (v1 v2 v3 : Value) (w : World) (h : l.okA = true) (hb : l.okB = true) (hd : l.d = 0) :
    Calls Tryz.prog 16 #[.agg (limC l).toArray, v1, v2, v3] w fun e w' => e = .returned (.tuple #[.pointer none, .int .i64 12]) ∧ Bel w w' := by
  obtain ⟨a, b, c, d, e⟩ := l
  obtain ⟨h1, h2, h3, h4⟩ : ¬ a < 1 ∧ ¬ 16 < a ∧ ¬ b < 1 ∧ ¬ 1000 < b := by
    simp only [Lims.okA, decide_eq_true_eq] at h
    omega
  obtain ⟨g1, g2, g3, g4, g5, g6⟩ : ¬ c < 0 ∧ ¬ 100000 < c ∧ ¬ d < 0 ∧ ¬ 100000 < d ∧ ¬ e < 0 ∧ ¬ 100000 < e := by
    simp only [Lims.okB, decide_eq_true_eq] at hb
    omega
  clear h hb
  simp only at hd
  subst hd
  simp only [limC]
  go_enter Tryz.func16, Tryz.ntmps16
  go_wp2
  go_ret2
  exact ⟨rfl, (Bel.start w _).ac _⟩

/-- The lists of Boot's files. -/
structure FLists (w : World) (F : List FileA) (v1 v2 v3 : Value) : Prop where
  n : F.length ≤ 1000
  paths : ∃ p c, v1 = .slice p F.length c ∧ ∀ (i : Nat) (f : FileA), F[i]? = some f → ∃ g, p = some ⟨g, 0, none⟩ ∧ w.cell? ⟨g, i, none⟩ = some (.string f.path)
  dirs : ∃ p c, v2 = .slice p F.length c ∧ ∀ (i : Nat) (f : FileA), F[i]? = some f → ∃ g, p = some ⟨g, 0, none⟩ ∧ w.cell? ⟨g, i, none⟩ = some (.bool f.dir)
  bytes : ∃ p c, v3 = .slice p F.length c ∧ ∀ (i : Nat) (f : FileA), F[i]? = some f → ∃ g, p = some ⟨g, 0, none⟩ ∧ w.cell? ⟨g, i, none⟩ = some (.slice f.p f.byt.length f.cap)
  byt : ∀ f ∈ F, BS w f.p f.byt ∧ f.byt.length ≤ f.cap ∧ f.byt.length ≤ 200000 ∧ f.path.size ≤ 1000000 ∧ (0 < f.byt.length → ∀ b o, f.p = some ⟨b, o, none⟩ → b < w.heap.size)

end Go.Proofs.YtkcjafnaephjiaaGreatDoor

/- The document's exec of the first process. -/
namespace Go.Proofs.YtkcjafnaephjiaaGreatDoor
open Go.RowKit
set_option maxRecDepth 100000

/-- The first process as Boot makes it. -/
def proc0 : List Value := [.int .i64 1, .int .i64 0, .int .i64 0, .int .i64 0, .int .i64 0, .int .u64 0, .int .u64 0, .int .u64 0, .int .u64 0, .int .u64 0, .int .u64 0, .int .u64 0, .int .u64 0, .int .u64 0, .int .u64 0, .int .u64 0, .int .u64 0, .int .u64 0, .int .u64 0, .int .u64 0, .int .u64 0, .int .u64 0, .slice none 0 0, .int .i64 (-1), .int .i64 (-1), .int .i64 (-1), .int .i64 0, .int .i64 0, .int .i64 0, .int .i64 0, .int .i64 0]
def initSS : List ByteArray := [⟨#[105, 110, 105, 116]⟩]
theorem initSS_good : Good initSS := by
  intro i hi
  have : i = 0 := by simp [initSS] at hi; omega
  subst this
  decide
theorem byts_sk (L : List Nd) : (byts L).sum = sumB (sks L) := by
  unfold byts sumB sks
  rw [List.map_map]
  rfl
def stackCells (ss : List ByteArray) : List Value := [254, 255].flatMap fun n => refCells n (stackPg ss n)
theorem execE_sk (L : List Nd) (path : List UInt8) (sok : Bool) (own used mf : Nat) : execE (sks L) path sok own used mf = execE L path sok own used mf := by
  unfold execE
  rw [docWalk_sk]
  unfold sks
  rw [List.getElem?_map]
  cases L[(docWalk L path).2.2.1 - 1]? <;> rfl
theorem execD_init (kb : Nat) (s : KV) (iv : Value) (L : List Nd) (g8 c8 mf gs : Nat) (cells : List Value) (W : World) (h : DK W kb { s with pv := .slice (some ⟨g8, 0, none⟩) 1 c8 } iv L) (hB : Blk W g8 cells 83) (ht : cells.take 31 = proc0) (hl : 31 ≤ cells.length) (h1c : 1 ≤ c8) (hov : s.ov = .slice none 0 0) (hb : s.b = mf) (hmf : mf ≤ 1000) (hsum : sumB (sks L) ≤ 100000) (hroot : isDir L 1 = true) (hg8 : kb < g8)
    (hgs : Blk W gs [.string ⟨#[105, 110, 105, 116]⟩] 9) :
    Calls Tryz.prog 30 #[.pointer (some ⟨kb, 0, none⟩), .pointer (some ⟨g8, 0, none⟩), .string ⟨#[47, 105, 110, 105, 116]⟩, .slice (some ⟨gs, 0, none⟩) 1 1] W fun e w' => ExecDRes W g8 0 cells (execE L initP true 0 0 mf) (execB L initP) (stackCells initSS) (spOf (stAll initSS) 1) e w' := by
  have h22 : cells[22]? = some (.slice none 0 0) := by
    have := congrArg (·[22]?) ht
    simpa [List.getElem?_take, proc0] using this
  obtain ⟨g, cap, hiv, htr, hg⟩ := h.tree
  have hfew := h.few
  have hU : ∀ W', Bel W W' → Calls Tryz.prog 24 #[.pointer (some ⟨kb, 0, none⟩)] W' fun e w' => e = .returned (.agg (usedC 1 0 0 L.length (byts L).sum).toArray) ∧ Bel W' w' := fun W' hW =>
    used_any kb g cap L W' (htr.bel hW) [0] (some ⟨g8, 0, none⟩) none c8 0 0 (cell_bel hW (h.blk.cell 5)) h1c (fun i n hi => by
      cases i with
      | zero =>
        simp at hi
        subst hi
        exact ⟨g8, none, 0, rfl, cell_bel hW (by rw [hB.cell]; exact h22)⟩
      | succ i => simp at hi) (cell_bel hW (by rw [h.blk.cell]; show some s.ov = _; rw [hov])) (fun n hn => by
      obtain ⟨p, c, hv, _⟩ := (h.byts n hn).1.slice
      exact ⟨p, c, hv⟩) (by simp) (by rw [byts_sk]; omega) (by simp) (by omega) (by omega)
  have hst : ∀ W', Bel W W' → Calls Tryz.prog 49 #[.slice (some ⟨gs, 0, none⟩) 1 1] W' fun e w' => Bel W' w' ∧ (true = true → ∃ g c, e = .returned (.tuple #[.slice (some ⟨g, 0, none⟩) 2 c, .int .u64 (spOf (stAll initSS) 1), .int .i64 0]) ∧ (∀ j u, (stackCells initSS)[j]? = some u → w'.cell? ⟨g, j, none⟩ = some u) ∧ (stackCells initSS).length = 516 ∧ (∀ u ∈ stackCells initSS, u.oneCell' = true)) ∧ (true = false → e = .returned (.tuple #[.slice none 0 0, .int .u64 0, .int .i64 6])) := fun W' hW => by
    refine (stackR_any (some ⟨gs, 0, none⟩) 1 initSS W' (fun _ => ⟨gs, 0, rfl, (hgs.bel hW).lt, fun j hj => ?_⟩) (by simp [initSS])).mono ?_
    · have : j = 0 := by simp [initSS] at hj; omega
      subst this
      exact (hgs.bel hW).cell 0
    · rintro e w' ⟨h1, h2, _⟩
      refine ⟨h1, fun _ => ?_, fun h => by cases h⟩
      obtain ⟨v, rfl, hrow⟩ := h2 initSS_good
      obtain ⟨p, c, rfl, _, _, hp⟩ := row_slice hrow
      obtain ⟨g2, rfl, _, _, hc, _⟩ := hp.resolve_left (by omega)
      have hlen : (stackCells initSS).length = 516 := by simp [stackCells, refCells, stackPg]
      refine ⟨g2, c, rfl, fun j u hj => ?_, hlen, fun u hu => ?_⟩
      · have hjl := (List.getElem?_eq_some_iff.1 hj).1
        exact (hc j hjl).trans hj
      · obtain ⟨n, _, hn⟩ := List.mem_flatMap.1 hu
        exact refCells_one _ _ u hn
  exact execD_any kb _ iv L ⟨#[47, 105, 110, 105, 116]⟩ g8 0 0 0 mf 1 0 L.length (byts L).sum cells none 0 (.slice (some ⟨gs, 0, none⟩) 1 1) true (spOf (stAll initSS) 1) (stackCells initSS) W h hb hmf (by decide) hsum hB (by omega) h22 (Nat.le_refl _) (Nat.zero_le _) (by omega) hroot hU hst
end Go.Proofs.YtkcjafnaephjiaaGreatDoor

/- What exec leaves, in plain words. No program. -/
namespace Go.Proofs.YtkcjafnaephjiaaGreatDoor
open Go.RowKit
set_option maxRecDepth 100000

theorem spaceTo_low (L : List Int) (N : Nat) (hN : ∀ i, i < N → SegFits L (segAt L i)) : ∀ k, k ≤ N → ∀ n, 254 ≤ n → spaceTo L k n = none
  | 0, _, _, _ => rfl
  | k + 1, hk, n, hn => by
    have ih := spaceTo_low L N hN k (by omega) n hn
    have hf := hN k (by omega)
    have hl : (segAt L k).last < 254 := by
      unfold Seg.last
      have h1 := hf.top
      have h2 := hf.mem
      have h3 := hf.addr
      omega
    show (if (segAt L k).first ≤ n ∧ n < (segAt L k).last + 1 then _ else spaceTo L k n) = none
    rw [if_neg (by omega), ih]
theorem spaceL_ok {B : List Int} (hb : ∀ x ∈ B, 0 ≤ x ∧ x ≤ 255) (h : loadE B = 0) : PagesOk (spaceL B) ∧ ∀ n, 254 ≤ n → spaceL B n = none := by
  obtain ⟨hh, hs, _, _⟩ := loadE_ok h
  have hhead : segN B ≤ 8 ∧ 64 + 56 * segN B ≤ B.length := by
    have := hh
    simp only [headerOk, Bool.and_eq_true, decide_eq_true_eq] at this
    exact ⟨this.1.2, this.2⟩
  have hfit : ∀ i, i < (segN B).toNat → SegFits B (segAt B i) := fun i hi => segFits B hb i (by omega) (List.all_eq_true.1 hs i (List.mem_range.2 hi))
  exact ⟨spaceTo_wf B hb (segN B).toNat hfit (segN B).toNat (Nat.le_refl _), spaceTo_low B (segN B).toNat hfit (segN B).toNat (Nat.le_refl _)⟩
theorem execE_load {L : List Nd} {path : List UInt8} {sok : Bool} {own used mf : Nat} (h : execE L path sok own used mf = 0) : loadE (execB L path) = 0 ∧ ∃ x ∈ L, execB L path = x.byt := by
  unfold execE at h
  unfold execB
  split at h
  · rename_i h1; exact absurd h h1
  · split at h
    · cases h
    · cases hx : L[(docWalk L path).2.2.1 - 1]? with
      | none => rw [hx] at h; cases h
      | some x =>
        rw [hx] at h
        simp only at h
        split at h
        · cases h
        · split at h
          · rename_i h3; exact absurd h h3
          · rename_i h3
            exact ⟨by simpa using h3, x, List.mem_of_getElem? hx, rfl⟩
theorem splice_app (a b : List Value) (o : Nat) (vs : List Value) (h : o + vs.length ≤ a.length) : splice (a ++ b) o vs = splice a o vs ++ b := by
  unfold splice
  rw [List.take_append_of_le_length (by omega), List.drop_append_of_le_length (by omega)]
  simp only [List.append_assoc]
theorem execC_app (a b : List Value) (v : Value) (E sp : Int) (ha : a.length = 31) : execC (a ++ b) 0 v E sp = execC a 0 v E sp ++ b := by
  unfold execC
  rw [show (a ++ b).set (0 + 22) v = a.set (0 + 22) v ++ b from List.set_append_left _ _ (by omega)]
  rw [show (a.set (0 + 22) v ++ b).set (0 + 5) (.int .u64 E) = (a.set (0 + 22) v).set (0 + 5) (.int .u64 E) ++ b from List.set_append_left _ _ (by simp; omega)]
  rw [splice_app _ _ _ _ (by simp; omega)]
  exact List.set_append_left _ _ (by rw [length_splice _ _ _ (by simp; omega)]; simp; omega)
theorem execC_len (a : List Value) (v : Value) (E sp : Int) (ha : a.length = 31) : (execC a 0 v E sp).length = 31 := by
  unfold execC
  rw [List.length_set, length_splice _ _ _ (by simp; omega)]
  simp [ha]
theorem execC_take (cells : List Value) (v : Value) (E sp : Int) (h : cells.take 31 = proc0) : (execC cells 0 v E sp).take 31 = execC proc0 0 v E sp := by
  have e : cells = proc0 ++ cells.drop 31 := by rw [← h, List.take_append_drop]
  rw [e, execC_app _ _ _ _ _ rfl, List.take_append_of_le_length (by rw [execC_len _ _ _ _ rfl]; exact Nat.le_refl _), List.take_of_length_le (by rw [execC_len _ _ _ _ rfl]; exact Nat.le_refl _)]
theorem DK.keepBlk {w w' : World} {kb g : Nat} {s : KV} {iv : Value} {L : List Nd} {cells : List Value} (h : DK w kb s iv L) (hB : Blk w g cells 83) (k : Keep (fun q => q = g) w w') : DK w' kb s iv L := by
  refine ⟨h.blk.keep k fun e => ?_, ?_, fun n hn => ⟨(h.byts n hn).1.keep k fun q hq e => ?_, (h.byts n hn).2⟩, h.few, h.one⟩
  · have e : kb = g := e
    subst e
    exact h.blk.ne hB (by decide) rfl
  · refine ⟨h.row.1, ?_⟩
    rcases h.row.2 with h1 | ⟨q, cap, cur, h1, h2, h3, h4⟩
    · exact .inl h1
    · refine .inr ⟨q, cap, cur, h1, h2, (k.block q (Array.getElem?_eq_some_iff.1 h3).1 fun e => ?_).trans h3, h4⟩
      have e : q = g := e
      subst e
      have h3' : Blk w q cur.toList 90 := h3
      exact h3'.ne hB (by decide) rfl
  · obtain ⟨_, cur, hb⟩ := (h.byts n hn).1.lt hq
    have e : q = g := e
    subst e
    exact hb.ne hB (by decide) rfl
end Go.Proofs.YtkcjafnaephjiaaGreatDoor
