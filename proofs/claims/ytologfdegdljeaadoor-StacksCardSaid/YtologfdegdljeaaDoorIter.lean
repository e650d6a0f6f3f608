/- slices.Backward over strings, slices.Contains over bytes. -/
import Derived.RangeFuncWrites
import Derived.RangeFuncLeaves
import Derived.RangeFuncCalls
import Derived.RangeFuncBox
import Derived.Shelf.Abstract
import Derived.WalkKit
import Derived.OwnWalkIn
import Derived.TacticsInMore
import Derived.LoopNIn
import Derived.LoopIn
import Derived.Test.YtologfdegdljeaaDoorStill
namespace Go.Proofs.YtologfdegdljeaaDoor
open Go.RowKit Go.Shelf
set_option maxRecDepth 100000
attribute [local go_sem] Oper.semAt_some

def bts (s : ByteArray) : List Int := s.data.toList.map fun c => (c.toNat : Int)
theorem bts_length (s : ByteArray) : (bts s).length = s.size := by simp [bts]
theorem bts_byte (s : ByteArray) : ∀ x ∈ bts s, 0 ≤ x ∧ x ≤ 255 := by
  intro x hx
  obtain ⟨c, _, rfl⟩ := List.mem_map.1 hx
  have := c.toNat_lt
  omega

/-- A slice of strings. -/
def SS (n₀ : Nat) (w : World) (p : Option Addr) (ss : List ByteArray) : Prop :=
  0 < ss.length → ∃ b o, p = some ⟨b, o, none⟩ ∧ b < n₀ ∧ ∀ j, (h : j < ss.length) → w.cell? ⟨b, o + j, none⟩ = some (.string ss[j])
theorem SS.below {n₀ : Nat} {w w' : World} {p : Option Addr} {ss : List ByteArray} (h : SS n₀ w p ss) (hb : Below n₀ w w') : SS n₀ w' p ss := fun h0 => by
  obtain ⟨b, o, h1, h2, h3⟩ := h h0
  exact ⟨b, o, h1, h2, fun j hj => (hb.cell (p := ⟨b, o + j, none⟩) h2).trans (h3 j hj)⟩

/-- What the iterator reads is kept: blocks below g, and its box. -/
def KpS (g B : Nat) (W W' : World) : Prop := ∀ b, b < g ∨ b = B → W'.heap[b]? = W.heap[b]?
theorem KpS.refl (g B : Nat) (W : World) : KpS g B W W := fun _ _ => rfl
theorem KpS.trans {g B : Nat} {X Y Z : World} (h : KpS g B X Y) (k : KpS g B Y Z) : KpS g B X Z := fun b hb => (k b hb).trans (h b hb)
theorem KpS.putObj {g B : Nat} {w : World} (hg : g ≤ w.heap.size) (hB : B < w.heap.size) (W : World) (l : Nat) (o o' : Obj) (hl : w.heap.size ≤ l) (_ : W.heap[l]? = some o) (_ : o.isCells = false) (_ : o.isWalk = false) : KpS g B W (W.putObj l o') :=
  fun b hb => World.putObj_heap_other (fun e => by omega)
theorem SS.kept {g B : Nat} {w w' : World} {p : Option Addr} {ss : List ByteArray} (h : SS g w p ss) (hb : KpS g B w w') : SS g w' p ss := fun h0 => by
  obtain ⟨b, o, h1, h2, h3⟩ := h h0
  exact ⟨b, o, h1, h2, fun j hj => (World.cell?_of_block (a := ⟨b, o + j, none⟩) (hb b (.inl h2))).trans (h3 j hj)⟩

/-- The indices from n - 1 down to k. -/
def revTo (n k : Nat) : List Nat := ((List.range n).drop k).reverse
theorem revTo_self (n : Nat) : revTo n n = [] := by simp [revTo]
theorem revTo_step (n k : Nat) (h : k < n) : revTo n k = revTo n (k + 1) ++ [k] := by
  unfold revTo
  rw [List.drop_eq_getElem_cons (by simpa using h)]
  simp
theorem revTo_length (n k : Nat) : (revTo n k).length = n - k := by simp [revTo]

abbrev Ix (n : Nat) := { i : Nat // i < n }
def revIx (n : Nat) : Nat → List (Ix n)
  | 0 => []
  | k + 1 => revIx n k ++ (if h : n - 1 - k < n then [⟨n - 1 - k, h⟩] else [])
theorem revIx_length (n : Nat) : ∀ k, k ≤ n → (revIx n k).length = k
  | 0, _ => rfl
  | k + 1, h => by
    unfold revIx
    rw [dif_pos (by omega), List.length_append, revIx_length n k (by omega)]
    rfl
theorem revIx_val (n : Nat) : ∀ k, k ≤ n → (revIx n k).map (fun i : Ix n => i.1) = revTo n (n - k)
  | 0, _ => by simp [revIx, revTo_self]
  | k + 1, h => by
    unfold revIx
    rw [dif_pos (by omega), List.map_append, revIx_val n k (by omega), revTo_step n (n - (k + 1)) (by omega), show n - (k + 1) + 1 = n - k from by omega]
    simp
    omega

abbrev encS (ss : List ByteArray) (i : Ix ss.length) : Array Value := #[.int .i64 (i.1 : Nat), .string (ss[i.1]'i.2)]

set_option maxHeartbeats 4000000 in
/-- slices.Backward's closure. -/
theorem back1_in (F : Fence) (n : Nat) (hF : F.fn 50) (hro : F.round = none) (hn : 1 ≤ n) (l Bs n₀ : Nat) (p : Option Addr) (cap : Nat) (ss : List ByteArray) (hreach : ss.length ≤ 1000000) (J Jx : List (Ix ss.length) → World → Prop)
    (hY : ∀ pre x W, J pre W → pre.length < ss.length → YieldAt F (n - 1) Tryd.prog l (encS ss x) W fun e W' =>
      (e = .returned (.bool true) ∧ J (pre ++ [x]) W' ∧ KpS n₀ Bs W W') ∨ (e = .returned (.bool false) ∧ Jx (pre ++ [x]) W'))
    (W : World) (hBs : W.cell? ⟨Bs, 0, none⟩ = some (.slice p ss.length cap)) (hS : SS n₀ W p ss) (h0 : J [] W) :
    CallsIn F n Tryd.prog 50 #[.func (.yield l) #[] #[], .pointer (some ⟨Bs, 0, none⟩)] W fun e W' => (∃ v, e = .returned v) ∧
      ((∃ ys, ys = revIx ss.length ss.length ∧ J ys W') ∨ (∃ pre, True ∧ Jx pre W')) := by
  refine callsIn_of_wp Tryd.func50 rfl hF ?_ hro
  simp only [Tryd.ntmps50, List.size_toArray, List.length_cons, List.length_nil, Nat.reduceAdd, Nat.reduceSub, Array.replicate_succ, Array.replicate_zero, List.push_toArray, List.append_toArray, List.nil_append, List.cons_append]
  have HS := Lib.hid hS
  clear hS
  gi_wp2
  gi_loopw [3] (fun i wr => ∃ k : Nat, k ≤ ss.length ∧ i = .int .i64 ((ss.length : Int) - 1 - k) ∧ J (revIx ss.length k) wr ∧ KpS n₀ Bs W wr)
    (fun i _ => (intOf i + 1).toNat)
  case atStart => exact ⟨0, Nat.zero_le _, by simp, h0, KpS.refl _ _ _⟩
  case round =>
    obtain ⟨k, hk, rfl, hJs, hnx⟩ := hrel
    by_cases hlt : k < ss.length
    · obtain ⟨b, o, rfl, hb, hc⟩ := HS.out (by omega)
      have hBs' := (World.cell?_of_block (a := ⟨Bs, 0, none⟩) (hnx Bs (.inr rfl))).trans hBs
      obtain ⟨i, hi⟩ : ∃ i : Nat, i = ss.length - 1 - k := ⟨_, rfl⟩
      have hil : i < ss.length := by omega
      have hcx := (World.cell?_of_block (a := ⟨b, o + i, none⟩) (hnx b (.inl hb))).trans (hc i hil)
      obtain ⟨fn, tmps, assign, body, hy, hR⟩ := hY _ ⟨i, hil⟩ wr hJs (by rw [revIx_length _ _ hk]; exact hlt)
      rw [show (ss.length : Int) - 1 - k = (i : Int) from by omega]
      have HI := Lib.hid hi
      have HRV : Hid (revIx ss.length (k + 1) = revIx ss.length k ++ [⟨i, hil⟩]) := Lib.hid (by
        rw [revIx, dif_pos (by omega)]
        congr 3
        omega)
      clear hi hc
      gi_wp2
      refine hR.mono ?_
      rintro e W3 (⟨rfl, hJ3, hk3⟩ | ⟨rfl, hJx3⟩)
      · gi_wp2
        go_roundw
        case rel => exact ⟨k + 1, by omega, by have := HI.out; congr 1; omega, by rw [HRV.out]; exact hJ3, hnx.trans hk3⟩
        case measure => simp [intOf] <;> omega
      · gi_wp2
        refine bodyPost_ret (results_none rfl _ _ _) rfl ?_
        exact ⟨⟨_, rfl⟩, .inr ⟨_, trivial, hJx3⟩⟩
    · obtain rfl : k = ss.length := by omega
      rw [show (ss.length : Int) - 1 - ss.length = -1 from by omega]
      gi_wp2
      go_end0
      exact ⟨⟨_, rfl⟩, .inl ⟨_, rfl, hJs⟩⟩

theorem back_stops (F : Fence) (n : Nat) (hF : F.fn 50) (hro : F.round = none) (hn : 1 ≤ n) (Bs n₀ : Nat) (p : Option Addr) (cap : Nat) (ss : List ByteArray) (hreach : ss.length ≤ 1000000) (w : World) (hBs : Bs < w.heap.size) (hn₀ : n₀ ≤ w.heap.size)
    (hc : w.cell? ⟨Bs, 0, none⟩ = some (.slice p ss.length cap)) (hS : SS n₀ w p ss) :
    SeqStopsK F n Tryd.prog 50 #[.pointer (some ⟨Bs, 0, none⟩)] (encS ss) (KpS n₀ Bs) (fun ys => ys = revIx ss.length ss.length) (fun _ => True) ss.length w := fun l J Jx W hW _ _ hY h0 =>
  back1_in F n hF hro hn l Bs n₀ p cap ss hreach J Jx hY W ((hW.cell (p := ⟨Bs, 0, none⟩) hBs).trans hc) (hS.below (hW.mono hn₀)) h0

set_option maxHeartbeats 1000000 in
theorem back_any (p : Option Addr) (len cap : Nat) (w : World) :
    Calls Tryd.prog 37 #[.slice p len cap] w fun e w' => e = .returned (.func (.func 50) #[] #[.pointer (some ⟨w.heap.size, 0, none⟩)]) ∧ w' = w.alloc (.cells #[.slice p len cap] 40) := by
  go_enter Tryd.func37, Tryd.ntmps37
  go_wp2
  go_ret
  exact ⟨rfl, rfl⟩

set_option maxHeartbeats 4000000 in
theorem index_any (p : Option Addr) (cap : Nat) (l : List Int) (w : World) (hl : l.length ≤ 1000000) (hr : BS w p l) :
    Calls Tryd.prog 51 #[.slice p l.length cap, .int .u8 0] w fun e w' => (∃ r : Int, e = .returned (.int .i64 r) ∧ -1 ≤ r ∧ r ≤ 1000000 ∧ (0 ≤ r ↔ (0 : Int) ∈ l)) ∧ w = w' := by
  have HR := Lib.hid hr
  clear hr
  go_enter Tryd.func51, Tryd.ntmps51
  go_wp2
  go_loop [8] (fun i => ∃ k : Nat, k ≤ l.length ∧ i = .int .i64 k ∧ ∀ j, j < k → l.getD j 0 ≠ 0) (fun i => l.length - (intOf i).toNat)
  case atStart => exact ⟨0, Nat.zero_le _, rfl, fun j hj => by omega⟩
  case round =>
    obtain ⟨k, hk, rfl, hno⟩ := hrel
    have HN := Lib.hid hno
    clear hno
    by_cases hlt : k < l.length
    · obtain ⟨b, o, rfl, _, h1⟩ := HR.out.2 (by omega)
      have a1 := h1.at_ k hlt
      have HM : Hid (l.getD k 0 ∈ l) := Lib.hid (by rw [List.getD_eq_getElem?_getD, List.getElem?_eq_getElem hlt]; exact List.getElem_mem hlt)
      clear h1
      by_cases hz : l.getD k 0 = 0
      · rw [hz] at HM a1
        clear hz
        go_wp2
        go_ret
        exact ⟨⟨k, rfl, by omega, by omega, ⟨fun _ => HM.out, fun _ => by omega⟩⟩, rfl⟩
      · have HZ := Lib.hid hz
        have hz2 : ((0 : Int) == l.getD k 0) = false := by simp; exact fun h => hz h.symm
        clear hz
        generalize hx : l.getD k 0 = x at *
        have HX := Lib.hid hx
        clear hx
        go_wp2
        go_round
        case rel => exact ⟨k + 1, by omega, by go_num, fun j hj => by
          by_cases e : j = k
          · subst e; rw [HX.out]; exact HZ.out
          · exact HN.out j (by omega)⟩
        case measure => simp [intOf] <;> omega
    · obtain rfl : k = l.length := by omega
      go_wp2
      go_ret
      exact ⟨⟨-1, rfl, by omega, by omega, ⟨fun h => by omega, fun h => by
        obtain ⟨j, hj, he⟩ := List.getElem_of_mem h
        have := HN.out j hj
        rw [List.getD_eq_getElem?_getD, List.getElem?_eq_getElem hj] at this
        exact absurd he this⟩⟩, rfl⟩

set_option maxHeartbeats 4000000 in
theorem contains_any (p : Option Addr) (cap : Nat) (l : List Int) (w : World) (hl : l.length ≤ 1000000) (hr : BS w p l) :
    Calls Tryd.prog 38 #[.slice p l.length cap, .int .u8 0] w fun e w' => e = .returned (.bool (decide ((0 : Int) ∈ l))) ∧ w = w' := by
  have HI := Lib.hid (index_any p cap l w hl hr)
  clear hr
  go_enter Tryd.func38, Tryd.ntmps38
  go_wp2_with (go_at_call 51; with_reducible refine Calls.mono HI.out ?_; rintro e w1 ⟨⟨r, rfl, h1, h2, h3⟩, rfl⟩; have H3 := Lib.hid h3; clear h3)
  all_goals
    go_ret
    exact ⟨by rw [show decide ((0 : Int) ∈ l) = decide (0 ≤ r) from by rw [decide_eq_decide]; exact H3.out.symm]; try rfl, rfl⟩
end Go.Proofs.YtologfdegdljeaaDoor
