/- Numbers out of bytes, bytes out of numbers: the walks of Number, number, Put, put, word. -/
import Derived.Test.YtologfdegdljeaaDoorChecked
import Derived.Test.YtologfdegdljeaaDoorMem
import Derived.Test.YtologfdegdljeaaDoorArith
import Derived.Deep.QuietTactic
import Derived.BigQuiet
import Derived.Lib.Hide
namespace Go.Proofs.YtologfdegdljeaaDoor
open Go.RowKit
set_option maxRecDepth 100000

/-- Cells of a block, from a place on, hold these bytes. -/
structure Bts (w : World) (b o : Nat) (l : List Int) : Prop where
  cell : ∀ i, i < l.length → w.cell? ⟨b, o + i, none⟩ = (l[i]?).map (Value.int .u8)
  byte : ∀ x ∈ l, 0 ≤ x ∧ x ≤ 255

theorem Bts.at_ {w : World} {b o : Nat} {l : List Int} (h : Bts w b o l) (i : Nat) (hi : i < l.length) : w.cell? ⟨b, o + i, none⟩ = some (.int .u8 (l.getD i 0)) := by
  rw [h.cell i hi, List.getElem?_eq_getElem hi, List.getD_eq_getElem?_getD, List.getElem?_eq_getElem hi]; rfl
theorem Bts.byteAt {w : World} {b o : Nat} {l : List Int} (h : Bts w b o l) (i : Nat) (hi : i < l.length) : 0 ≤ l.getD i 0 ∧ l.getD i 0 ≤ 255 := by
  rw [List.getD_eq_getElem?_getD, List.getElem?_eq_getElem hi]; exact h.byte _ (List.getElem_mem hi)
theorem Bts.part {w : World} {b o : Nat} {l : List Int} (h : Bts w b o l) (k n : Nat) (hn : k + n ≤ l.length) : Bts w b (o + k) ((l.drop k).take n) where
  cell i hi := by
    simp only [List.length_take, List.length_drop] at hi
    rw [show o + k + i = o + (k + i) from by omega, h.cell (k + i) (by omega), List.getElem?_take, List.getElem?_drop]
    simp [show i < n from by omega]
  byte x hx := h.byte x (List.mem_of_mem_drop (List.mem_of_mem_take hx))
theorem Bts.of_cell {w w' : World} {b o : Nat} {l : List Int} (h : Bts w b o l) (hc : ∀ a, a.block = b → w'.cell? a = w.cell? a) : Bts w' b o l :=
  ⟨fun i hi => (hc _ rfl).trans (h.cell i hi), h.byte⟩

/-- The number behind some bytes, the lowest first. -/
def numV : List Int → Int
  | [] => 0
  | x :: r => x + 256 * numV r
theorem numV_step (l : List Int) (i : Nat) (hi : i < l.length) : numV (l.drop i) = l.getD i 0 + 256 * numV (l.drop (i + 1)) := by
  rw [List.drop_eq_getElem_cons hi, numV, List.getD_eq_getElem?_getD, List.getElem?_eq_getElem hi]; rfl
theorem numV_bound : ∀ (l : List Int), (∀ x ∈ l, 0 ≤ x ∧ x ≤ 255) → 0 ≤ numV l ∧ numV l < 256 ^ l.length
  | [], _ => by simp [numV]
  | x :: r, h => by
    have h1 := numV_bound r fun y hy => h y (List.mem_cons_of_mem _ hy)
    have h2 := h x List.mem_cons_self
    simp only [numV, List.length_cons, Int.pow_succ]
    omega
theorem pow_le_8 : ∀ (n : Nat), n ≤ 7 → (256 : Int) ^ n ≤ 72057594037927936
  | 0, _ => by decide
  | 1, _ => by decide
  | 2, _ => by decide
  | 3, _ => by decide
  | 4, _ => by decide
  | 5, _ => by decide
  | 6, _ => by decide
  | 7, _ => by decide
  | n + 8, h => by omega
theorem numV_small (l : List Int) (h : ∀ x ∈ l, 0 ≤ x ∧ x ≤ 255) (hl : l.length ≤ 7) : 0 ≤ numV l ∧ numV l < 72057594037927936 := by
  have := numV_bound l h
  have := pow_le_8 l.length hl
  omega
theorem numV_u64 (l : List Int) (h : ∀ x ∈ l, 0 ≤ x ∧ x ≤ 255) (hl : l.length ≤ 8) : 0 ≤ numV l ∧ numV l < 18446744073709551616 := by
  have h1 := numV_bound l h
  by_cases h8 : l.length = 8
  · rw [h8] at h1
    omega
  · have := pow_le_8 l.length (by omega)
    omega
theorem or_byte (n x : Int) (hn : 0 ≤ n) (hn1 : n < 72057594037927936) (hx : 0 ≤ x) (hx1 : x ≤ 255) : bits .or .u64 (n * 256) x = n * 256 + x :=
  bits_join .u64 64 (by decide) (fun n h0 h1 => by rw [IntKind.wrap_u64]; omega) 8 (n * 256) x (by omega) (by omega) (by omega) hx (by omega) (by omega)

set_option maxHeartbeats 4000000 in
theorem number_any (b o c : Nat) (l : List Int) (w : World) (hl : l.length ≤ 8) (h : Bts w b o l) :
    Calls Tryd.prog 45 #[.slice (some ⟨b, o, none⟩) l.length c] w fun e w' => e = .returned (.int .u64 (numV l)) ∧ w = w' := by
  go_enter Tryd.func45, Tryd.ntmps45
  go_wp2
  go_loop [3, 4] (fun n i => ∃ k : Nat, k ≤ l.length ∧ i = .int .i64 k ∧ n = .int .u64 (numV (l.drop k))) (fun _ i => (intOf i).toNat)
  case atStart => exact ⟨l.length, Nat.le_refl _, rfl, by simp [numV]⟩
  case round =>
    obtain ⟨k, hk, rfl, rfl⟩ := hrel
    cases k with
    | zero =>
      go_wp2
      go_ret
      exact ⟨rfl, rfl⟩
    | succ k =>
      have hs := Lib.hid (numV_step l k hk)
      have hc := h.at_ k hk
      have hx := h.byteAt k hk
      have hn := numV_small (l.drop (k + 1)) (fun x hx => h.byte x (List.mem_of_mem_drop hx)) (by simp; omega)
      have hor := or_byte _ _ hn.1 hn.2 hx.1 hx.2
      have hx0 := hx.1
      have hx1 := hx.2
      have hn0 := hn.1
      have hn1 := hn.2
      clear hx hn
      generalize l.getD k 0 = x at *
      generalize hy : numV (l.drop (k + 1)) = y at *
      have HY := Lib.hid hy
      clear hy
      go_wp2
      go_round
      case rel => exact ⟨k, by omega, by go_num, by rw [hs.out]; congr 1; omega⟩
      case measure => simp [intOf] <;> omega
set_option maxHeartbeats 4000000 in
theorem numberR_any (b o c : Nat) (l : List Int) (w : World) (hl : l.length ≤ 8) (h : Bts w b o l) :
    Calls Tryd.prog 31 #[.slice (some ⟨b, o, none⟩) l.length c] w fun e w' => e = .returned (.int .u64 (numV l)) ∧ w = w' := by
  go_enter Tryd.func31, Tryd.ntmps31
  go_wp2
  go_loop [3, 4] (fun n i => ∃ k : Nat, k ≤ l.length ∧ i = .int .i64 ((k : Int) - 1) ∧ n = .int .u64 (numV (l.drop k))) (fun _ i => (intOf i + 1).toNat)
  case atStart => exact ⟨l.length, Nat.le_refl _, rfl, by simp [numV]⟩
  case round =>
    obtain ⟨k, hk, rfl, rfl⟩ := hrel
    cases k with
    | zero =>
      go_wp2
      go_ret
      exact ⟨rfl, rfl⟩
    | succ k =>
      have hs := Lib.hid (numV_step l k hk)
      have hc := h.at_ k hk
      have hx := h.byteAt k hk
      have hn := numV_small (l.drop (k + 1)) (fun x hx => h.byte x (List.mem_of_mem_drop hx)) (by simp; omega)
      have hx0 := hx.1
      have hx1 := hx.2
      have hn0 := hn.1
      have hn1 := hn.2
      clear hx hn
      generalize l.getD k 0 = x at *
      rw [show (((k + 1 : Nat) : Int) - 1) = (k : Int) from by omega]
      generalize hy : numV (l.drop (k + 1)) = y at *
      have HY := Lib.hid hy
      clear hy
      go_wp2
      go_round
      case rel => exact ⟨k, by omega, by go_num, by rw [hs.out]; congr 1; omega⟩
      case measure => simp [intOf] <;> omega
end Go.Proofs.YtologfdegdljeaaDoor
