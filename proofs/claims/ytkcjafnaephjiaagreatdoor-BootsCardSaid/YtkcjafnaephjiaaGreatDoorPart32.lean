/- Where a node is, in plain words. No program. -/
import Derived.Test.YtkcjafnaephjiaaGreatDoorPart02
set_option linter.unusedVariables false
set_option linter.unusedSimpArgs false
namespace Go.Proofs.YtkcjafnaephjiaaGreatDoor
open Go.RowKit

def pathF (N : List Nd) : Nat → Nat → List UInt8
  | 0, _ => []
  | f + 1, id => if id ≤ 1 then [] else match N[id - 1]? with
    | none => []
    | some n => pathF N f n.par ++ (47 :: n.name.data.toList)
/-- The path of the node id. -/
def pathL (N : List Nd) (id : Nat) : List UInt8 := pathF N id id
/-- Each node's directory has a lesser number. -/
def Down (N : List Nd) : Prop := ∀ (i : Nat) (n : Nd), N[i]? = some n → n.par ≤ i
theorem pathF_same {N : List Nd} (h : Down N) : ∀ (f g id : Nat), id ≤ f → id ≤ g → pathF N f id = pathF N g id
  | 0, g, id, hf, _ => by
    obtain rfl : id = 0 := by omega
    cases g <;> simp [pathF]
  | f + 1, 0, id, _, hg => by
    obtain rfl : id = 0 := by omega
    simp [pathF]
  | f + 1, g + 1, id, hf, hg => by
    unfold pathF
    by_cases h1 : id ≤ 1
    · rw [if_pos h1, if_pos h1]
    · rw [if_neg h1, if_neg h1]
      cases hn : N[id - 1]? with
      | none => rfl
      | some n =>
        have := h (id - 1) n hn
        simp only
        rw [pathF_same h f g n.par (by omega) (by omega)]
theorem pathL_root (N : List Nd) {id : Nat} (h : id ≤ 1) : pathL N id = [] := by
  unfold pathL
  cases id with
  | zero => rfl
  | succ k => rw [pathF, if_pos h]
theorem pathL_step {N : List Nd} (h : Down N) {id : Nat} {n : Nd} (h1 : 1 < id) (hn : N[id - 1]? = some n) : pathL N id = pathL N n.par ++ (47 :: n.name.data.toList) := by
  unfold pathL
  cases id with
  | zero => omega
  | succ k =>
    rw [pathF, if_neg (by omega), hn]
    simp only
    have := h _ n hn
    rw [pathF_same h k n.par n.par (by omega) (Nat.le_refl _)]
theorem pathL_len {N : List Nd} (h : Down N) (hs : ∀ n ∈ N, n.name.size ≤ 1000) : ∀ (f id : Nat), id ≤ f → (pathL N id).length ≤ 1001 * id
  | 0, id, hf => by
    obtain rfl : id = 0 := by omega
    simp [pathL, pathF]
  | f + 1, id, hf => by
    by_cases h1 : id ≤ 1
    · rw [pathL_root N h1]; simp
    · cases hn : N[id - 1]? with
      | none =>
        unfold pathL
        cases id with
        | zero => omega
        | succ k => rw [pathF, if_neg h1, hn]; simp
      | some n =>
        rw [pathL_step h (by omega) hn]
        have h2 := h (id - 1) n hn
        have h3 := pathL_len h hs f n.par (by omega)
        have h4 := hs n (List.mem_of_getElem? hn)
        simp only [List.length_append, List.length_cons, Array.length_toList]
        have h5 : n.name.data.size ≤ 1000 := h4
        omega
end Go.Proofs.YtkcjafnaephjiaaGreatDoor

/- The document's Path. -/
namespace Go.Proofs.YtkcjafnaephjiaaGreatDoor
open Go.RowKit
set_option maxRecDepth 100000

set_option maxHeartbeats 4000000 in
theorem pathD_any (kb g cap : Nat) (L : List Nd) (w : World) (ht : TreeAt w kb g cap L) (id : Nat) (h2 : id ≤ L.length) (hl : L.length ≤ 8000) (hd : Down L) (hs : ∀ n ∈ L, n.name.size ≤ 1000) :
    Calls Tryz.prog 21 #[.pointer (some ⟨kb, 0, none⟩), .int .i64 id] w fun e w' => e = .returned (strV (pathL L id)) ∧ w = w' := by
  have HIN := Lib.hid fun k (h1 : 1 ≤ k) (h2 : k ≤ L.length) => inode_any kb g cap L w ht k h1 h2 (by omega)
  have hlen := pathL_len hd hs id id (Nat.le_refl _)
  obtain ⟨hc, hcap, hr⟩ := ht
  have HR := Lib.hid hr
  have HD := Lib.hid hd
  have HS := Lib.hid hs
  have HC := Lib.hid hc
  clear hr hd hs hc
  go_enter Tryz.func21, Tryz.ntmps21
  go_wp2_with fail
  go_loop [1, 5] (fun i s => ∃ (k : Nat) (l : List UInt8), k ≤ id ∧ i = .int .i64 k ∧ s = strV l ∧ Hid (pathL L id = pathL L k ++ l)) (fun i _ => (intOf i).toNat)
  case atStart => exact ⟨id, [], Nat.le_refl _, rfl, rfl, Lib.hid (by simp)⟩
  case round =>
    obtain ⟨k, l, hk, rfl, rfl, HL⟩ := hrel
    have hll : l.length ≤ 1001 * id := by have := congrArg List.length HL.out; simp at this; omega
    by_cases hlt : 1 < k
    · have hkl : k - 1 < L.length := by omega
      have hx := List.getElem?_eq_getElem hkl
      have hs1 := HS.out L[k - 1] (List.getElem_mem hkl)
      have hd1 := HD.out (k - 1) _ hx
      have HST := Lib.hid (pathL_step HD.out hlt hx)
      have hrg := HR.out (k - 1) _ hx
      generalize L[k - 1] = n at *
      have c1 : w.cell? ⟨g, (k - 1) * 5 + 1, none⟩ = some (.int .i64 (n.par : Int)) := hrg 1 _ rfl
      have c2 : w.cell? ⟨g, (k - 1) * 5 + 2, none⟩ = some (.string n.name) := hrg 2 _ rfl
      have hnn : n.name = ⟨n.name.data.toList.toArray⟩ := by cases n.name; rfl
      have hns : n.name.data.toList.length ≤ 1000 := by simpa using hs1
      obtain ⟨nl, hnl⟩ : ∃ nl, n.name.data.toList = nl := ⟨_, rfl⟩
      rw [hnl] at hnn HST hns
      rw [hnn] at c2
      have ha1 : ∀ W : World, (Op.stringOp .add ⟨#[47]⟩ ⟨nl.toArray⟩).run Tryz.prog W = .ok (.string ⟨(47 :: nl).toArray⟩) W := fun W => run_string_add_lists W [47] nl (by simp) (by omega)
      have ha2 : ∀ W : World, (Op.stringOp .add ⟨(47 :: nl).toArray⟩ ⟨l.toArray⟩).run Tryz.prog W = .ok (.string ⟨((47 :: nl) ++ l).toArray⟩) W := fun W => run_string_add_lists W (47 :: nl) l (by simp; omega) (by omega)
      have hsv : strV l = .string ⟨l.toArray⟩ := rfl
      have HYB : Hid (Value.string ⟨((47 :: nl) ++ l).toArray⟩ = strV ((47 :: nl) ++ l)) := Lib.hid rfl
      rw [hsv]
      generalize (⟨l.toArray⟩ : ByteArray) = s1 at *
      generalize (⟨nl.toArray⟩ : ByteArray) = s2 at *
      generalize (⟨(47 :: nl).toArray⟩ : ByteArray) = s3 at *
      generalize (⟨((47 :: nl) ++ l).toArray⟩ : ByteArray) = s4 at *
      have HI := Lib.hid (HIN.out k (by omega) (by omega))
      have hc := HC.out
      have hlti : (1 : Int) < (k : Int) := by omega
      clear hnn hsv hx hrg hs1 hnl
      go_wp2_with (go_at_call 34; ((with_reducible refine Calls.mono HI.out ?_); rintro e wx ⟨rfl, rfl⟩))
      go_round
      case rel => exact ⟨n.par, (47 :: nl) ++ l, by omega, rfl, HYB.out, Lib.hid (by rw [HL.out, HST.out, List.append_assoc])⟩
      case measure => simp [intOf]; omega
    · have hlti : ¬ (1 : Int) < (k : Int) := by omega
      have HE : Hid (strV l = strV (pathL L id)) := Lib.hid (by rw [HL.out, pathL_root L (by omega)]; rfl)
      go_wp2_with fail
      go_ret
      exact ⟨by rw [HE.out]; rfl, rfl⟩
end Go.Proofs.YtkcjafnaephjiaaGreatDoor
