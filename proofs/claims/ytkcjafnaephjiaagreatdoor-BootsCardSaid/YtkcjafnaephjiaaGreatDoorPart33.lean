/- The program's (*Inode).Path. -/
import Derived.Test.YtkcjafnaephjiaaGreatDoorPart32
import Derived.Test.YtkcjafnaephjiaaGreatDoorPart05
import Derived.Test.YtkcjafnaephjiaaGreatDoorPart31
import Derived.Laws.OwnMore
import Derived.Test.YtkcjafnaephjiaaGreatDoorPart01
set_option linter.unusedVariables false
set_option linter.unusedSimpArgs false
namespace Go.Proofs.YtkcjafnaephjiaaGreatDoor
open Go.RowKit
set_option maxRecDepth 100000

theorem PTree.down {w : World} {A : Adr} {T : List Pn} (h : PTree w A T) : Down (nds T) := fun i n hn => by
  unfold nds at hn
  rw [List.getElem?_map] at hn
  cases hx : T[i]? with
  | none => rw [hx] at hn; cases hn
  | some x =>
    rw [hx] at hn
    simp only [Option.map_some, Option.some.injEq] at hn
    subst hn
    have := h.par i x hx
    show (if x.gone then 0 else x.par) ≤ i
    split <;> omega
/-- What is not gone lies in what is not gone. -/
def Live (T : List Pn) : Prop := ∀ (i : Nat) (n : Pn), T[i]? = some n → n.gone = false → n.par ≠ 0 → ∃ p : Pn, T[n.par - 1]? = some p ∧ p.gone = false
theorem nds_at {T : List Pn} {i : Nat} {n : Pn} (h : T[i]? = some n) : (nds T)[i]? = some n.nd := by
  unfold nds
  rw [List.getElem?_map, h]
  rfl
theorem PTree.names {w : World} {A : Adr} {T : List Pn} (h : PTree w A T) (hr : ∀ n : Pn, T[0]? = some n → n.name.size ≤ 1000) (hg : ∀ (i : Nat) (n : Pn), T[i]? = some n → n.gone = true → n.name.size ≤ 1000) : ∀ n ∈ nds T, n.name.size ≤ 1000 := fun n hn => by
  obtain ⟨x, hx, rfl⟩ := List.mem_map.1 hn
  obtain ⟨i, hi⟩ := List.mem_iff_getElem?.1 hx
  show x.name.size ≤ 1000
  by_cases h0 : i = 0
  · subst h0; exact hr x hi
  · cases hgn : x.gone with
    | true => exact hg i x hi hgn
    | false =>
      have := (h.name i x hi hgn h0).1
      unfold nameOk at this
      simp only [Bool.and_eq_true, decide_eq_true_eq] at this
      have h2 : x.name.data.toList.length = x.name.size := by simp
      omega
set_option maxHeartbeats 4000000 in
theorem pathP_any (A : Adr) (T : List Pn) (w : World) (ht : PTree w A T) (hl : T.length ≤ 8000) (hlv : Live T) (hs : ∀ n ∈ nds T, n.name.size ≤ 1000) (i : Nat) (n : Pn) (hi : T[i]? = some n) (hg : n.gone = false) :
    Calls Tryz.prog 81 #[A.ptr (i + 1)] w fun e w' => e = .returned (.tuple #[strV (pathL (nds T) (i + 1)), .bool true]) ∧ w = w' := by
  have hlen := pathL_len ht.down hs (i + 1) (i + 1) (Nat.le_refl _)
  have hil : i < T.length := (List.getElem?_eq_some_iff.1 hi).1
  have hB := ht.node i n hi
  have c5 : w.cell? ⟨A.nb (i + 1), 5, none⟩ = some (.bool false) := by rw [hB.cell]; show some (Value.bool n.gone) = _; rw [hg]
  have HT := Lib.hid ht
  have HLV := Lib.hid hlv
  have HI := Lib.hid (And.intro hi hg)
  have HS := Lib.hid hs
  clear ht hlv hi hg hs hB
  rw [show A.ptr (i + 1) = .pointer (some ⟨A.nb (i + 1), 0, none⟩) from rfl]
  go_enter Tryz.func81, Tryz.ntmps81
  go_wp2_with fail
  go_loop [0, 4] (fun p s => ∃ (k : Nat) (m : Pn) (l : List UInt8), k ≤ i ∧ Hid (T[k]? = some m ∧ m.gone = false) ∧ p = .pointer (some ⟨A.nb (k + 1), 0, none⟩) ∧ s = strV l ∧ Hid (pathL (nds T) (i + 1) = pathL (nds T) (k + 1) ++ l)) (fun p _ => match p with | .pointer (some a) => (List.range (i + 1)).find? (fun k => A.nb (k + 1) == a.block) |>.getD 0 | _ => 0)
  case atStart => exact ⟨i, n, [], Nat.le_refl _, HI, rfl, rfl, Lib.hid (by simp)⟩
  case round =>
    obtain ⟨k, m, l, hk, HM, rfl, rfl, HL⟩ := hrel
    have hll : l.length ≤ 1001 * (i + 1) := by have := congrArg List.length HL.out; simp at this; omega
    have hB := HT.out.node k m HM.out.1
    have c0 : w.cell? ⟨A.nb (k + 1), 0, none⟩ = some (.string m.name) := hB.cell 0
    have c1 : w.cell? ⟨A.nb (k + 1), 1, none⟩ = some (A.ptr m.par) := hB.cell 1
    have HB := Lib.hid hB
    clear hB
    by_cases h0 : m.par = 0
    · have hk0 : k = 0 := by
        refine Classical.byContradiction fun hc => ?_
        have := HT.out.top k m HM.out.1 h0 hc
        rw [HM.out.2] at this
        cases this
      rw [h0, show A.ptr 0 = .pointer none from rfl] at c1
      have HE : Hid (strV l = strV (pathL (nds T) (i + 1))) := Lib.hid (by rw [HL.out, hk0, pathL_root _ (by omega)]; rfl)
      clear hk0 h0
      go_wp2_with fail
      go_ret2
      exact ⟨by rw [HE.out]; rfl, rfl⟩
    · obtain ⟨q, hq, hqg⟩ := HLV.out k m HM.out.1 HM.out.2 h0
      have hpl := HT.out.par k m HM.out.1
      obtain ⟨j, hj⟩ : ∃ j, m.par = j + 1 := ⟨m.par - 1, by omega⟩
      rw [hj, show A.ptr (j + 1) = .pointer (some ⟨A.nb (j + 1), 0, none⟩) from rfl] at c1
      have HST : Hid (pathL (nds T) (k + 1) = pathL (nds T) (j + 1) ++ (47 :: m.name.data.toList)) := Lib.hid (by
        have := pathL_step HT.out.down (id := k + 1) (n := m.nd) (by omega) (nds_at HM.out.1)
        rw [this]
        show pathL _ (if m.gone then 0 else m.par) ++ _ = _
        rw [HM.out.2, ← hj]
        rfl)
      rw [hj, Nat.add_sub_cancel] at hq
      have HQ : Hid (T[j]? = some q ∧ q.gone = false) := Lib.hid ⟨hq, hqg⟩
      have hjk : j < k := by omega
      have hs1 : m.name.size ≤ 1000 := HS.out m.nd (List.mem_map.2 ⟨m, List.mem_of_getElem? HM.out.1, rfl⟩)
      have hnn : m.name = ⟨m.name.data.toList.toArray⟩ := by cases m.name; rfl
      have hns : m.name.data.toList.length ≤ 1000 := by simpa using hs1
      obtain ⟨nl, hnl⟩ : ∃ nl, m.name.data.toList = nl := ⟨_, rfl⟩
      rw [hnl] at hnn HST hns
      rw [hnn] at c0
      have ha1 : ∀ W : World, (Op.stringOp .add ⟨#[47]⟩ ⟨nl.toArray⟩).run Tryz.prog W = .ok (.string ⟨(47 :: nl).toArray⟩) W := fun W => run_string_add_lists W [47] nl (by simp) (by omega)
      have ha2 : ∀ W : World, (Op.stringOp .add ⟨(47 :: nl).toArray⟩ ⟨l.toArray⟩).run Tryz.prog W = .ok (.string ⟨((47 :: nl) ++ l).toArray⟩) W := fun W => run_string_add_lists W (47 :: nl) l (by simp; omega) (by omega)
      have hsv : strV l = .string ⟨l.toArray⟩ := rfl
      have HYB : Hid (Value.string ⟨((47 :: nl) ++ l).toArray⟩ = strV ((47 :: nl) ++ l)) := Lib.hid rfl
      rw [hsv]
      generalize (⟨l.toArray⟩ : ByteArray) = s1 at *
      generalize (⟨nl.toArray⟩ : ByteArray) = s2 at *
      generalize (⟨(47 :: nl).toArray⟩ : ByteArray) = s3 at *
      generalize (⟨((47 :: nl) ++ l).toArray⟩ : ByteArray) = s4 at *
      have hnb : ∀ x, x ≤ i → (((List.range (i + 1)).find? (fun y => A.nb (y + 1) == A.nb (x + 1))).getD 0) = x := fun x hx => by
        have : (List.range (i + 1)).find? (fun y => A.nb (y + 1) == A.nb (x + 1)) = some x := by
          rw [List.find?_eq_some_iff_append]
          refine ⟨by simp, List.range x, (List.range (i + 1)).drop (x + 1), ?_, fun y hy => ?_⟩
          · have e : List.range (i + 1) = (List.range (i + 1)).take x ++ (List.range (i + 1)).drop x := (List.take_append_drop _ _).symm
            rw [List.take_range, Nat.min_eq_left (by omega), List.drop_eq_getElem_cons (by simp; omega)] at e
            simpa using e
          · have hyx := List.mem_range.1 hy
            have : A.nb (y + 1) ≠ A.nb (x + 1) := fun e => by have := HT.out.inj y x (by omega) (by omega) e; omega
            simpa using this
        rw [this]; rfl
      have HNB := Lib.hid hnb
      clear hnb hnn hsv hs1 hnl hq hqg hj h0
      go_wp2_with fail
      go_round
      case rel => exact ⟨j, q, (47 :: nl) ++ l, by omega, HQ, rfl, HYB.out, Lib.hid (by rw [HL.out, HST.out, List.append_assoc])⟩
      case measure => simp only []; rw [HNB.out j (by omega), HNB.out k hk]; exact hjk
end Go.Proofs.YtkcjafnaephjiaaGreatDoor

/- The nodes below a directory, each once; paths tell nodes apart. No program. -/
namespace Go.Proofs.YtkcjafnaephjiaaGreatDoor
open Go.RowKit
set_option maxRecDepth 100000

def descF (N : List Nd) : Nat → Nat → List Nat
  | 0, _ => []
  | f + 1, d => (kidN N d).flatMap fun k => k :: descF N f k
def parOf (N : List Nd) (x : Nat) : Nat := ((N[x - 1]?).map Nd.par).getD 0
theorem kidF_sorted (d : Nat) : ∀ (i : Nat) (N : List Nd), (kidF d i N).Pairwise (· < ·) ∧ ∀ k ∈ kidF d i N, i < k
  | i, [] => by simp [kidF]
  | i, n :: N => by
    obtain ⟨h1, h2⟩ := kidF_sorted d (i + 1) N
    unfold kidF
    split
    · exact ⟨List.pairwise_cons.2 ⟨fun k hk => h2 k hk, h1⟩, fun k hk => by
        rcases List.mem_cons.1 hk with rfl | hk
        · omega
        · have := h2 k hk; omega⟩
    · exact ⟨h1, fun k hk => by have := h2 k hk; omega⟩
theorem kidN_nodup (N : List Nd) (d : Nat) : (kidN N d).Nodup := (kidF_sorted d 0 N).1.imp fun h => by omega
theorem kidN_gt {N : List Nd} (h : Down N) {d k : Nat} (hd : 1 ≤ d) (hk : k ∈ kidN N d) : d < k ∧ k ≤ N.length ∧ parOf N k = d := by
  obtain ⟨j, n, hj, hp, rfl⟩ := kidN_mem.1 hk
  have h1 := h j n hj
  have h2 := (List.getElem?_eq_some_iff.1 hj).1
  refine ⟨by omega, by omega, ?_⟩
  unfold parOf
  rw [Nat.add_sub_cancel, hj]
  exact hp
theorem kidN_count {N : List Nd} {d x : Nat} (hx : 1 ≤ x) (hx2 : x ≤ N.length) : (kidN N d).count x = if parOf N x = d then 1 else 0 := by
  have hm : x ∈ kidN N d ↔ parOf N x = d := by
    rw [kidN_mem]
    have hi := List.getElem?_eq_getElem (l := N) (i := x - 1) (by omega)
    constructor
    · rintro ⟨j, n, hj, hp, rfl⟩
      unfold parOf
      rw [Nat.add_sub_cancel, hj]
      exact hp
    · intro h
      refine ⟨x - 1, _, hi, ?_, by omega⟩
      unfold parOf at h
      rw [hi] at h
      exact h
  by_cases h : parOf N x = d
  · rw [if_pos h]
    exact (kidN_nodup N d).count.trans (by rw [if_pos (hm.2 h)])
  · rw [if_neg h]
    exact List.count_eq_zero.2 fun hc => h (hm.1 hc)
theorem sum_map_add {α : Type} (f g : α → Nat) : ∀ l : List α, (l.map fun a => f a + g a).sum = (l.map f).sum + (l.map g).sum
  | [] => rfl
  | a :: l => by
    have := sum_map_add f g l
    simp only [List.map_cons, List.sum_cons, this]
    omega
theorem sum_count_one {α : Type} [BEq α] [LawfulBEq α] (x : α) : ∀ l : List α, (l.map fun k => [k].count x).sum = l.count x
  | [] => rfl
  | a :: l => by
    have := sum_count_one x l
    simp only [List.map_cons, List.sum_cons, this]
    rw [List.count_cons (l := l), List.count_singleton]
    omega
theorem desc_count (N : List Nd) (h : Down N) : ∀ (f d x : Nat), N.length + 1 ≤ d + f → 1 ≤ d → 1 ≤ x → x ≤ N.length → (descF N f d).count x = (if parOf N x = d then 1 else 0) + (descF N f d).count (parOf N x)
  | 0, d, x, hf, hd, hx, hx2 => by
    have : parOf N x ≠ d := by
      unfold parOf
      rw [List.getElem?_eq_getElem (by omega)]
      have := h (x - 1) _ (List.getElem?_eq_getElem (by omega))
      show (N[x - 1]'(by omega)).par ≠ d
      omega
    rw [if_neg this]
    rfl
  | f + 1, d, x, hf, hd, hx, hx2 => by
    have key : ∀ y, ((kidN N d).flatMap fun k => k :: descF N f k).count y = (kidN N d).count y + ((kidN N d).map fun k => (descF N f k).count y).sum := by
      intro y
      rw [List.count_flatMap]
      have : (List.count y ∘ fun k => k :: descF N f k) = fun k => [k].count y + (descF N f k).count y := by
        funext k
        show (k :: descF N f k).count y = _
        rw [List.count_cons, List.count_singleton]
        omega
      rw [this, sum_map_add, sum_count_one]
    have hk : ((kidN N d).map fun k => (descF N f k).count x).sum = (kidN N d).count (parOf N x) + ((kidN N d).map fun k => (descF N f k).count (parOf N x)).sum := by
      rw [← sum_count_one (parOf N x), ← sum_map_add]
      congr 1
      apply List.map_congr_left
      intro k hk
      obtain ⟨h1, h2, _⟩ := kidN_gt h hd hk
      rw [desc_count N h f k x (by omega) (by omega) hx hx2, List.count_singleton]
      by_cases e : parOf N x = k
      · subst e; simp
      · rw [if_neg e, if_neg (by simpa using fun h => e h.symm)]
    show ((kidN N d).flatMap fun k => k :: descF N f k).count x = _ + ((kidN N d).flatMap fun k => k :: descF N f k).count (parOf N x)
    rw [key, key, hk, kidN_count hx hx2]
theorem desc_mem (N : List Nd) (h : Down N) : ∀ (f d x : Nat), 1 ≤ d → x ∈ descF N f d → d < x ∧ x ≤ N.length ∧ parOf N x ≠ 0
  | 0, d, x, _, hx => by cases hx
  | f + 1, d, x, hd, hx => by
    obtain ⟨k, hk, hx⟩ := List.mem_flatMap.1 hx
    obtain ⟨h1, h2, h3⟩ := kidN_gt h hd hk
    rcases List.mem_cons.1 hx with rfl | hx
    · exact ⟨h1, h2, by omega⟩
    · obtain ⟨h4, h5, h6⟩ := desc_mem N h f k x (by omega) hx
      exact ⟨by omega, h5, h6⟩
/-- Every node but the root lies in a directory. -/
def Conn (N : List Nd) : Prop := ∀ (i : Nat) (n : Nd), N[i]? = some n → i ≠ 0 → n.par ≠ 0
theorem desc_one (N : List Nd) (h : Down N) (hc : Conn N) : ∀ (m x : Nat), x ≤ m → 2 ≤ x → x ≤ N.length → (descF N N.length 1).count x = 1
  | 0, x, hm, h2, _ => by omega
  | m + 1, x, hm, h2, hx => by
    rw [desc_count N h N.length 1 x (by omega) (Nat.le_refl _) (by omega) hx]
    have hi := List.getElem?_eq_getElem (l := N) (i := x - 1) (by omega)
    have h3 := h (x - 1) _ hi
    have h4 := hc (x - 1) _ hi (by omega)
    have hp : parOf N x = (N[x - 1]'(by omega)).par := by unfold parOf; rw [hi]; rfl
    by_cases e : parOf N x = 1
    · rw [if_pos e, e]
      have : (descF N N.length 1).count 1 = 0 := List.count_eq_zero.2 fun hm => by have := (desc_mem N h _ _ _ (Nat.le_refl _) hm).1; omega
      omega
    · rw [if_neg e, desc_one N h hc m (parOf N x) (by omega) (by omega) (by omega)]
theorem desc_perm (N : List Nd) (h : Down N) (hc : Conn N) : (descF N N.length 1).Perm (List.range' 2 (N.length - 1)) := by
  rw [List.perm_iff_count]
  intro x
  by_cases h1 : 2 ≤ x ∧ x ≤ N.length
  · rw [desc_one N h hc x x (Nat.le_refl _) h1.1 h1.2]
    exact ((List.nodup_range' (step := 1)).count.trans (by rw [if_pos (by rw [List.mem_range'_1]; omega)])).symm
  · rw [List.count_eq_zero.2, List.count_eq_zero.2]
    · rw [List.mem_range'_1]; omega
    · intro hm
      have := desc_mem N h _ _ _ (Nat.le_refl _) hm
      omega
theorem tail_eq {c : UInt8} : ∀ {p q n m : List UInt8}, c ∉ n → c ∉ m → p ++ c :: n = q ++ c :: m → p = q ∧ n = m
  | [], [], n, m, _, _, h => by simp at h; exact ⟨rfl, h⟩
  | [], b :: q, n, m, hn, _, h => by
    simp at h
    obtain ⟨_, h⟩ := h
    exact absurd (by rw [h]; simp) hn
  | a :: p, [], n, m, _, hm, h => by
    simp at h
    obtain ⟨_, h⟩ := h
    exact absurd (by rw [← h]; simp) hm
  | a :: p, b :: q, n, m, hn, hm, h => by
    simp at h
    obtain ⟨rfl, h⟩ := h
    obtain ⟨h1, h2⟩ := tail_eq hn hm h
    exact ⟨by rw [h1], h2⟩
/-- The names in a directory part its nodes; no name holds the sign that parts names. -/
structure Parted (N : List Nd) : Prop where
  one : ∀ (i j : Nat) (m n : Nd), N[i]? = some m → N[j]? = some n → m.par ≠ 0 → m.par = n.par → m.name = n.name → i = j
  no : ∀ (i : Nat) (n : Nd), N[i]? = some n → n.par ≠ 0 → (47 : UInt8) ∉ n.name.data.toList
theorem path_inj {N : List Nd} (h : Down N) (hc : Conn N) (hp : Parted N) : ∀ (f x y : Nat), x ≤ f → 1 ≤ x → x ≤ N.length → 1 ≤ y → y ≤ N.length → pathL N x = pathL N y → x = y
  | 0, x, y, hf, h1, _, _, _, _ => by omega
  | f + 1, x, y, hf, h1, hx, h2, hy, he => by
    have hxi := List.getElem?_eq_getElem (l := N) (i := x - 1) (by omega)
    have hyi := List.getElem?_eq_getElem (l := N) (i := y - 1) (by omega)
    by_cases ex : x = 1
    · by_cases ey : y = 1
      · omega
      · rw [pathL_root N (by omega : x ≤ 1), pathL_step h (by omega) hyi] at he
        simp at he
    · by_cases ey : y = 1
      · rw [pathL_root N (by omega : y ≤ 1), pathL_step h (by omega) hxi] at he
        simp at he
      · rw [pathL_step h (by omega) hxi, pathL_step h (by omega) hyi] at he
        have cx := hc (x - 1) _ hxi (by omega)
        have cy := hc (y - 1) _ hyi (by omega)
        obtain ⟨e1, e2⟩ := tail_eq (hp.no _ _ hxi cx) (hp.no _ _ hyi cy) he
        have d1 := h (x - 1) _ hxi
        have d2 := h (y - 1) _ hyi
        have e3 := path_inj h hc hp f _ _ (by omega) (by omega) (by omega) (by omega) (by omega) e1
        have e4 : (N[x - 1]'(by omega)).name = (N[y - 1]'(by omega)).name := by
          apply ByteArray.ext
          exact Array.toList_inj.1 e2
        have := hp.one _ _ _ _ hxi hyi cx e3 e4
        omega
end Go.Proofs.YtkcjafnaephjiaaGreatDoor

/- Rows of files, as the program hands them out. No program. -/
namespace Go.Proofs.YtkcjafnaephjiaaGreatDoor
open Go.RowKit

/-- A file that is handed out. -/
structure FileR where
  path : List UInt8
  dir : Bool
  byt : List Int
  p : Option Addr
  cap : Nat
/-- Its bytes' slice. -/
def FileR.bv (r : FileR) : Value := .slice r.p r.byt.length r.cap
def FileR.cells (r : FileR) : List Value := [strV r.path, .bool r.dir, r.bv]
theorem flat_snoc {α β : Type} (f : α → List β) (l : List α) (a : α) : (l ++ [a]).flatMap f = l.flatMap f ++ f a := by simp
theorem rowsLen (R : List FileR) : (R.flatMap FileR.cells).length = R.length * 3 := by
  induction R with
  | nil => rfl
  | cons r R ih => rw [List.flatMap_cons, List.length_append, ih]; simp [FileR.cells]; omega
/-- The slice v holds the files R, in blocks from base on. -/
structure FRows (w : World) (base : Nat) (v : Value) (R : List FileR) : Prop where
  row : w.ownsRow base 44 3 v R.length (R.flatMap FileR.cells)
  byt : ∀ r ∈ R, Rw w r.bv r.byt ∧ ∀ g, r.bv.ownBlock = some g → base ≤ g
theorem row_blk {w : World} {base : Nat} {e : TypeId} {size : Nat} {v : Value} {n : Nat} {xs : List Value} (h : w.ownsRow base e size v n xs) {g : Nat} (hg : v.ownBlock = some g) : base ≤ g ∧ ∃ cur : List Value, Blk w g cur e := by
  rcases h.2 with ⟨rfl, _⟩ | ⟨g', cap, cur, rfl, h2, h3, _⟩
  · cases hg
  · cases hg
    exact ⟨h2, cur.toList, h3⟩
theorem FRows.keep {S : Nat → Prop} {w w' : World} {base : Nat} {v : Value} {R : List FileR} (h : FRows w base v R) (k : Keep S w w') (hs : ∀ g, base ≤ g → g < w.heap.size → ¬ S g) : FRows w' base v R := by
  refine ⟨?_, fun r hr => ⟨(h.byt r hr).1.keep k fun g hg => hs g ((h.byt r hr).2 g hg) ((h.byt r hr).1.lt hg).1, (h.byt r hr).2⟩⟩
  refine ⟨h.row.1, ?_⟩
  rcases h.row.2 with h1 | ⟨g, cap, cur, h1, h2, h3, h4⟩
  · exact .inl h1
  · have hl := (Array.getElem?_eq_some_iff.1 h3).1
    exact .inr ⟨g, cap, cur, h1, h2, (k.block g hl (hs g h2 hl)).trans h3, h4⟩
theorem FRows.bel {w w' : World} {base : Nat} {v : Value} {R : List FileR} (h : FRows w base v R) (k : Bel w w') : FRows w' base v R := h.keep (Keep.of_bel (fun _ => False) k) (fun _ _ _ h => h)
theorem FRows.nil (w : World) (base : Nat) : FRows w base (.slice none 0 0) [] := ⟨World.ownsRow_nil _ _ _ _, fun r hr => by cases hr⟩
/-- Behind the append of one file. -/
theorem FRows.snoc {w w' : World} {base : Nat} {v v' : Value} {R : List FileR} {r : FileR} (h : FRows w base v R) (hb : Rw w r.bv r.byt) (hg : ∀ g, r.bv.ownBlock = some g → base ≤ g) (h3 : 44 ≠ 5)
    (hr : w'.ownsRow base 44 3 v' (R.length + 1) (R.flatMap FileR.cells ++ r.cells)) (k : Keep (fun q => v.ownBlock = some q) w w') : FRows w' base v' (R ++ [r]) := by
  have hne : ∀ (bv : Value) (L : List Int), Rw w bv L → ∀ g, bv.ownBlock = some g → ¬ v.ownBlock = some g := fun bv L hrw g hg hv => by
    obtain ⟨_, cur, hb1⟩ := row_blk h.row hv
    obtain ⟨_, cur2, hb2⟩ := hrw.lt hg
    exact hb1.ne hb2 h3 rfl
  refine ⟨by rw [List.length_append, flat_snoc]; exact hr, fun x hx => ?_⟩
  rcases List.mem_append.1 hx with hx | hx
  · exact ⟨(h.byt x hx).1.keep k fun g hg => hne _ _ (h.byt x hx).1 g hg, (h.byt x hx).2⟩
  · obtain rfl := List.mem_singleton.1 hx
    exact ⟨hb.keep k fun g hg => hne _ _ hb g hg, hg⟩
theorem rw_of_row {w : World} {base : Nat} {v : Value} {L : List Int} (hb : ∀ x ∈ L, 0 ≤ x ∧ x ≤ 255) (h : w.ownsRow base 5 1 v L.length (L.map (Value.int .u8))) : Rw w v L := by
  refine ⟨hb, ?_⟩
  rcases h.2 with ⟨rfl, h0⟩ | ⟨g, cap, cur, rfl, _, h3, h4, h5, h6, h7⟩
  · exact .inl ⟨rfl, List.eq_nil_of_length_eq_zero h0⟩
  · exact .inr ⟨g, cap, cur.toList, rfl, h3, h4, by simp; omega, h5, by rw [Nat.mul_one] at h7; exact h7⟩
/-- append([]byte(nil), b...) by one step: a copy in a block of its own. -/
theorem step_append_copy {P : Program} {w : World} {ops : Array Oper} {o : Oper} {a : Act} {K : Act → World → Prop} {Q : Exit → Act → World → Prop} {E : Prop} (hgd : o.guard = none) (x : Operand) (t : TypeId)
    (ho : o.op = .call { callee := .builtin .append, args := #[.const (.slice none 0 0), x], argTypes := #[t, t] }) (ht : P.underlying t = some (.slice 5))
    (hi : (P.info? 5).map (fun i => (i.size, i.bytes, (i.zero.map (·.cells.size)))) = some (1, 1, some 1)) (L : List Int) (v : Value) (hv : a.eval x = v) (hx : Rw w v L) (hL : L.length ≤ 1000000)
    (h : ∀ v w', Rw w' v L → (∀ g, v.ownBlock = some g → w.heap.size ≤ g) → Bel w w' → K (a.put o.dst v) w') : if Region.wanted o (yielded ops a.tmps) = true then Oper.wp P o a w K Q else E := by
  have hw : Region.wanted o (yielded ops a.tmps) = true := by simp [Region.wanted, hgd]
  rw [if_pos hw]
  obtain ⟨i, z, hi, hz, e1, e2, e3⟩ := info_of hi
  have hn := World.ownsRow_nil w w.heap.size 5 1
  obtain ⟨hby, hx | ⟨g, cap, cur, hx, hb, h1, h2, h3, h4⟩⟩ := hx
  · obtain ⟨hx, rfl⟩ := hx
    have hrun := run_append_owned_none (P := P) (w := w) w.heap.size t o.type 5 i 1 ht hi _ 0 [] hn
    unfold Oper.wp
    have hx' := hv.trans hx
    have hcn : a.eval (.const (.slice none 0 0)) = .slice none 0 0 := rfl
    simp [execOp, ho, resolve, invoke, builtin, hx', hcn, hrun, Result.andThen]
    exact h _ _ ⟨hby, .inl ⟨rfl, rfl⟩⟩ (fun g hg => by cases hg) (Bel.refl _)
  · obtain ⟨v', w', hrun, k1, k2, _⟩ := run_append_own (P := P) w w.heap.size t o.type 5 i z 1 1 ht hi hz e1 e2 e3 (by omega) _ 0 [] hn ⟨g, 0, none⟩ L.length cap (L.map (Value.int .u8)) (by simp) (fun j u hj => by
      rw [show (⟨g, 0, none⟩ : Addr).add j = ⟨g, j, none⟩ from by unfold Addr.add; split <;> simp_all]
      rw [hb.cell, ← hj, ← h4, List.getElem?_take]
      have := (List.getElem?_eq_some_iff.1 hj).1
      rw [if_pos (by simpa using this)]) (by intro u hu; obtain ⟨y, _, rfl⟩ := List.mem_map.1 hu; rfl) (by unfold maxLen; omega) (by omega) (Nat.le_refl _)
    unfold Oper.wp
    have hx' := hv.trans hx
    have hcn : a.eval (.const (.slice none 0 0)) = .slice none 0 0 := rfl
    simp [execOp, ho, resolve, invoke, builtin, hx', hcn, hrun, Result.andThen]
    rw [Nat.zero_add, List.nil_append] at k1
    refine h _ _ (rw_of_row hby k1) (fun g hg => (row_blk k1 hg).1) ?_
    have := grown_keep k2 hn
    exact this.below _ (Nat.le_refl _) (fun q hq => hq)
end Go.Proofs.YtkcjafnaephjiaaGreatDoor
