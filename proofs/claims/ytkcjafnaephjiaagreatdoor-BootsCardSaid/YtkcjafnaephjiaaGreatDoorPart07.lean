/- The program's split of a path. -/
import Derived.Lib.SplitLaws
import Derived.Test.YtkcjafnaephjiaaGreatDoorPart02
import Derived.Test.YtkcjafnaephjiaaGreatDoorPart05
import Derived.Test.YtkcjafnaephjiaaGreatDoorPart06
namespace Go.Proofs.YtkcjafnaephjiaaGreatDoor
open Go.RowKit Go.Shelf
set_option maxRecDepth 100000

theorem splitB_eq (s : ByteArray) : Lib.splitB ⟨#[47]⟩ 0 (Lib.countB s ⟨#[47]⟩) s = (splitOn 47 s.data.toList).map fun x => ⟨x.toArray⟩ := by
  have h := Lib.splitB_data ⟨#[47]⟩ 0 (Lib.countB s ⟨#[47]⟩) s
  rw [← split_one, Lib.split, ← (show Lib.countB s ⟨#[47]⟩ = Lib.count s.data.toList [47] from rfl), ← (show Lib.splitK (ByteArray.mk #[47]).data.toList 0 _ _ = _ from rfl), ← h, List.map_map]
  conv => lhs; rw [← List.map_id (Lib.splitB _ _ _ _)]
  exact List.map_congr_left fun x _ => rfl
theorem splitB_len (s : ByteArray) : Lib.countB s ⟨#[47]⟩ + 1 = (splitOn 47 s.data.toList).length := by
  rw [← Lib.splitB_all ⟨#[47]⟩ (by decide) 0 _ s rfl, splitB_eq, List.length_map]

/-- What internal/bytealg.MaxLen holds: some number. -/
def MaxVar (w : World) : Prop := ∃ m, w.cell? ⟨2, 0, none⟩ = some (.int .i64 m)
theorem MaxVar.lt {w : World} (h : MaxVar w) : 2 < w.heap.size := by
  obtain ⟨m, h⟩ := h
  have := World.block_lt_of_cell? _ _ h
  simpa using this
theorem MaxVar.keep {S : Nat → Prop} {w w' : World} (h : MaxVar w) (k : Keep S w w') (hs : ¬ S 2) : MaxVar w' := by
  have hlt := h.lt
  obtain ⟨m, h⟩ := h
  exact ⟨m, (k.cell _ hlt hs).trans h⟩
theorem MaxVar.bel {w w' : World} (h : MaxVar w) (k : Bel w w') : MaxVar w' := h.keep (Keep.of_bel (fun _ => False) k) (fun h => h)

theorem cut_no (s : ByteArray) (w : World) (h : ∀ r, s.data.toList ≠ 47 :: r) :
    Calls Tryz.prog 102 #[.string s, .string ⟨#[47]⟩] w fun e w' => e = .returned (.tuple #[.string s, .bool false]) ∧ w = w' := by
  have hp : Lib.hasPrefix s.data.toList [47] = false := by
    unfold Lib.hasPrefix
    cases hs : s.data.toList with
    | nil => rfl
    | cons b r =>
      rw [List.isPrefixOf_cons₂, show (47 == b) = false from beq_eq_false_iff_ne.2 (fun e => h r (by rw [hs, ← e]))]
      rfl
  refine (Any.strings_CutPrefix Tryz.cutL s ⟨#[47]⟩ w).mono ?_
  rintro e w' ⟨rfl, rfl⟩
  refine ⟨?_, rfl⟩
  rw [show (ByteArray.mk #[47]).data.toList = [47] from rfl, Lib.trimPrefix, hp]
  rfl
theorem cut_yes (s : ByteArray) (r : List UInt8) (w : World) (h : s.data.toList = 47 :: r) :
    Calls Tryz.prog 102 #[.string s, .string ⟨#[47]⟩] w fun e w' => e = .returned (.tuple #[.string ⟨r.toArray⟩, .bool true]) ∧ w = w' := by
  have hp : Lib.hasPrefix s.data.toList [47] = true := by
    unfold Lib.hasPrefix
    rw [h, List.isPrefixOf_cons₂]
    rfl
  refine (Any.strings_CutPrefix Tryz.cutL s ⟨#[47]⟩ w).mono ?_
  rintro e w' ⟨rfl, rfl⟩
  refine ⟨?_, rfl⟩
  rw [show (ByteArray.mk #[47]).data.toList = [47] from rfl, Lib.trimPrefix, hp, h]
  rfl
theorem splits_any (s : ByteArray) (w : World) (hm : MaxVar w) (hs : s.size ≤ 1000000) :
    Calls Tryz.prog 103 #[.string s, .string ⟨#[47]⟩] w fun e w' => e = .returned (.slice (some ⟨w.heap.size, 0, none⟩) (splitOn 47 s.data.toList).length (splitOn 47 s.data.toList).length) ∧
      Blk w' w.heap.size ((splitOn 47 s.data.toList).map fun x => Value.string ⟨x.toArray⟩) 9 ∧ Bel w w' := by
  obtain ⟨m, hm⟩ := hm
  refine (Any.strings_Split Tryz.splitL (by kernel_rfl) s ⟨#[47]⟩ m w (by omega) hm (by decide)).mono ?_
  rintro e w' ⟨rfl, rfl⟩
  rw [splitB_len, splitB_eq, List.map_map]
  exact ⟨rfl, Blk.new _ _ _, Bel.start _ _⟩
theorem indexByte_iff (c : UInt8) : ∀ l : List UInt8, (0 ≤ Lib.indexByte l c ↔ c ∈ l) ∧ -1 ≤ Lib.indexByte l c
  | [] => by simp [Lib.indexByte]
  | b :: l => by
    have ih := indexByte_iff c l
    unfold Lib.indexByte
    by_cases h : b = c
    · subst h; simp
    · rw [if_neg (by simpa using h)]
      by_cases h2 : Lib.indexByte l c = -1
      · rw [if_pos (by simpa using h2)]
        have hn : c ∉ l := fun hm => by have := ih.1.2 hm; omega
        simp [hn, Ne.symm h]
      · rw [if_neg (by simpa using h2)]
        have hm : c ∈ l := ih.1.1 (by omega)
        simp [hm]
        omega
theorem cont_any (s : ByteArray) (b : Bool) (w : World) (hb : decide ((0 : UInt8) ∈ s.data.toList) = b) :
    Calls Tryz.prog 104 #[.string s, .string ⟨#[0]⟩] w fun e w' => e = .returned (.bool b) ∧ w = w' := by
  refine (Any.strings_Contains_one Tryz.contL s 0 w).mono ?_
  rintro e w' ⟨rfl, rfl⟩
  refine ⟨?_, rfl⟩
  rw [← hb, show decide (0 ≤ Lib.indexByte s.data.toList 0) = decide ((0 : UInt8) ∈ s.data.toList) from by
    rw [Bool.eq_iff_iff]; simp only [decide_eq_true_eq]; exact (indexByte_iff 0 _).1]


set_option maxHeartbeats 4000000 in
theorem split_no (s : ByteArray) (w : World) (hn : ∀ r, s.data.toList = 47 :: r → 60 < s.size) :
    Calls Tryz.prog 83 #[.string s] w fun e w' => e = .returned (.tuple #[.slice none 0 0, errN 8]) ∧ Bel w w' := by
  by_cases h : ∃ r, s.data.toList = 47 :: r
  · obtain ⟨r, hr⟩ := h
    have h60 := hn r hr
    have HC := Lib.hid (cut_yes s r w hr)
    have h60' : (60 : Int) < (s.size : Int) := by omega
    clear hr hn h60
    go_enter Tryz.func83, Tryz.ntmps83
    go_wp2_with (go_at_call 102; with_reducible refine Calls.mono HC.out ?_; rintro e w1 ⟨rfl, rfl⟩)
    go_ret2
    exact ⟨rfl, Bel.refl _⟩
  · have HC := Lib.hid (cut_no s w (fun r e => h ⟨r, e⟩))
    clear h hn
    go_enter Tryz.func83, Tryz.ntmps83
    go_wp2_with (go_at_call 102; with_reducible refine Calls.mono HC.out ?_; rintro e w1 ⟨rfl, rfl⟩)
    go_ret2
    exact ⟨rfl, Bel.refl _⟩

set_option maxHeartbeats 4000000 in
theorem split_root (s : ByteArray) (w : World) (h : s.data.toList = [47]) :
    Calls Tryz.prog 83 #[.string s] w fun e w' => e = .returned (.tuple #[.slice none 0 0, .nilIface]) ∧ Bel w w' := by
  have HC := Lib.hid (cut_yes s [] w h)
  have hz : s.size = 1 := by have := congrArg List.length h; simpa using this
  have h60 : ¬ (60 : Int) < (s.size : Int) := by omega
  clear h hz
  go_enter Tryz.func83, Tryz.ntmps83
  go_wp2_with (go_at_call 102; with_reducible refine Calls.mono HC.out ?_; rintro e w1 ⟨rfl, rfl⟩)
  go_ret2
  exact ⟨rfl, Bel.refl _⟩

def SplitRes (g : Nat) (l : List (List UInt8)) (e : Ending) (w' : World) : Prop := (l.all nameOk = false → e = .returned (.tuple #[.slice none 0 0, errN 8])) ∧
  (l.all nameOk = true → e = .returned (.tuple #[.slice (some ⟨g, 0, none⟩) l.length l.length, .nilIface]) ∧ Blk w' g (l.map fun x => Value.string ⟨x.toArray⟩) 9)
set_option maxHeartbeats 8000000 in
theorem split_some (s : ByteArray) (r : List UInt8) (w : World) (hm : MaxVar w) (h : s.data.toList = 47 :: r) (hr : r ≠ []) (h60 : s.size ≤ 60) :
    Calls Tryz.prog 83 #[.string s] w fun e w' => Bel w w' ∧ SplitRes w.heap.size (splitOn 47 r) e w' := by
  have HC := Lib.hid (cut_yes s r w h)
  have hsz : r.length + 1 = s.size := by have := congrArg List.length h; simpa using this.symm
  have hs := splits_any ⟨r.toArray⟩ w hm (by show r.toArray.size ≤ 1000000; simp; omega)
  obtain ⟨g, hg⟩ : ∃ g, w.heap.size = g := ⟨_, rfl⟩
  rw [hg] at hs ⊢
  have HS := Lib.hid hs
  clear hs hg
  have hl := splitOn_len 47 r
  have hrr : ((⟨r.toArray⟩ : ByteArray).toList == []) = false := by
    rw [ByteArray.toList_eq]
    exact beq_eq_false_iff_ne.2 (by simpa using hr)
  have h60' : ¬ (60 : Int) < (s.size : Int) := by omega
  have hne := splitOn_ne 47 r
  simp only [List.toList_toArray] at HS
  generalize splitOn 47 r = l at *
  generalize (⟨r.toArray⟩ : ByteArray) = rs at *
  clear h hr hm
  have hpos : 0 < l.length := List.length_pos_iff.2 hne
  have hl60 : l.length ≤ 60 := by omega
  clear hl hne hsz
  go_enter Tryz.func83, Tryz.ntmps83
  go_wp2_with (first
    | (go_at_call 102; with_reducible refine Calls.mono HC.out ?_; rintro e w1 ⟨rfl, rfl⟩)
    | (go_at_call 103; with_reducible refine Calls.mono HS.out ?_; rintro e w1 ⟨rfl, B1, k1⟩))
  have HB1 := Lib.hid B1
  have HK1 := Lib.hid k1
  have hg := B1.lt
  clear B1 k1
  go_loop [28] (fun i => ∃ k : Nat, k ≤ l.length ∧ i = .int .i64 k ∧ ∀ j x, j < k → l[j]? = some x → nameOk x = true) (fun i => l.length - (intOf i).toNat)
  case atStart => exact ⟨0, Nat.zero_le _, rfl, fun j x hj => by omega⟩
  case round =>
    obtain ⟨k, hk, rfl, hall⟩ := hrel
    have HALL := Lib.hid hall
    clear hall
    by_cases hlt : k < l.length
    · have hx := List.getElem?_eq_getElem hlt
      generalize l[k] = x at *
      have c0 : w1.cell? ⟨g, k, none⟩ = some (.string ⟨x.toArray⟩) := by rw [HB1.out.cell, List.getElem?_map, hx]; rfl
      have HX := Lib.hid hx
      have HBAD : Hid (nameOk x = false → l.all nameOk = false) := Lib.hid fun hb => by
        rw [List.all_eq_false]; exact ⟨x, List.mem_of_getElem? hx, by simp [hb]⟩
      have hsz : ((⟨x.toArray⟩ : ByteArray).size : Nat) = x.length := by show x.toArray.size = _; simp
      have hdt : (⟨x.toArray⟩ : ByteArray).data.toList = x := by simp
      have htl : (⟨x.toArray⟩ : ByteArray).toList = x := by rw [ByteArray.toList_eq]
      have HCN := Lib.hid fun b W hb => cont_any ⟨x.toArray⟩ b W hb
      rw [hdt] at HCN
      generalize (⟨x.toArray⟩ : ByteArray) = xs at *
      clear hx hdt
      by_cases q1 : x.length < 1
      · have HN : Hid (nameOk x = false) := Lib.hid (by unfold nameOk; simp [show ¬ 1 ≤ x.length from by omega])
        have q1' : (xs.size : Int) < 1 := by omega
        clear q1 htl
        go_wp2_with fail
        go_ret2
        exact ⟨HK1.out, fun _ => rfl, fun h => by rw [HBAD.out HN.out] at h; cases h⟩
      have q1' : ¬ (xs.size : Int) < 1 := by omega
      by_cases q2 : 14 < x.length
      · have HN : Hid (nameOk x = false) := Lib.hid (by unfold nameOk; simp [show ¬ x.length ≤ 14 from by omega])
        have q2' : (14 : Int) < (xs.size : Int) := by omega
        clear q1 q2 htl
        go_wp2_with fail
        go_ret2
        exact ⟨HK1.out, fun _ => rfl, fun h => by rw [HBAD.out HN.out] at h; cases h⟩
      have q2' : ¬ (14 : Int) < (xs.size : Int) := by omega
      cases h3 : (xs.toList == [46]) with
      | true =>
        have HN : Hid (nameOk x = false) := Lib.hid (by rw [htl] at h3; unfold nameOk; rw [h3]; simp)
        clear q1 q2 htl
        go_wp2_with fail
        go_ret2
        exact ⟨HK1.out, fun _ => rfl, fun h => by rw [HBAD.out HN.out] at h; cases h⟩
      | false =>
        cases h4 : (xs.toList == [46, 46]) with
        | true =>
          have HN : Hid (nameOk x = false) := Lib.hid (by rw [htl] at h4; unfold nameOk; rw [h4]; simp)
          clear q1 q2 htl
          go_wp2_with fail
          go_ret2
          exact ⟨HK1.out, fun _ => rfl, fun h => by rw [HBAD.out HN.out] at h; cases h⟩
        | false =>
          have HB : Hid (nameOk x = !decide ((0 : UInt8) ∈ x)) := Lib.hid (by
            rw [htl] at h3 h4
            unfold nameOk
            rw [h3, h4]
            simp [show 1 ≤ x.length from by omega, show x.length ≤ 14 from by omega])
          clear q1 q2 htl
          by_cases hz : (0 : UInt8) ∈ x
          · have HN : Hid (nameOk x = false) := Lib.hid (by rw [HB.out]; simp [hz])
            have HC0 := Lib.hid fun W => HCN.out true W (by simpa using hz)
            clear hz
            go_wp2_with (go_at_call 104; with_reducible refine Calls.mono (HC0.out _) ?_; rintro e w2 ⟨rfl, rfl⟩)
            go_ret2
            exact ⟨HK1.out, fun _ => rfl, fun h => by rw [HBAD.out HN.out] at h; cases h⟩
          · have HN : Hid (nameOk x = true) := Lib.hid (by rw [HB.out]; simp [hz])
            have HC0 := Lib.hid fun W => HCN.out false W (by simpa using hz)
            clear hz
            go_wp2_with (go_at_call 104; with_reducible refine Calls.mono (HC0.out _) ?_; rintro e w2 ⟨rfl, rfl⟩)
            go_round
            case rel => exact ⟨k + 1, by omega, by go_num, fun j y hj hy => by
              by_cases e : j = k
              · subst e
                rw [HX.out] at hy
                cases hy
                exact HN.out
              · exact HALL.out j y (by omega) hy⟩
            case measure => simp [intOf] <;> omega
    · obtain rfl : k = l.length := by omega
      have HT : Hid (l.all nameOk = true) := Lib.hid (List.all_eq_true.2 fun x hx => by
        obtain ⟨j, hj, he⟩ := List.getElem_of_mem hx
        exact HALL.out j x hj (by rw [List.getElem?_eq_getElem hj, he]))
      go_wp2_with fail
      go_ret2
      exact ⟨HK1.out, (fun h => by rw [HT.out] at h; cases h), fun _ => ⟨rfl, HB1.out⟩⟩
end Go.Proofs.YtkcjafnaephjiaaGreatDoor
