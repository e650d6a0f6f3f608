/- The program's Mkdir. -/
import Derived.Test.YtkcjafnaephjiaaGreatDoorPart09
set_option linter.unusedVariables false
set_option linter.unusedSimpArgs false
namespace Go.Proofs.YtkcjafnaephjiaaGreatDoor
open Go.RowKit Go.MapKept Go.Maps
set_option maxRecDepth 100000

/-- A step's answer: an error by its number, or the tree behind it. -/
def StepRes (w : World) (tb : Nat) (A : Adr) (T : List Pn) (mi mb : Nat) (r : Nat × List Nd) (e : Ending) (w' : World) : Prop :=
  (r.1 ≠ 0 → e = .returned (errN r.1) ∧ Keep (Foot tb A T) w w') ∧ (r.1 = 0 → e = .returned .nilIface ∧ ∃ A' T', PStep w tb A T mi mb r.2 A' T' w')

theorem nilptr (w : World) : (binOp .neq 170 (.pointer none) (.pointer none)).run Tryz.prog w = .ok (.bool false) w := by kernel_rfl
theorem nonptr (a : Addr) (w : World) : (binOp .neq 170 (.pointer (some a)) (.pointer none)).run Tryz.prog w = .ok (.bool true) w := by kernel_rfl

set_option maxHeartbeats 8000000 in
theorem mkdir_err (tb : Nat) (s : ByteArray) (c : Int) (w : World)
    (hf : ∀ W, Bel w W → Calls Tryz.prog 57 #[.pointer (some ⟨tb, 0, none⟩), .string s] W fun e w' => e = .returned (.tuple #[.agg #[.pointer none, .string ⟨#[]⟩, .pointer none], errN c]) ∧ Bel W w') :
    Calls Tryz.prog 56 #[.pointer (some ⟨tb, 0, none⟩), .string s] w fun e w' => e = .returned (errN c) ∧ Bel w w' := by
  have HF := Lib.hid hf
  clear hf
  go_enter Tryz.func56, Tryz.ntmps56
  go_wp2_with (go_at_call 57; ((with_reducible refine Calls.mono (HF.out w (Bel.refl w)) ?_); rintro e w1 ⟨rfl, k1⟩))
  go_ret
  exact ⟨rfl, k1.ac _⟩

set_option maxHeartbeats 8000000 in
theorem mkdir_old (tb : Nat) (s : ByteArray) (p : Value) (nm : ByteArray) (a : Nat) (w : World) (hp : p.oneCell' = true)
    (hf : ∀ W, Bel w W → Calls Tryz.prog 57 #[.pointer (some ⟨tb, 0, none⟩), .string s] W fun e w' => e = .returned (.tuple #[.agg #[p, .string nm, .pointer (some ⟨a, 0, none⟩)], .nilIface]) ∧ Bel W w') :
    Calls Tryz.prog 56 #[.pointer (some ⟨tb, 0, none⟩), .string s] w fun e w' => e = .returned (errN 10) ∧ Bel w w' := by
  have HF := Lib.hid hf
  have HP := Lib.hid hp
  clear hf hp
  go_enter Tryz.func56, Tryz.ntmps56
  go_upto_region 2 with (first
    | (go_at_call 57; ((with_reducible refine Calls.mono (HF.out w (Bel.refl w)) ?_); rintro e w1 ⟨rfl, k1⟩))
    | (refine wpList_store_blk rfl 180 (.tmp 5) (.tmp 11) rfl rfl w1.heap.size [p, .string nm, .pointer (some ⟨a, 0, none⟩)] [.pointer none, .string ⟨#[]⟩, .pointer none] 180 (Blk.new w1 _ _) rfl rfl (by kernel_rfl) rfl (by intro v hv; simp at hv; rcases hv with rfl | rfl | rfl; exact HP.out; all_goals rfl) ?_; intro w3 B3 K3))
  have kc : Bel w w3 := k1.tr ((Below.heap_alloc' w1 _).trans (K3.below _ (by simp) (fun k hk => by omega)))
  have c2 : w3.cell? ⟨w1.heap.size, 2, none⟩ = some (.pointer (some ⟨a, 0, none⟩)) := B3.out.cell 2
  have HKC := Lib.hid kc
  generalize w1.heap.size = g at *
  clear kc K3 k1 B3
  go_wp2
  go_ret
  exact ⟨rfl, HKC.out⟩

set_option maxHeartbeats 8000000 in
theorem mkdir_make (tb : Nat) (s : ByteArray) (p : Value) (nm : ByteArray) (q v : Value) (w : World) (Post : World → World → Prop)
    (hf : ∀ W, Bel w W → Calls Tryz.prog 57 #[.pointer (some ⟨tb, 0, none⟩), .string s] W fun e w' => e = .returned (.tuple #[.agg #[p, .string nm, .pointer none], .nilIface]) ∧ Bel W w')
    (hp : p.oneCell' = true)
    (hm : ∀ W, Bel w W → Calls Tryz.prog 58 #[.pointer (some ⟨tb, 0, none⟩), .agg #[p, .string nm, .pointer none], .bool true] W fun e w' => (∃ q, e = .returned (.tuple #[q, v])) ∧ Post W w') :
    Calls Tryz.prog 56 #[.pointer (some ⟨tb, 0, none⟩), .string s] w fun e w' => e = .returned v ∧ ∃ W, Bel w W ∧ Post W w' := by
  have HF := Lib.hid hf
  have HM := Lib.hid hm
  have HP := Lib.hid hp
  clear hf hm hp
  go_enter Tryz.func56, Tryz.ntmps56
  go_upto_region 2 with (first
    | (go_at_call 57; ((with_reducible refine Calls.mono (HF.out w (Bel.refl w)) ?_); rintro e w1 ⟨rfl, k1⟩))
    | (refine wpList_store_blk rfl 180 (.tmp 5) (.tmp 11) rfl rfl w1.heap.size [p, .string nm, .pointer none] [.pointer none, .string ⟨#[]⟩, .pointer none] 180 (Blk.new w1 _ _) rfl rfl (by kernel_rfl) rfl (by intro v hv; simp at hv; rcases hv with rfl | rfl | rfl; exact HP.out; all_goals rfl) ?_; intro w3 B3 K3))
  have kc : Bel w w3 := k1.tr ((Below.heap_alloc' w1 _).trans (K3.below _ (by simp) (fun k hk => by omega)))
  have c2 : w3.cell? ⟨w1.heap.size, 2, none⟩ = some (.pointer none) := B3.out.cell 2
  have HB3 := Lib.hid B3.out
  have HKC := Lib.hid kc
  generalize w1.heap.size = g at *
  clear kc K3 k1 B3
  go_wp2_with (first
    | (refine wpList_load_mid rfl 180 (.tmp 5) rfl g 0 rfl [p, .string nm, .pointer none] _ (by have := HB3.out.range 0; simpa using this) Tryz.underlying180 rfl (by kernel_rfl) ?_)
    | (go_at_call 58; ((with_reducible refine Calls.mono (HM.out w3 HKC.out) ?_); rintro e w4 ⟨⟨q, rfl⟩, hpost⟩)))
  go_ret
  exact ⟨rfl, w3, HKC.out, hpost⟩

theorem ptr_pos (A : Adr) {n : Nat} (h : n ≠ 0) : A.ptr n = .pointer (some ⟨A.nb n, 0, none⟩) := by simp [Adr.ptr, Adr.at_, h]

theorem Made.of_bel {w W w' : World} {A : Adr} {T : List Pn} {t : TN} {tb d nb mb : Nat} {nm : ByteArray} {is : Bool} (hb : Bel w W) (k : Made A T t tb d nm is W nb mb w') : Made A T t tb d nm is w nb mb w' :=
  ⟨k.tree, k.block, (Keep.of_bel _ hb).tr k.keep, Nat.le_trans hb.size k.nbge, Nat.le_trans hb.size k.mbge⟩

theorem mkdir_any (tb : Nat) (A : Adr) (T : List Pn) (mi mb : Nat) (s : ByteArray) (w : World) (h : PT w tb A T mi mb) (hs : s.size ≤ 1000000) (hmx : MaxVar w) :
    Calls Tryz.prog 56 #[.pointer (some ⟨tb, 0, none⟩), .string s] w fun e w' => StepRes w tb A T mi mb (mkF mi (nds T) s.data.toList) e w' := by
  have hf := fun W (hW : Bel w W) => find_any tb A T _ s W (h.bel hW).block (h.bel hW).tree hs (hmx.bel hW)
  have hroot := h.tree.isRoot
  unfold mkF
  obtain ⟨d, nm, n, c, hr⟩ : ∃ d nm n c, docWalk (nds T) s.data.toList = (d, nm, n, c) := ⟨_, _, _, _, rfl⟩
  have hnew := docWalk_new (L := nds T) (s := s.data.toList) hroot
  have hold := docWalk_old (L := nds T) (s := s.data.toList) hroot
  rw [hr] at hnew hold
  simp only [hr] at hf hnew hold ⊢
  by_cases hc : c = 0
  · subst hc
    by_cases hn : n = 0
    · subst hn
      obtain ⟨h1, h2, h3, h4⟩ := hnew rfl rfl
      obtain ⟨d, rfl⟩ : ∃ d', d = d' + 1 := ⟨d - 1, by omega⟩
      obtain ⟨x, hx, hxd⟩ := isDir_lt h2
      rw [Nat.add_sub_cancel, nds, List.getElem?_map, Option.map_eq_some_iff] at hx
      obtain ⟨D, hD, rfl⟩ := hx
      have hfp : ∀ W, Bel w W → Calls Tryz.prog 57 #[.pointer (some ⟨tb, 0, none⟩), .string s] W fun e w' => e = .returned (.tuple #[.agg #[A.ptr (d + 1), .string nm, .pointer none], .nilIface]) ∧ Bel W w' := fun W hW => (hf W hW).mono fun e w' k => ⟨k.1.trans (by simp [spotV, Adr.ptr, Adr.at_]), k.2⟩
      rw [if_neg (by simp), if_neg (by simp)]
      by_cases hm : mi ≤ T.length
      · rw [if_pos (by rw [nds_len]; exact hm)]
        refine (mkdir_make tb s (A.ptr (d + 1)) nm (.pointer none) (errN 12) w (fun W w' => Bel W w') hfp rfl fun W hW => (make_full tb A _ (d + 1) nm true W (h.bel hW).block (h.bel hW).ok ?_).mono ?_).mono ?_
        · unfold roomB
          simp only [Bool.and_eq_false_iff, decide_eq_false_iff_not]
          left; omega
        · rintro e w' ⟨rfl, k⟩; exact ⟨⟨_, rfl⟩, k⟩
        · rintro e w' ⟨rfl, W, k1, k2⟩
          exact ⟨fun _ => ⟨rfl, Keep.of_bel _ (k1.tr k2)⟩, fun h => by cases h⟩
      · rw [if_neg (by rw [nds_len]; exact hm)]
        have hsm := h.small
        have hmi := h.mi
        refine (mkdir_make tb s (A.ptr (d + 1)) nm (.pointer none) .nilIface w (fun W w' => ∃ nb mx, Made A T ⟨T.length, sumB (nds T), mi, mb⟩ tb (d + 1) nm true W nb mx w') hfp rfl fun W hW => (make_ok tb A T _ d D nm true W (h.bel hW).block (h.bel hW).tree (h.bel hW).ok ?_ hD hxd h3 h4 (by omega)).mono ?_).mono ?_
        · unfold roomB
          simp only [Bool.and_eq_true, decide_eq_true_eq]
          omega
        · rintro e w' ⟨nb, mx, rfl, k⟩; exact ⟨⟨_, rfl⟩, nb, mx, k⟩
        · rintro e w' ⟨rfl, W, k1, nb, mx, k2⟩
          exact ⟨fun h => absurd rfl h, fun _ => ⟨rfl, _, _, Made.step h D hD hxd (by omega) (k2.of_bel k1)⟩⟩
    · rw [if_neg (by simp), if_pos hn]
      refine (mkdir_old tb s (A.ptr d) nm (A.nb n) w rfl fun W hW => (hf W hW).mono fun e w' k => ⟨k.1.trans (by rw [spotV, if_pos rfl, ptr_pos A hn]), k.2⟩).mono ?_
      rintro e w' ⟨rfl, k⟩
      exact ⟨fun _ => ⟨rfl, Keep.of_bel _ k⟩, fun h => by cases h⟩
  · rw [if_pos hc]
    refine (mkdir_err tb s c w fun W hW => (hf W hW).mono fun e w' k => ⟨k.1.trans (by rw [spotV, if_neg hc]), k.2⟩).mono ?_
    rintro e w' ⟨rfl, k⟩
    exact ⟨fun _ => ⟨rfl, Keep.of_bel _ k⟩, fun h => absurd h hc⟩
end Go.Proofs.YtkcjafnaephjiaaGreatDoor
