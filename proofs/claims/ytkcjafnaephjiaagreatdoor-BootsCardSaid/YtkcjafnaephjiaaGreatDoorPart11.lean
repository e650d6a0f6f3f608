/- The document's kernel as a whole; its mkdir. -/
import Derived.Test.YtkcjafnaephjiaaGreatDoorPart10
import Derived.ArgAppend
import Derived.Lib.Hide
import Derived.Test.YtkcjafnaephjiaaGreatDoorPart00
namespace Go.Proofs.YtkcjafnaephjiaaGreatDoor
open Go.RowKit
set_option maxRecDepth 100000

/-- The document's kernel with its tree. -/
structure DK (w : World) (kb : Nat) (s : KV) (iv : Value) (L : List Nd) : Prop where
  blk : Blk w kb (s.cells iv L.length) 71
  row : w.ownsRow (kb + 1) 90 5 iv L.length (ndCells 0 L)
  byts : ∀ n ∈ L, Rw w n.bv n.byt ∧ ∀ g, n.bv.ownBlock = some g → kb ≤ g
  few : L.length ≤ 100000
  one : 1 ≤ L.length
theorem ndCells_get : ∀ (k i j : Nat) (L : List Nd) (n : Nd), L[i]? = some n → j < 5 → (ndCells k L)[i * 5 + j]? = (n.cells (k + i))[j]?
  | k, 0, j, [], n, h, hj => by simp at h
  | k, i + 1, j, [], n, h, hj => by simp at h
  | k, 0, j, m :: L, n, h, hj => by
    simp at h
    subst h
    rw [ndCells, Nat.zero_mul, Nat.zero_add, List.getElem?_append_left (by simpa [Nd.cells] using hj)]
    simp
  | k, i + 1, j, m :: L, n, h, hj => by
    have ih := ndCells_get (k + 1) i j L n (by simpa using h) hj
    rw [ndCells, List.getElem?_append_right (by simp [Nd.cells]; omega), ← show k + 1 + i = k + (i + 1) from by omega, ← ih]
    congr 1
    simp [Nd.cells]
    omega
theorem DK.tree {w : World} {kb : Nat} {s : KV} {iv : Value} {L : List Nd} (h : DK w kb s iv L) : ∃ g cap, iv = .slice (some ⟨g, 0, none⟩) L.length cap ∧ TreeAt w kb g cap L ∧ kb + 1 ≤ g := by
  obtain ⟨p, cap, hv, hn, _, hp⟩ := row_slice h.row
  have h1 := h.one
  obtain ⟨g, rfl, hg, hgl, hc, _⟩ := hp.resolve_left (by omega)
  refine ⟨g, cap, hv, ⟨?_, hn, fun i n hi j v hj => ?_⟩, hg⟩
  · rw [← hv]; exact h.blk.cell 7
  · have hj5 : j < 5 := by have := (List.getElem?_eq_some_iff.1 hj).1; simpa [Nd.cells] using this
    have hil := (List.getElem?_eq_some_iff.1 hi).1
    rw [hc _ (by rw [ndCells_len]; omega), ndCells_get 0 i j L n hi hj5, Nat.zero_add, hj]
theorem DK.bel {w w' : World} {kb : Nat} {s : KV} {iv : Value} {L : List Nd} (h : DK w kb s iv L) (k : Bel w w') : DK w' kb s iv L :=
  ⟨h.blk.bel k, row_bel h.row k, fun n hn => ⟨(h.byts n hn).1.bel k, (h.byts n hn).2⟩, h.few, h.one⟩
theorem DK.drew {w : World} {kb : Nat} {s : KV} {iv : Value} {L : List Nd} (h : DK w kb s iv L) (n : Nat) : DK (w.drewN n) kb s iv L := h.bel (bel_drewN (Bel.refl _) n)
def DStepRes (w : World) (kb : Nat) (s : KV) (r : Nat × List Nd) (e : Ending) (w' : World) : Prop :=
  e = .returned (.int .i64 (r.1 : Nat)) ∧ Keep (fun q => kb ≤ q) w w' ∧ (r.1 = 0 → ∃ iv' L', sks L' = r.2 ∧ DK w' kb s iv' L')

theorem DK.made {w w' : World} {kb : Nat} {s : KV} {iv iv' : Value} {L : List Nd} (h : DK w kb s iv L) (d : Nat) (nm : ByteArray) (is : Bool) (hfew : L.length + 1 ≤ 100000) (hB : Blk w' kb (s.cells iv' (L.length + 1)) 71)
    (hr : w'.ownsRow (kb + 1) 90 5 iv' (L.length + 1) (ndCells 0 (L ++ [⟨d, nm, is, [], emptyB⟩]))) (k : Keep (fun q => q = kb ∨ iv.ownBlock = some q) w w') : DK w' kb s iv' (L ++ [⟨d, nm, is, [], emptyB⟩]) := by
  have hl : (L ++ [(⟨d, nm, is, [], emptyB⟩ : Nd)]).length = L.length + 1 := by simp
  refine ⟨by rw [hl]; exact hB, by rw [hl]; exact hr, fun n hn => ?_, by rw [hl]; exact hfew, by rw [hl]; omega⟩
  rcases List.mem_append.1 hn with hn | hn
  · refine ⟨(h.byts n hn).1.keep k fun g hg hs => ?_, (h.byts n hn).2⟩
    obtain ⟨_, cur, hb⟩ := (h.byts n hn).1.lt hg
    rcases hs with rfl | hs
    · exact hb.ne h.blk (by decide) rfl
    · obtain ⟨p, cap, hv, _, _, hp⟩ := row_slice h.row
      have h1 := h.one
      obtain ⟨g', rfl, _, _, _, _⟩ := hp.resolve_left (by omega)
      rw [hv] at hs
      cases hs
      rcases h.row.2 with ⟨h2, _⟩ | ⟨g2, c2, cur2, h2, _, h3, _⟩
      · rw [hv] at h2; cases h2
      · rw [hv] at h2
        cases h2
        exact hb.ne (show Blk w g' cur2.toList _ from by unfold Blk; simpa using h3) (by decide) rfl
  · simp at hn
    subst hn
    exact ⟨⟨(fun x hx => by cases hx), .inl ⟨rfl, rfl⟩⟩, fun g hg => by cases hg⟩
theorem sks_app (L M : List Nd) : sks (L ++ M) = sks L ++ sks M := by simp [sks]
theorem sks_len (L : List Nd) : (sks L).length = L.length := by simp [sks]

set_option maxHeartbeats 8000000 in
theorem mkdirD_any (kb : Nat) (s : KV) (iv : Value) (L : List Nd) (mi : Nat) (nm : ByteArray) (w : World) (h : DK w kb s iv L) (hd : s.d = mi) (hmi : mi ≤ 100000) (hs : nm.size ≤ 1000000) :
    Calls Tryz.prog 45 #[.pointer (some ⟨kb, 0, none⟩), .string nm] w fun e w' => DStepRes w kb s (mkF mi (sks L) nm.data.toList) e w' := by
  obtain ⟨g, cap, hiv, ht, hg⟩ := h.tree
  have hfew := h.few
  have hw := walk_any kb g cap L w ht nm hs (by omega)
  unfold mkF
  rw [docWalk_sk, sks_len]
  obtain ⟨d, x, n, c, hr⟩ : ∃ d x n c, docWalk L nm.data.toList = (d, x, n, c) := ⟨_, _, _, _, rfl⟩
  rw [hr] at hw ⊢
  simp only [walkV] at hw ⊢
  have h0c : ((0 : Nat) : Int) = 0 := rfl
  have HW := Lib.hid hw
  have HDK := Lib.hid h
  have HIV := Lib.hid hiv
  clear hw h hr hiv ht
  by_cases hc : c = 0
  · subst hc
    rw [h0c] at HW
    rw [if_neg (by simp)]
    by_cases hn : n = 0
    · subst hn
      rw [h0c] at HW
      rw [if_neg (by simp)]
      clear h0c
      by_cases hm : mi ≤ L.length
      · rw [if_pos hm]
        go_enter Tryz.func45, Tryz.ntmps45
        go_upto_region 6 with (go_at_call 46; ((with_reducible refine Calls.mono HW.out ?_); rintro e w1 ⟨rfl, k1⟩))
        have c7 : w1.cell? ⟨kb, 7, none⟩ = some (.slice (some ⟨g, 0, none⟩) L.length cap) := by rw [← HIV.out]; exact (HDK.out.bel k1).blk.cell 7
        have c3 : w1.cell? ⟨kb, 3, none⟩ = some (.int .i64 (mi : Int)) := by rw [← hd]; exact (HDK.out.bel k1).blk.cell 3
        go_quiet (fail)
        go_wp2
        go_ret
        exact ⟨rfl, Keep.of_bel _ (bel_drewN k1 nq), fun h => by cases h⟩
      · rw [if_neg hm]
        have HM := Lib.hid fun iv L' (W : World) hB hr => make_any kb s iv L' W hB hr d x true
        have hml : L.length < mi := by omega
        have HAPP : Hid (sks (L ++ [⟨d, x, true, [], emptyB⟩]) = sks L ++ [⟨d, x, true, [], emptyB⟩]) := Lib.hid (by rw [sks_app]; rfl)
        go_enter Tryz.func45, Tryz.ntmps45
        go_upto_region 6 with (go_at_call 46; ((with_reducible refine Calls.mono HW.out ?_); rintro e w1 ⟨rfl, k1⟩))
        have c7 : w1.cell? ⟨kb, 7, none⟩ = some (.slice (some ⟨g, 0, none⟩) L.length cap) := by rw [← HIV.out]; exact (HDK.out.bel k1).blk.cell 7
        have c3 : w1.cell? ⟨kb, 3, none⟩ = some (.int .i64 (mi : Int)) := by rw [← hd]; exact (HDK.out.bel k1).blk.cell 3
        have HK1 := Lib.hid k1
        clear k1
        go_quiet (fail)
        have kd : Bel w1 (w1.drewN nq) := bel_drewN (Bel.refl _) nq
        generalize w1.drewN nq = wd at *
        have HKD := Lib.hid (HK1.out.tr kd)
        have HDD := Lib.hid (HDK.out.bel HKD.out)
        clear kd c7 c3
        go_wp2_with (go_at_call 47; ((with_reducible refine Calls.mono (HM.out iv L wd HDD.out.blk HDD.out.row hfew) ?_); rintro e w2 ⟨rfl, iv', B2, R2, K2⟩))
        go_ret
        exact ⟨rfl, (Keep.of_bel _ HKD.out).tr (K2.mono fun q hq => by
          rcases hq with rfl | hq
          · exact Nat.le_refl _
          · rw [HIV.out] at hq; cases hq; show kb ≤ g; omega), fun _ => ⟨iv', _, HAPP.out, HDD.out.made d x true (by omega) B2 R2 K2⟩⟩
    · rw [if_pos hn]
      have hnb : ((n : Int) == 0) = false := beq_eq_false_iff_ne.2 (by omega)
      clear hn
      go_enter Tryz.func45, Tryz.ntmps45
      go_wp2_with (go_at_call 46; ((with_reducible refine Calls.mono HW.out ?_); rintro e w1 ⟨rfl, k1⟩))
      go_ret
      exact ⟨rfl, Keep.of_bel _ k1, fun h => by cases h⟩
  · rw [if_pos hc]
    have hcb : ((c : Int) == 0) = false := beq_eq_false_iff_ne.2 (by omega)
    have HC := Lib.hid hc
    clear hc
    go_enter Tryz.func45, Tryz.ntmps45
    go_wp2_with (go_at_call 46; ((with_reducible refine Calls.mono HW.out ?_); rintro e w1 ⟨rfl, k1⟩))
    go_ret
    exact ⟨rfl, Keep.of_bel _ k1, fun h => absurd h HC.out⟩
end Go.Proofs.YtkcjafnaephjiaaGreatDoor

/- The program's Mkdir. -/
namespace Go.Proofs.YtkcjafnaephjiaaGreatDoor
open Go.RowKit Go.MapKept Go.Maps
set_option maxRecDepth 100000

/-- A step's answer: an error by its number, or the tree behind it. -/
def StepRes (w : World) (tb : Nat) (A : Adr) (T : List Pn) (mi mb : Nat) (r : Nat × List Nd) (e : Ending) (w' : World) : Prop :=
  (r.1 ≠ 0 → e = .returned (errN r.1) ∧ Keep (Foot tb A T) w w') ∧ (r.1 = 0 → e = .returned .nilIface ∧ ∃ A' T', PStep w tb A T mi mb r.2 A' T' w')

theorem nilptr (w : World) : (binOp .neq 170 (.pointer none) (.pointer none)).run Tryz.prog w = .ok (.bool false) w := by kernel_rfl
theorem nonptr (a : Addr) (w : World) : (binOp .neq 170 (.pointer (some a)) (.pointer none)).run Tryz.prog w = .ok (.bool true) w := by kernel_rfl

set_option maxHeartbeats 8000000 in
theorem mkdir_err (tb : Nat) (s : ByteArray) (c : Int) (w : World)
    (hf : ∀ W, Bel w W → Calls Tryz.prog 57 #[.pointer (some ⟨tb, 0, none⟩), .string s] W fun e w' => e = .returned (.tuple #[.agg #[.pointer none, .string ⟨#[]⟩, .pointer none], errN c]) ∧ Bel W w') :
    Calls Tryz.prog 56 #[.pointer (some ⟨tb, 0, none⟩), .string s] w fun e w' => e = .returned (errN c) ∧ Bel w w' := by
  have HF := Lib.hid hf
  clear hf
  go_enter Tryz.func56, Tryz.ntmps56
  go_wp2_with (go_at_call 57; ((with_reducible refine Calls.mono (HF.out w (Bel.refl w)) ?_); rintro e w1 ⟨rfl, k1⟩))
  go_ret
  exact ⟨rfl, k1.ac _⟩

set_option maxHeartbeats 8000000 in
theorem mkdir_old (tb : Nat) (s : ByteArray) (p : Value) (nm : ByteArray) (a : Nat) (w : World) (hp : p.oneCell' = true)
    (hf : ∀ W, Bel w W → Calls Tryz.prog 57 #[.pointer (some ⟨tb, 0, none⟩), .string s] W fun e w' => e = .returned (.tuple #[.agg #[p, .string nm, .pointer (some ⟨a, 0, none⟩)], .nilIface]) ∧ Bel W w') :
    Calls Tryz.prog 56 #[.pointer (some ⟨tb, 0, none⟩), .string s] w fun e w' => e = .returned (errN 10) ∧ Bel w w' := by
  have HF := Lib.hid hf
  have HP := Lib.hid hp
  clear hf hp
  go_enter Tryz.func56, Tryz.ntmps56
  go_upto_region 2 with (first
    | (go_at_call 57; ((with_reducible refine Calls.mono (HF.out w (Bel.refl w)) ?_); rintro e w1 ⟨rfl, k1⟩))
    | (refine wpList_store_blk rfl 180 (.tmp 5) (.tmp 11) rfl rfl w1.heap.size [p, .string nm, .pointer (some ⟨a, 0, none⟩)] [.pointer none, .string ⟨#[]⟩, .pointer none] 180 (Blk.new w1 _ _) rfl rfl (by kernel_rfl) rfl (by intro v hv; simp at hv; rcases hv with rfl | rfl | rfl; exact HP.out; all_goals rfl) ?_; intro w3 B3 K3))
  have kc : Bel w w3 := k1.tr ((Below.heap_alloc' w1 _).trans (K3.below _ (by simp) (fun k hk => by omega)))
  have c2 : w3.cell? ⟨w1.heap.size, 2, none⟩ = some (.pointer (some ⟨a, 0, none⟩)) := B3.out.cell 2
  have HKC := Lib.hid kc
  generalize w1.heap.size = g at *
  clear kc K3 k1 B3
  go_wp2
  go_ret
  exact ⟨rfl, HKC.out⟩

set_option maxHeartbeats 8000000 in
theorem mkdir_make (tb : Nat) (s : ByteArray) (p : Value) (nm : ByteArray) (q v : Value) (w : World) (Post : World → World → Prop)
    (hf : ∀ W, Bel w W → Calls Tryz.prog 57 #[.pointer (some ⟨tb, 0, none⟩), .string s] W fun e w' => e = .returned (.tuple #[.agg #[p, .string nm, .pointer none], .nilIface]) ∧ Bel W w')
    (hp : p.oneCell' = true)
    (hm : ∀ W, Bel w W → Calls Tryz.prog 58 #[.pointer (some ⟨tb, 0, none⟩), .agg #[p, .string nm, .pointer none], .bool true] W fun e w' => (∃ q, e = .returned (.tuple #[q, v])) ∧ Post W w') :
    Calls Tryz.prog 56 #[.pointer (some ⟨tb, 0, none⟩), .string s] w fun e w' => e = .returned v ∧ ∃ W, Bel w W ∧ Post W w' := by
  have HF := Lib.hid hf
  have HM := Lib.hid hm
  have HP := Lib.hid hp
  clear hf hm hp
  go_enter Tryz.func56, Tryz.ntmps56
  go_upto_region 2 with (first
    | (go_at_call 57; ((with_reducible refine Calls.mono (HF.out w (Bel.refl w)) ?_); rintro e w1 ⟨rfl, k1⟩))
    | (refine wpList_store_blk rfl 180 (.tmp 5) (.tmp 11) rfl rfl w1.heap.size [p, .string nm, .pointer none] [.pointer none, .string ⟨#[]⟩, .pointer none] 180 (Blk.new w1 _ _) rfl rfl (by kernel_rfl) rfl (by intro v hv; simp at hv; rcases hv with rfl | rfl | rfl; exact HP.out; all_goals rfl) ?_; intro w3 B3 K3))
  have kc : Bel w w3 := k1.tr ((Below.heap_alloc' w1 _).trans (K3.below _ (by simp) (fun k hk => by omega)))
  have c2 : w3.cell? ⟨w1.heap.size, 2, none⟩ = some (.pointer none) := B3.out.cell 2
  have HB3 := Lib.hid B3.out
  have HKC := Lib.hid kc
  generalize w1.heap.size = g at *
  clear kc K3 k1 B3
  go_wp2_with (first
    | (refine wpList_load_mid rfl 180 (.tmp 5) rfl g 0 rfl [p, .string nm, .pointer none] _ (by have := HB3.out.range 0; simpa using this) Tryz.underlying180 rfl (by kernel_rfl) ?_)
    | (go_at_call 58; ((with_reducible refine Calls.mono (HM.out w3 HKC.out) ?_); rintro e w4 ⟨⟨q, rfl⟩, hpost⟩)))
  go_ret
  exact ⟨rfl, w3, HKC.out, hpost⟩

theorem ptr_pos (A : Adr) {n : Nat} (h : n ≠ 0) : A.ptr n = .pointer (some ⟨A.nb n, 0, none⟩) := by simp [Adr.ptr, Adr.at_, h]

theorem Made.of_bel {w W w' : World} {A : Adr} {T : List Pn} {t : TN} {tb d nb mb : Nat} {nm : ByteArray} {is : Bool} (hb : Bel w W) (k : Made A T t tb d nm is W nb mb w') : Made A T t tb d nm is w nb mb w' :=
  ⟨k.tree, k.block, (Keep.of_bel _ hb).tr k.keep, Nat.le_trans hb.size k.nbge, Nat.le_trans hb.size k.mbge⟩

theorem mkdir_any (tb : Nat) (A : Adr) (T : List Pn) (mi mb : Nat) (s : ByteArray) (w : World) (h : PT w tb A T mi mb) (hs : s.size ≤ 1000000) (hmx : MaxVar w) :
    Calls Tryz.prog 56 #[.pointer (some ⟨tb, 0, none⟩), .string s] w fun e w' => StepRes w tb A T mi mb (mkF mi (nds T) s.data.toList) e w' := by
  have hf := fun W (hW : Bel w W) => find_any tb A T _ s W (h.bel hW).block (h.bel hW).tree hs (hmx.bel hW)
  have hroot := h.tree.isRoot
  unfold mkF
  obtain ⟨d, nm, n, c, hr⟩ : ∃ d nm n c, docWalk (nds T) s.data.toList = (d, nm, n, c) := ⟨_, _, _, _, rfl⟩
  have hnew := docWalk_new (L := nds T) (s := s.data.toList) hroot
  have hold := docWalk_old (L := nds T) (s := s.data.toList) hroot
  rw [hr] at hnew hold
  simp only [hr] at hf hnew hold ⊢
  by_cases hc : c = 0
  · subst hc
    by_cases hn : n = 0
    · subst hn
      obtain ⟨h1, h2, h3, h4⟩ := hnew rfl rfl
      obtain ⟨d, rfl⟩ : ∃ d', d = d' + 1 := ⟨d - 1, by omega⟩
      obtain ⟨x, hx, hxd⟩ := isDir_lt h2
      rw [Nat.add_sub_cancel, nds, List.getElem?_map, Option.map_eq_some_iff] at hx
      obtain ⟨D, hD, rfl⟩ := hx
      have hfp : ∀ W, Bel w W → Calls Tryz.prog 57 #[.pointer (some ⟨tb, 0, none⟩), .string s] W fun e w' => e = .returned (.tuple #[.agg #[A.ptr (d + 1), .string nm, .pointer none], .nilIface]) ∧ Bel W w' := fun W hW => (hf W hW).mono fun e w' k => ⟨k.1.trans (by simp [spotV, Adr.ptr, Adr.at_]), k.2⟩
      rw [if_neg (by simp), if_neg (by simp)]
      by_cases hm : mi ≤ T.length
      · rw [if_pos (by rw [nds_len]; exact hm)]
        refine (mkdir_make tb s (A.ptr (d + 1)) nm (.pointer none) (errN 12) w (fun W w' => Bel W w') hfp rfl fun W hW => (make_full tb A _ (d + 1) nm true W (h.bel hW).block (h.bel hW).ok ?_).mono ?_).mono ?_
        · unfold roomB
          simp only [Bool.and_eq_false_iff, decide_eq_false_iff_not]
          left; omega
        · rintro e w' ⟨rfl, k⟩; exact ⟨⟨_, rfl⟩, k⟩
        · rintro e w' ⟨rfl, W, k1, k2⟩
          exact ⟨fun _ => ⟨rfl, Keep.of_bel _ (k1.tr k2)⟩, fun h => by cases h⟩
      · rw [if_neg (by rw [nds_len]; exact hm)]
        have hsm := h.small
        have hmi := h.mi
        refine (mkdir_make tb s (A.ptr (d + 1)) nm (.pointer none) .nilIface w (fun W w' => ∃ nb mx, Made A T ⟨T.length, sumB (nds T), mi, mb⟩ tb (d + 1) nm true W nb mx w') hfp rfl fun W hW => (make_ok tb A T _ d D nm true W (h.bel hW).block (h.bel hW).tree (h.bel hW).ok ?_ hD hxd h3 h4 (by omega)).mono ?_).mono ?_
        · unfold roomB
          simp only [Bool.and_eq_true, decide_eq_true_eq]
          omega
        · rintro e w' ⟨nb, mx, rfl, k⟩; exact ⟨⟨_, rfl⟩, nb, mx, k⟩
        · rintro e w' ⟨rfl, W, k1, nb, mx, k2⟩
          exact ⟨fun h => absurd rfl h, fun _ => ⟨rfl, _, _, Made.step h D hD hxd (by omega) (k2.of_bel k1)⟩⟩
    · rw [if_neg (by simp), if_pos hn]
      refine (mkdir_old tb s (A.ptr d) nm (A.nb n) w rfl fun W hW => (hf W hW).mono fun e w' k => ⟨k.1.trans (by rw [spotV, if_pos rfl, ptr_pos A hn]), k.2⟩).mono ?_
      rintro e w' ⟨rfl, k⟩
      exact ⟨fun _ => ⟨rfl, Keep.of_bel _ k⟩, fun h => by cases h⟩
  · rw [if_pos hc]
    refine (mkdir_err tb s c w fun W hW => (hf W hW).mono fun e w' k => ⟨k.1.trans (by rw [spotV, if_neg hc]), k.2⟩).mono ?_
    rintro e w' ⟨rfl, k⟩
    exact ⟨fun _ => ⟨rfl, Keep.of_bel _ k⟩, fun h => absurd h hc⟩
end Go.Proofs.YtkcjafnaephjiaaGreatDoor

/- append of so many zeros. No program. -/
namespace Go.Proofs.YtkcjafnaephjiaaGreatDoor
open Go.RowKit

section
variable {P : Program} {w : World}
theorem zeroCells_one (z : Value) (n : Nat) : Builtin.zeroCells #[z] n = (List.replicate n z).toArray := by
  apply Array.ext'
  simp [Builtin.zeroCells]
  apply List.ext_getElem?
  intro i
  simp [List.getElem?_replicate, List.getElem?_map, List.getElem?_range]
  by_cases h : i < n
  · simp [h, Nat.mod_one]
  · simp [h]

theorem run_append_zeros (t u ty e : TypeId) (i : TypeInfo) (z : Value) (ht : P.underlying t = some (.slice e)) (hu : P.underlying u = some (.int .i64)) (hi : P.info? e = some i) (hz : i.zero = some z) (hzc : z.cells = #[z]) (hs : i.size = 1) (hb : i.bytes = 1)
    (ao : Option Addr) (sLen sCap : Nat) (olds : List Value) (hnone : ao = none → sLen = 0) (hlo : olds.length = sLen) (holds : ∀ b, ao = some b → ∀ j v, olds[j]? = some v → w.cell? (b.add j) = some v)
    (n : Nat) (h0 : 0 < n) (hg : sCap < sLen + n) (hbig : sLen + n ≤ 1000000000) :
    (Builtin.append_ #[t, u] ty #[.slice ao sLen sCap, .int .i64 n]).run P w =
      .ok (.slice (some ⟨w.heap.size, 0, none⟩) (sLen + n) (grownCap w (sLen + n) sCap e))
        (w.drew.alloc (.cells (olds ++ List.replicate (n + (grownCap w (sLen + n) sCap e - (sLen + n))) z).toArray e)) := by
  have hn : ¬ (sLen + n ≤ sCap) := by omega
  have hfit := growslice_fits (need := sLen + n) (old := sCap) (bytes := 1) hg (by omega)
  have h48' : ¬ (281474976710656 < Builtin.nextslicecap (sLen + n) sCap) := by omega
  have h63' : ¬ (9223372036854775807 < ((sLen : Int) + (n : Int))) := by omega
  have hw : IntKind.i64.wrap (n : Int) = n := by rw [IntKind.wrap_i64]; omega
  have hl0 : ¬ ((n : Int) < 0) := by omega
  have hl1 : ¬ (281474976710656 < (n : Int)) := by omega
  have hn0 : ¬ n = 0 := by omega
  have hfo : (Builtin.firstCells 1 sLen (.slice ao sLen sCap)).run P w.drew = .ok olds.toArray w.drew := by
    cases ao with
    | none =>
      have := hnone rfl
      subst this
      obtain rfl : olds = [] := List.eq_nil_of_length_eq_zero hlo
      exact run_firstCells_none (P := P) w.drew 1 0 0 sCap
    | some b => exact run_firstCells_some (P := P) w.drew 1 sLen b sLen sCap olds (by omega) (by simpa using holds b rfl)
  simp [Builtin.append_, run_underlying ht, run_underlying hu, sizeOf, typeInfo, zeroValue, hi, hz, hs, hb, asInt, asIntOf, hw, hl0, hl1, hn, hn0, h63', h48', Question.forced, hfo, newRow, grownCap, hzc, zeroCells_one]
  congr 2
  apply Array.ext'
  simp
theorem wpList_append_zeros {ops : Array Oper} {rest : List Oper} {o : Oper} {a : Act} {Q : Exit → Act → World → Prop} (hgd : o.guard = none) (s x : Operand) (t u e : TypeId)
    (ho : o.op = .call { callee := .builtin .append, args := #[s, x], argTypes := #[t, u] }) (i : TypeInfo) (z : Value) (ht : P.underlying t = some (.slice e)) (hu : P.underlying u = some (.int .i64)) (hi : P.info? e = some i) (hz : i.zero = some z) (hzc : z.cells = #[z]) (hs : i.size = 1) (hb : i.bytes = 1)
    (ao : Option Addr) (sLen sCap : Nat) (olds : List Value) (hsv : a.eval s = .slice ao sLen sCap) (hnone : ao = none → sLen = 0) (hlo : olds.length = sLen) (holds : ∀ b, ao = some b → ∀ j v, olds[j]? = some v → w.cell? (b.add j) = some v)
    (n : Nat) (hxv : a.eval x = .int .i64 n) (h0 : 0 < n) (hg : sCap < sLen + n) (hbig : sLen + n ≤ 1000000000)
    (h : ∀ w' cap k, Hid (Blk w' w.heap.size (olds ++ List.replicate (n + k) z) e) → Bel w w' → sLen + n ≤ cap → cap ≤ maxLen → cap = sLen + n + k → wpList P ops Q rest (a.put o.dst (.slice (some ⟨w.heap.size, 0, none⟩) (sLen + n) cap)) w') : wpList P ops Q (o :: rest) a w := by
  refine wpList_plain hgd fun K hK' => ?_
  have hrun := run_append_zeros (P := P) (w := w) t u o.type e i z ht hu hi hz hzc hs hb ao sLen sCap olds hnone hlo holds n h0 hg hbig
  have hge := grownCap_ge w (sLen + n) sCap e
  unfold Oper.wp
  simp [execOp, ho, resolve, invoke, builtin, hsv, hxv, hrun, Result.andThen]
  exact hK' _ _ (h _ _ _ (Lib.hid (Blk.new w.drew _ _)) ((Bel.drew (Bel.refl w)).tr (Bel.start _ _)) hge (grownCap_le_maxLen w _ _ _ (by unfold maxLen; omega)) (by omega))
theorem step_append_zeros {ops : Array Oper} {o : Oper} {a : Act} {K : Act → World → Prop} {Q : Exit → Act → World → Prop} {E : Prop} (hgd : o.guard = none) (s x : Operand) (t u e : TypeId)
    (ho : o.op = .call { callee := .builtin .append, args := #[s, x], argTypes := #[t, u] }) (i : TypeInfo) (z : Value) (ht : P.underlying t = some (.slice e)) (hu : P.underlying u = some (.int .i64)) (hi : P.info? e = some i) (hz : i.zero = some z) (hzc : z.cells = #[z]) (hs : i.size = 1) (hb : i.bytes = 1)
    (ao : Option Addr) (sLen sCap : Nat) (olds : List Value) (hsv : a.eval s = .slice ao sLen sCap) (hnone : ao = none → sLen = 0) (hlo : olds.length = sLen) (holds : ∀ b, ao = some b → ∀ j v, olds[j]? = some v → w.cell? (b.add j) = some v)
    (n : Nat) (hxv : a.eval x = .int .i64 n) (h0 : 0 < n) (hg : sCap < sLen + n) (hbig : sLen + n ≤ 1000000000)
    (h : ∀ w' cap k, Hid (Blk w' w.heap.size (olds ++ List.replicate (n + k) z) e) → Bel w w' → sLen + n ≤ cap → cap ≤ maxLen → cap = sLen + n + k → K (a.put o.dst (.slice (some ⟨w.heap.size, 0, none⟩) (sLen + n) cap)) w') : if Region.wanted o (yielded ops a.tmps) = true then Oper.wp P o a w K Q else E := by
  have hw : Region.wanted o (yielded ops a.tmps) = true := by simp [Region.wanted, hgd]
  rw [if_pos hw]
  have hrun := run_append_zeros (P := P) (w := w) t u o.type e i z ht hu hi hz hzc hs hb ao sLen sCap olds hnone hlo holds n h0 hg hbig
  have hge := grownCap_ge w (sLen + n) sCap e
  unfold Oper.wp
  simp [execOp, ho, resolve, invoke, builtin, hsv, hxv, hrun, Result.andThen]
  exact h _ _ _ (Lib.hid (Blk.new w.drew _ _)) ((Bel.drew (Bel.refl w)).tr (Bel.start _ _)) hge (grownCap_le_maxLen w _ _ _ (by unfold maxLen; omega)) (by omega)
end
end Go.Proofs.YtkcjafnaephjiaaGreatDoor
