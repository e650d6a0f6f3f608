/- The program's file: joined. -/
import Derived.Test.YtkcjafnaephjiaaGreatDoorPart14
set_option linter.unusedVariables false
set_option linter.unusedSimpArgs false
namespace Go.Proofs.YtkcjafnaephjiaaGreatDoor
open Go.RowKit Go.MapKept Go.Maps
set_option maxRecDepth 100000

set_option maxHeartbeats 8000000 in
theorem file_err (kb tb : Nat) (s : ByteArray) (c : Int) (p : Option Addr) (n cap : Nat) (w : World) (hc : w.cell? ⟨kb, 6, none⟩ = some (.pointer (some ⟨tb, 0, none⟩)))
    (hf : ∀ W, Bel w W → Calls Tryz.prog 57 #[.pointer (some ⟨tb, 0, none⟩), .string s] W fun e w' => e = .returned (.tuple #[.agg #[.pointer none, .string ⟨#[]⟩, .pointer none], errN c]) ∧ Bel W w') :
    Calls Tryz.prog 38 #[.pointer (some ⟨kb, 0, none⟩), .agg #[.string s, .bool false, .slice p n cap]] w fun e w' => e = .returned (errN c) ∧ Bel w w' := by
  have HF := Lib.hid hf
  have HC := Lib.hid hc
  clear hf hc
  go_enter Tryz.func38, Tryz.ntmps38
  go_upto_region 1 with fail
  have k1 : Bel w (w.alloc (.cells #[.string s, .bool false, .slice p n cap] 44)) := Bel.start w _
  have B1 := Blk.new w [.string s, .bool false, .slice p n cap] 44
  generalize w.alloc (.cells #[.string s, .bool false, .slice p n cap] 44) = w1 at *
  obtain ⟨g3, hg3⟩ : ∃ g, w.heap.size = g := ⟨_, rfl⟩
  rw [hg3] at B1 ⊢
  have HB1 := Lib.hid B1
  have HK1 := Lib.hid k1
  have c0 : w1.cell? ⟨g3, 0, none⟩ = some (.string s) := B1.cell 0
  have c1 : w1.cell? ⟨g3, 1, none⟩ = some (.bool false) := B1.cell 1
  have c6 : w1.cell? ⟨kb, 6, none⟩ = some (.pointer (some ⟨tb, 0, none⟩)) := cell_bel k1 HC.out
  clear k1 B1 hg3
  go_upto_region 3 with fail
  have hg3l : g3 < w1.heap.size := HB1.out.lt
  have hkl : kb < w1.heap.size := World.block_lt_of_cell? _ _ c6
  go_region_with (first
    | (go_at_call 57; ((with_reducible refine Calls.mono (HF.out _ (HK1.out.drew)) ?_); rintro e w2 ⟨rfl, k2⟩; have HK2 : Hid (Bel w1 w2) := Lib.hid ((Bel.drew (Bel.refl w1)).tr k2); have hu : w1.heap.size ≤ w2.heap.size := HK2.out.size; clear k2))
    | (go_at_call 57; ((with_reducible refine Calls.mono (HF.out _ ((HK1.out.ac _).drew)) ?_); rintro e w2 ⟨rfl, k2⟩; have B5 := (Blk.new w1 [.pointer none, .string ⟨#[]⟩, .pointer none] 180).bel ((Bel.drew (Bel.refl _)).tr k2); have HK2 : Hid (Bel w1 w2) := Lib.hid (((Bel.start w1 _).tr (Bel.drew (Bel.refl _))).tr k2); have HB5 := Lib.hid B5; have c50 : w2.cell? ⟨w1.heap.size, 0, none⟩ = some (.pointer none) := B5.cell 0; have c51 : w2.cell? ⟨w1.heap.size, 1, none⟩ = some (.string ⟨#[]⟩) := B5.cell 1; have c52 : w2.cell? ⟨w1.heap.size, 2, none⟩ = some (.pointer none) := B5.cell 2; have f5 := B5.frozen; clear k2 B5)))
  all_goals go_wp2
  all_goals go_ret
  all_goals first
    | exact ⟨rfl, HK1.out.tr (HK2.out.ac _)⟩
    | exact ⟨rfl, HK1.out.tr HK2.out⟩
    | exact ⟨rfl, HK1.out.tr (((HK2.out.store (p := ⟨w1.heap.size, 0, none⟩) (Nat.le_refl _) _).store (p := ⟨w1.heap.size, 1, none⟩) (Nat.le_refl _) _).store (p := ⟨w1.heap.size, 2, none⟩) (Nat.le_refl _) _)⟩

/-- (*Kernel).file. -/
theorem file_any (kb tb : Nat) (A : Adr) (T : List Pn) (mi mb : Nat) (s : ByteArray) (is : Bool) (p : Option Addr) (cap : Nat) (L : List Int) (w : World) (h : PT w tb A T mi mb) (hc : w.cell? ⟨kb, 6, none⟩ = some (.pointer (some ⟨tb, 0, none⟩))) (hkb : ¬ Foot tb A T kb)
    (hbs : BS w p L) (hlen : L.length ≤ 200000) (hbsf : ∀ b o, p = some ⟨b, o, none⟩ → ¬ Foot tb A T b) (hs : s.size ≤ 1000000) (hmx : MaxVar w) :
    Calls Tryz.prog 38 #[.pointer (some ⟨kb, 0, none⟩), .agg #[.string s, .bool is, .slice p L.length cap]] w fun e w' => FileRes w tb A T mi mb (fileF mi mb (nds T) s.data.toList is L) e w' := by
  cases is with
  | true =>
    have hm := fun W (hW : Bel w W) => mkdir_any tb A T mi mb s W (h.bel hW) hs (hmx.bel hW)
    show Calls _ _ _ _ fun e w' => FileRes w tb A T mi mb (mkF mi (nds T) s.data.toList) e w'
    generalize mkF mi (nds T) s.data.toList = r at *
    by_cases h0 : r.1 = 0
    · refine (file_dir kb tb s _ .nilIface w (fun W w' => ∃ A' T', PStep W tb A T mi mb r.2 A' T' w') rfl hc fun W hW => (hm W hW).mono fun e w' k => k.2 h0).mono ?_
      rintro e w' ⟨rfl, W, hW, A', T', k⟩
      exact ⟨fun h => absurd h0 h, fun _ => ⟨rfl, A', T', k.pt, k.nds, (Keep.of_bel _ hW).tr k.keep, fun q hq => by
        rcases k.foot q hq with h | h
        · exact .inl h
        · exact .inr (Nat.le_trans hW.size h)⟩⟩
    · refine (file_dir kb tb s _ (errN r.1) w (fun W w' => Keep (Foot tb A T) W w') rfl hc fun W hW => (hm W hW).mono fun e w' k => k.1 h0).mono ?_
      rintro e w' ⟨rfl, W, hW, k⟩
      exact ⟨fun _ => ⟨rfl, (Keep.of_bel _ hW).tr k⟩, fun h => absurd h h0⟩
  | false =>
    have hf := fun W (hW : Bel w W) => find_any tb A T _ s W (h.bel hW).block (h.bel hW).tree hs (hmx.bel hW)
    have hroot := h.tree.isRoot
    have hnew := docWalk_new (L := nds T) (s := s.data.toList) hroot
    have hold := docWalk_old (L := nds T) (s := s.data.toList) hroot
    unfold fileF
    obtain ⟨d, nm, n, c, hr⟩ : ∃ d nm n c, docWalk (nds T) s.data.toList = (d, nm, n, c) := ⟨_, _, _, _, rfl⟩
    rw [hr] at hnew hold
    simp only [hr] at hf hnew hold ⊢
    rw [if_neg (by simp)]
    by_cases hcc : c = 0
    · subst hcc
      rw [if_neg (by simp)]
      refine file_node kb tb A T mi mb s nm p cap L d n w h hc hkb hbs hlen hbsf (fun W hW => (hf W hW).mono fun e w' k => ⟨k.1.trans (by rw [spotV, if_pos rfl]), k.2⟩) _ ?_
      by_cases hn : n = 0
      · rw [if_pos hn, if_pos hn]
        obtain ⟨h1, h2, h3, h4, h5⟩ := hnew rfl hn
        exact ⟨h1, h2, h3, h4, h5, by rw [nds_len]⟩
      · rw [if_neg hn, if_neg hn]
        have := hold rfl
        rw [nds_len] at this
        exact ⟨this, rfl⟩
    · rw [if_pos hcc]
      refine (file_err kb tb s c p L.length cap w hc fun W hW => (hf W hW).mono fun e w' k => ⟨k.1.trans (by rw [spotV, if_neg hcc]), k.2⟩).mono ?_
      rintro e w' ⟨rfl, k⟩
      exact ⟨fun _ => ⟨rfl, Keep.of_bel _ k⟩, fun h => absurd h hcc⟩
end Go.Proofs.YtkcjafnaephjiaaGreatDoor

/- Boot's small hands: NewTree, NewTable, Hold, room. -/
namespace Go.Proofs.YtkcjafnaephjiaaGreatDoor
open Go.RowKit Go.MapKept Go.Maps
set_option maxRecDepth 100000

def rootPn : Pn := ⟨0, ⟨#[]⟩, true, [], .slice none 0 0, 0, false⟩
theorem newtree_pt (mi mb : Nat) (w : World) (h1 : 1 ≤ mi) (hmi : mi ≤ 100000) (hmb : mb ≤ 100000) :
    PT (((w.alloc (.map #[] 0)).alloc (.cells #[.string ⟨#[]⟩, .pointer none, .map (some w.heap.size), .slice none 0 0, .int .i64 0, .bool false] 173)).alloc (.cells #[.pointer (some ⟨w.heap.size + 1, 0, none⟩), .int .i64 1, .int .i64 0, .int .i64 mi, .int .i64 mb] 175)) (w.heap.size + 2) ⟨fun _ => w.heap.size + 1, fun _ => w.heap.size⟩ [rootPn] mi mb := by
  have one : ∀ (i : Nat) (n : Pn), [rootPn][i]? = some n → i = 0 ∧ n = rootPn := fun i n h => by
    cases i with
    | zero => simp at h; exact ⟨rfl, h.symm⟩
    | succ i => simp at h
  have B1 : Blk ((w.alloc (.map #[] 0)).alloc (.cells #[.string ⟨#[]⟩, .pointer none, .map (some w.heap.size), .slice none 0 0, .int .i64 0, .bool false] 173)) (w.heap.size + 1) [.string ⟨#[]⟩, .pointer none, .map (some w.heap.size), .slice none 0 0, .int .i64 0, .bool false] 173 := Blk.new_at _ _ _ (by simp)
  have M1 := ((Mp.new keyS w).alloc (.cells #[.string ⟨#[]⟩, .pointer none, .map (some w.heap.size), .slice none 0 0, .int .i64 0, .bool false] 173)).alloc (.cells #[.pointer (some ⟨w.heap.size + 1, 0, none⟩), .int .i64 1, .int .i64 0, .int .i64 mi, .int .i64 mb] 175)
  refine ⟨⟨?_, ?_, ?_, ?_, ?_, ?_, ?_, ?_, ?_, ?_, ?_, by simp⟩, Blk.new_at _ _ _ (by simp), h1, Nat.zero_le _, hmi, hmb⟩
  · intro i n hi
    obtain ⟨rfl, rfl⟩ := one i n hi
    exact B1.alloc _
  · intro i n hi _
    obtain ⟨rfl, rfl⟩ := one i n hi
    exact M1
  · intro i n hi
    obtain ⟨rfl, rfl⟩ := one i n hi
    exact ⟨(fun x hx => by cases hx), .inl ⟨rfl, rfl⟩⟩
  · intro i j hi hj _; simp at hi hj; omega
  · intro i j m n hi hj _ _ _
    rw [(one i m hi).1, (one j n hj).1]
  · intro i j m n g hi hj _ _
    rw [(one i m hi).1, (one j n hj).1]
  · intro i n hi
    obtain ⟨rfl, rfl⟩ := one i n hi
    exact Nat.le_refl _
  · intro i n hi h
    obtain ⟨rfl, rfl⟩ := one i n hi
    exact absurd rfl h
  · exact ⟨rootPn, rfl, rfl, rfl, rfl⟩
  · intro i n hi _ h
    exact absurd (one i n hi).1 h
  · intro i n hi _ h
    exact absurd (one i n hi).1 h
inductive NewRes (mi mb B : Nat) (e : Ending) (w' : World) : Prop
  | mk (tb : Nat) (A : Adr) : e = .returned (.tuple #[.pointer (some ⟨tb, 0, none⟩), .nilIface]) → PT w' tb A [rootPn] mi mb → (∀ q, Foot tb A [rootPn] q → B ≤ q) → NewRes mi mb B e w'
set_option maxHeartbeats 4000000 in
theorem newtree_any (mi mb : Nat) (w : World) (h1 : 1 ≤ mi) (hmi : mi ≤ 100000) (hmb : mb ≤ 100000) :
    Calls Tryz.prog 36 #[.int .i64 mi, .int .i64 mb] w fun e w' => NewRes mi mb w.heap.size e w' ∧ Bel w w' := by
  have hmm : ∀ w, (Instr.makeMap 171 none).run Tryz.prog w = .ok (.map (some w.heap.size)) (w.alloc (.map #[] 0)) := fun w => by kernel_rfl
  have hn : ¬ ((mi : Int) < 1) := by omega
  go_enter Tryz.func36, Tryz.ntmps36
  go_wp2
  go_ret2
  refine ⟨NewRes.mk (w.heap.size + 2) ⟨fun _ => w.heap.size + 1, fun _ => w.heap.size⟩ rfl (newtree_pt mi mb w h1 hmi hmb) ?_, ((Bel.start w _).ac _).ac _⟩
  rintro q (rfl | ⟨i, n, hi, rfl | ⟨_, rfl⟩ | h⟩)
  · omega
  · show w.heap.size ≤ w.heap.size + 1; omega
  · exact Nat.le_refl _
  · cases i with
    | zero => simp at hi; subst hi; cases h
    | succ i => simp at hi

set_option maxHeartbeats 4000000 in
theorem newtable_any (n : Int) (w : World) :
    Calls Tryz.prog 37 #[.int .i64 n] w fun e w' => (∃ ob, e = .returned (.pointer (some ⟨ob, 0, none⟩)) ∧ w.heap.size ≤ ob ∧ Blk w' ob [.int .i64 0, .int .i64 n] 177) ∧ Bel w w' := by
  go_enter Tryz.func37, Tryz.ntmps37
  go_wp2
  go_ret
  exact ⟨⟨_, rfl, Nat.le_refl _, Blk.new w _ _⟩, Bel.start _ _⟩

set_option maxHeartbeats 4000000 in
theorem held_any (cb : Nat) (fds : Nat) (a b : Value) (w : World) (hc : Blk w cb [.int .i64 fds, a, b] 116) (hf : fds ≤ 1000000) :
    Calls Tryz.prog 200 #[.pointer (some ⟨cb, 0, none⟩), .int .i64 1] w fun e w' => e = .returned (.int .i64 (fds + 1 : Nat)) ∧ Blk w' cb [.int .i64 (fds + 1 : Nat), a, b] 116 ∧ Keep (fun q => q = cb) w w' := by
  have c0 : w.cell? ⟨cb, 0, none⟩ = some (.int .i64 (fds : Int)) := hc.cell 0
  have f0 := hc.frozen
  have HC := Lib.hid hc
  have hl := hc.lt
  clear hc
  go_enter Tryz.func200, Tryz.ntmps200
  go_wp2
  go_ret
  exact ⟨rfl, HC.out.setCell (o := 0) _, Keep.setCell _ _ _ _⟩
set_option maxHeartbeats 4000000 in
theorem hold_any (ob : Option Addr) (cb : Nat) (fds : Nat) (a b : Value) (w : World) (hc : Blk w cb [.int .i64 fds, a, b] 116) (hf : fds ≤ 1000000) :
    Calls Tryz.prog 39 #[.pointer ob, .iface 120 (.pointer (some ⟨cb, 0, none⟩))] w fun e w' => e = .returned (.tuple #[]) ∧ Blk w' cb [.int .i64 (fds + 1 : Nat), a, b] 116 ∧ Keep (fun q => q = cb) w w' := by
  have hme : ∀ w, (Go.method 457 120 (.pointer (some ⟨cb, 0, none⟩)) "tinyos/files.hold").run Tryz.prog w = .ok (200, .pointer (some ⟨cb, 0, none⟩)) w := fun w => by kernel_rfl
  have HH := Lib.hid (held_any cb fds a b w hc hf)
  clear hc
  go_enter Tryz.func39, Tryz.ntmps39
  go_wp2_with (go_at_call 200; ((with_reducible refine Calls.mono HH.out ?_); rintro e w1 ⟨rfl, B1, K1⟩))
  go_end0
  exact ⟨rfl, B1, K1⟩

set_option maxHeartbeats 4000000 in
theorem kroom_any (kb : Nat) (used lim n : Int) (w : World) (h9 : w.cell? ⟨kb, 9, none⟩ = some (.int .i64 used)) (h1 : w.cell? ⟨kb, 1, none⟩ = some (.int .i64 lim)) (hu : -10000000 ≤ used ∧ used ≤ 10000000) (hn : -10000000 ≤ n ∧ n ≤ 10000000) (hl : -10000000 ≤ lim ∧ lim ≤ 10000000) :
    Calls Tryz.prog 65 #[.pointer (some ⟨kb, 0, none⟩), .int .i64 n] w fun e w' => e = .returned (.bool (decide (used + n ≤ lim))) ∧ ∃ n, w' = w.drewN n := by
  have hw : IntKind.i64.wrap (used + n) = used + n := by rw [IntKind.wrap_i64]; omega
  by_cases h : used + n ≤ lim
  · have hd : decide (used + n ≤ lim) = true := by simpa using h
    rw [hd]
    clear hd
    go_enter Tryz.func65, Tryz.ntmps65
    go_upto_region 1 with fail
    go_quiet (fail)
    go_wp2
    go_ret
    exact ⟨rfl, nq, rfl⟩
  · have hd : decide (used + n ≤ lim) = false := by simpa using h
    rw [hd]
    clear hd
    go_enter Tryz.func65, Tryz.ntmps65
    go_upto_region 1 with fail
    go_quiet (fail)
    go_wp2
    go_ret
    exact ⟨rfl, nq, rfl⟩
end Go.Proofs.YtkcjafnaephjiaaGreatDoor
