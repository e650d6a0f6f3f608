/- The law Stacks: it returns true. -/
import Derived.Test.YtologfdegdljeaaDoorFound
import Derived.Test.YtologfdegdljeaaDoorLoadsW
namespace Go.Proofs.YtologfdegdljeaaDoor
open Go.RowKit Go.Maps
set_option maxRecDepth 100000

def MBytes (M : Nat → Int) : Prop := ∀ a, 0 ≤ M a ∧ M a ≤ 255
theorem poke_byte {M : Nat → Int} (h : MBytes M) (A : Nat) (l : List Int) (hl : ∀ x ∈ l, 0 ≤ x ∧ x ≤ 255) : MBytes (pokeM M A l) := fun a => by
  unfold pokeM
  split
  · rename_i hc
    rw [List.getD_eq_getElem?_getD, List.getElem?_eq_getElem (by omega)]
    exact hl _ (List.getElem_mem _)
  · exact h a
theorem st_byte (ss : List ByteArray) : ∀ is : List Nat, MBytes (stOf ss is).M := by
  refine snoc_ind ?_ ?_
  · intro a; simp [stOf]
  · intro is i ih
    rw [stOf_snoc]
    exact poke_byte ih _ _ (arg_byte ss i)
theorem mem_byte (ss : List ByteArray) (hg : Good ss) (hn : ss.length ≤ 8) : MBytes (memOf ss) := by
  have : ∀ k, MBytes (finTo (stAll ss) ss.length k) := by
    intro k
    induction k with
    | zero => exact st_byte ss _
    | succ k ih =>
      have := word_bound ss hg hn k
      exact poke_byte ih _ _ (bytes8_byte _ this.1 (by omega))
  exact this _
def stM (ss : List ByteArray) : Pages := pagesOf stPerm (memOf ss)
theorem stM_ok (ss : List ByteArray) (hg : Good ss) (hn : ss.length ≤ 8) : PagesOk (stM ss) := by
  refine ⟨fun n h => ?_, fun n p h => ?_⟩
  · unfold stM pagesOf stPerm
    rw [if_neg (by omega)]; rfl
  · unfold stM pagesOf at h
    obtain ⟨q, hq, rfl⟩ := Option.map_eq_some_iff.1 h
    refine ⟨by simp, fun x hx => ?_, ?_⟩
    · obtain ⟨i, _, rfl⟩ := List.mem_map.1 hx
      exact mem_byte ss hg hn _
    · unfold stPerm at hq
      split at hq
      · cases hq; exact ⟨by simp, by simp⟩
      · cases hq
theorem stM_at (ss : List ByteArray) (n : Nat) (h : n = 254 ∨ n = 255) : stM ss n = some ⟨6, (List.range 256).map fun i => memOf ss (256 * n + i)⟩ := by
  unfold stM pagesOf stPerm
  rw [if_pos h]; rfl
theorem stM_nums (ss : List ByteArray) : pageNums (stM ss) = [254, 255] := by
  unfold pageNums
  have : (List.range 256).filter (fun n => (stM ss n).isSome) = (List.range 256).filter (fun n => decide (n = 254 ∨ n = 255)) := by
    apply List.filter_congr
    intro n _
    by_cases h : n = 254 ∨ n = 255
    · rw [stM_at ss n h]; simp [h]
    · unfold stM pagesOf stPerm
      rw [if_neg h]; simp [h]
  rw [this]
  decide
theorem stM_cells (ss : List ByteArray) : pagesCells (stM ss) [254, 255] = [254, 255].flatMap fun n => apiCells n ⟨6, (List.range 256).map fun i => memOf ss (256 * n + i)⟩ := by
  unfold pagesCells
  simp only [List.flatMap_cons, List.flatMap_nil]
  rw [stM_at ss 254 (.inl rfl), stM_at ss 255 (.inr rfl)]
  rfl

set_option maxHeartbeats 4000000 in
theorem stackM_many (p : Option Addr) (n cap : Nat) (w : World) (hn : 8 < n) (hm : n ≤ 1000) :
    Calls Tryd.prog 23 #[.slice p n cap] w fun e w' => e = .returned (.tuple #[.map none, .int .u64 0, errN 6]) ∧ Bel w w' := by
  go_enter Tryd.func23, Tryd.ntmps23
  go_wp2
  refine bodyPost_ret (v := .tuple #[.map none, .int .u64 0, errN 6]) (by simp [results, Tryd.results23, go_sem]) rfl ⟨rfl, ?_⟩
  exact (((Below.refl _ _).alloc (Nat.le_refl _) _).alloc (by simp) _).alloc (by simp; omega) _
set_option maxHeartbeats 4000000 in
theorem stackR_many (p : Option Addr) (n cap : Nat) (w : World) (hn : 8 < n) (hm : n ≤ 1000) :
    Calls Tryd.prog 12 #[.slice p n cap] w fun e w' => e = .returned (.tuple #[.slice none 0 0, .int .u64 0, .int .i64 6]) ∧ w = w' := by
  go_enter Tryd.func12, Tryd.ntmps12
  go_wp2
  go_ret3
  exact ⟨rfl, rfl⟩

set_option maxHeartbeats 4000000 in
theorem stackT_err (args : Value) (w : World) (h : Calls Tryd.prog 23 #[args] w fun e w' => e = .returned (.tuple #[.map none, .int .u64 0, errN 6]) ∧ Bel w w') :
    Calls Tryd.prog 11 #[args] w fun e w' => e = .returned (.tuple #[.slice none 0 0, .int .u64 0, errN 6]) ∧ Bel w w' := by
  have H := Lib.hid h
  clear h
  go_enter Tryd.func11, Tryd.ntmps11
  go_wp2_with (first
    | (go_at_call 23; with_reducible refine Calls.mono H.out ?_; rintro e w1 ⟨rfl, k1⟩; have K1 := Lib.hid k1; clear k1)
    | (go_at_call 24; refine Calls.mono (pages_none w1) ?_; rintro e w2 ⟨rfl, k2⟩))
  go_ret3
  exact ⟨rfl, K1.out.tr k2⟩
set_option maxHeartbeats 4000000 in
theorem stackT_ok (args : Value) (E : Int) (m : Pages) (w : World) (hm : PagesOk m) (h : Calls Tryd.prog 23 #[args] w fun e w' => (∃ mb, e = .returned (.tuple #[.map (some mb), .int .u64 E, .nilIface]) ∧ Sp w' mb m) ∧ Bel w w') :
    Calls Tryd.prog 11 #[args] w fun e w' => ∃ v, e = .returned (.tuple #[v, .int .u64 E, .nilIface]) ∧ w'.ownsRow w.heap.size 80 258 v (pageNums m).length (pagesCells m (pageNums m)) ∧ Bel w w' := by
  have H := Lib.hid h
  have HM := Lib.hid hm
  clear h hm
  go_enter Tryd.func11, Tryd.ntmps11
  go_upto_region 2 with (go_at_call 23; with_reducible refine Calls.mono H.out ?_; rintro e w1 ⟨⟨mb, rfl, hs⟩, k1⟩)
  have HP := Lib.hid (pages_any mb m w1 hs HM.out)
  have K1 := Lib.hid k1
  clear hs k1
  go_wp2_with (go_at_call 24; with_reducible refine Calls.mono HP.out ?_; rintro e w2 ⟨v, rfl, hr, k2⟩)
  have HR := Lib.hid (hr.mono K1.out.size)
  have K2 := Lib.hid (K1.out.tr k2)
  clear hr k2
  go_ret3
  exact ⟨v, rfl, HR.out, K2.out⟩

set_option maxHeartbeats 8000000 in
theorem stacks_err (p : Option Addr) (n cap : Nat) (w : World) (hn : n ≤ 1000) (herr : ErrVar w)
    (hT : Calls Tryd.prog 23 #[.slice p n cap] w fun e w' => e = .returned (.tuple #[.map none, .int .u64 0, errN 6]) ∧ Bel w w')
    (hR : ∀ W, Bel w W → Calls Tryd.prog 12 #[.slice p n cap] W fun e w' => e = .returned (.tuple #[.slice none 0 0, .int .u64 0, .int .i64 6]) ∧ Bel W w') :
    Calls Tryd.prog 4 #[.slice p n cap] w fun e w' => e = .returned (.bool true) ∧ Bel w w' := by
  have HT := Lib.hid (stackT_err _ w hT)
  have HR := Lib.hid hR
  have HE := Lib.hid herr
  have hnil : ∀ w, (binOp .eql 41 (.slice none 0 0) (.slice none 0 0)).run Tryd.prog w = .ok (.bool true) w := fun w => by kernel_rfl
  clear hT hR herr
  go_enter Tryd.func4, Tryd.ntmps4
  go_upto_region 4 with (go_at_call 11; with_reducible refine Calls.mono HT.out ?_; rintro e w1 ⟨rfl, k1⟩)
  have K1 := Lib.hid k1
  have HE1 := Lib.hid (HE.out.bel k1)
  clear k1
  go_upto_region 5 with (go_at_call 7; refine Calls.mono (tell_hit _ _ 6 w1 (asHit_errno 6 _) HE1.out) ?_; rintro e w2 ⟨rfl, k2⟩)
  have K2 := Lib.hid (K1.out.tr k2)
  have HR2 := Lib.hid (HR.out w2 K2.out)
  clear k2
  go_upto_region 6 with (go_at_call 12; with_reducible refine Calls.mono HR2.out ?_; rintro e w3 ⟨rfl, k3⟩)
  have K3 := Lib.hid (K2.out.tr k3)
  have HSM := Lib.hid (same_any (.slice none 0 0) (.slice none 0 0) [] w3 (by simp) (by simp) (Rd.nil w3) (Rd.nil w3))
  clear k3
  go_wp2_with (first
    | (go_at_call 13; with_reducible refine Calls.mono HSM.out ?_; rintro e w7 ⟨rfl, nq, rfl⟩)
    | (go_at_call 9; refine Calls.mono (num_any 6 _) ?_; rintro e w8 ⟨rfl, rfl⟩))
  go_ret
  exact ⟨rfl, bel_drewN K3.out nq⟩

set_option maxHeartbeats 8000000 in
theorem stacks_ok (p : Option Addr) (cap : Nat) (ss : List ByteArray) (w : World) (hn : ss.length ≤ 8) (hS : SS w.heap.size w p ss) (hgood : Good ss) :
    Calls Tryd.prog 4 #[.slice p ss.length cap] w fun e w' => e = .returned (.bool true) ∧ Bel w w' := by
  have hT := stackT_ok (.slice p ss.length cap) (spOf (stAll ss) ss.length) (stM ss) w (stM_ok ss hgood hn) ((stackM_any p cap ss w hS hn).mono fun e w' h => ⟨h.2.1 hgood, h.1⟩)
  rw [stM_nums, stM_cells] at hT
  have HT := Lib.hid hT
  have HR : Hid (∀ W, Bel w W → Calls Tryd.prog 12 #[.slice p ss.length cap] W fun e w' => ∃ v, e = .returned (.tuple #[v, .int .u64 (spOf (stAll ss) ss.length), .int .i64 0]) ∧ w'.ownsRow W.heap.size 77 258 v 2 ([254, 255].flatMap fun n => refCells n ⟨6, (List.range 256).map fun i => memOf ss (256 * n + i)⟩) ∧ Bel W w') := Lib.hid (fun W hW =>
    (stackR_any p cap ss W (fun h0 => by
      obtain ⟨b, o, h1, h2, h3⟩ := (hS.below hW) h0
      exact ⟨b, o, h1, Nat.lt_of_lt_of_le h2 hW.size, h3⟩) hn).mono fun e w' h => by
      obtain ⟨v, h1, h2⟩ := h.2.1 hgood
      exact ⟨v, h1, h2, h.1⟩)
  have hmw := (stM_ok ss hgood hn).wf
  have HSM : Hid (∀ W va vb, Rd W va 2 ([254, 255].flatMap fun n => apiCells n ⟨6, (List.range 256).map fun i => memOf ss (256 * n + i)⟩) → Rd W vb 2 ([254, 255].flatMap fun n => refCells n ⟨6, (List.range 256).map fun i => memOf ss (256 * n + i)⟩) →
      Calls Tryd.prog 13 #[va, vb] W fun e w' => e = .returned (.bool true) ∧ ∃ n, w' = W.drewN n) := Lib.hid (fun W va vb h1 h2 => by
    refine same_any va vb [(254, ⟨6, (List.range 256).map fun i => memOf ss (256 * 254 + i)⟩), (255, ⟨6, (List.range 256).map fun i => memOf ss (256 * 255 + i)⟩)] W (by simp) (fun q hq => ?_) h1 h2
    simp only [List.mem_cons, List.not_mem_nil, or_false] at hq
    rcases hq with rfl | rfl
    · exact hmw 254 _ (stM_at ss 254 (.inl rfl))
    · exact hmw 255 _ (stM_at ss 255 (.inr rfl)))
  have HF : Hid (∀ W v base, Bel w W → W.ownsRow base 80 258 v 2 ([254, 255].flatMap fun n => apiCells n ⟨6, (List.range 256).map fun i => memOf ss (256 * n + i)⟩) →
      Calls Tryd.prog 14 #[v, .int .u64 (spOf (stAll ss) ss.length), .slice p ss.length cap] W fun e w' => e = .returned (.bool true) ∧ Bel W w') := Lib.hid (fun W v base hW hr =>
    found_any p cap ss v base W (fun h0 => by
      obtain ⟨b, o, h1, h2, h3⟩ := (hS.below hW) h0
      exact ⟨b, o, h1, Nat.lt_of_lt_of_le h2 hW.size, h3⟩) hn hgood hr)
  have hsp := sp_bound ss hgood hn
  have hbd := stAll_bound ss hgood hn
  obtain ⟨sp, hspe⟩ : ∃ sp, spOf (stAll ss) ss.length = sp := ⟨_, rfl⟩
  rw [hspe] at HT HR HF
  clear hT hmw hS hgood hspe hsp hbd
  generalize ([254, 255].flatMap fun n => apiCells n ⟨6, (List.range 256).map fun i => memOf ss (256 * n + i)⟩) = ca at *
  generalize ([254, 255].flatMap fun n => refCells n ⟨6, (List.range 256).map fun i => memOf ss (256 * n + i)⟩) = cr at *
  go_enter Tryd.func4, Tryd.ntmps4
  go_upto_region 4 with (go_at_call 11; with_reducible refine Calls.mono HT.out ?_; rintro e w1 ⟨v1, rfl, r1, k1⟩)
  have K1 := Lib.hid k1
  have R1 := Lib.hid r1
  clear k1 r1
  go_upto_region 5 with (go_at_call 7; refine Calls.mono (tell_nil w1) ?_; rintro e w2 ⟨rfl, k2⟩)
  have K2 := Lib.hid (K1.out.tr k2)
  have R2 := Lib.hid (row_bel R1.out k2)
  have HR2 := Lib.hid (HR.out w2 K2.out)
  clear k2
  go_upto_region 6 with (go_at_call 12; with_reducible refine Calls.mono HR2.out ?_; rintro e w3 ⟨v3, rfl, r3, k3⟩)
  have K3 := Lib.hid (K2.out.tr k3)
  have R3 := Lib.hid (row_bel R2.out k3)
  have HSM3 := Lib.hid (HSM.out w3 v1 v3 (Rd.of_row R3.out) (Rd.of_row r3))
  clear k3 r3
  go_upto_region 7 with (go_at_call 13; with_reducible refine Calls.mono HSM3.out ?_; rintro e w7 ⟨rfl, nq, rfl⟩)
  have kd : Bel w3 (w3.drewN nq) := bel_drewN (Bel.refl w3) nq
  generalize w3.drewN nq = w4 at *
  have K4 := Lib.hid (K3.out.tr kd)
  have HF4 := Lib.hid (HF.out w4 v1 _ K4.out (row_bel R3.out kd))
  clear kd
  go_wp2_with (first
    | (go_at_call 9; refine Calls.mono (num_any 0 _) ?_; rintro e w8 ⟨rfl, rfl⟩)
    | (go_at_call 14; with_reducible refine Calls.mono HF4.out ?_; rintro e w9 ⟨rfl, k9⟩))
  go_ret
  exact ⟨rfl, K4.out.tr k9⟩

set_option maxHeartbeats 4000000 in
theorem stacks_long (p : Option Addr) (n cap : Nat) (w : World) (hn : 1000 < n) (hm : n ≤ 9223372036854775807) :
    Calls Tryd.prog 4 #[.slice p n cap] w fun e w' => e = .returned (.bool true) ∧ Bel w w' := by
  go_enter Tryd.func4, Tryd.ntmps4
  go_wp2
  go_ret
  exact ⟨rfl, Below.refl _ _⟩

theorem stacks_any (p : Option Addr) (cap : Nat) (ss : List ByteArray) (w : World) (hS : SS w.heap.size w p ss) (hm : ss.length ≤ 9223372036854775807) (herr : ErrVar w) :
    Calls Tryd.prog 4 #[.slice p ss.length cap] w fun e w' => e = .returned (.bool true) ∧ Bel w w' := by
  by_cases h1 : 1000 < ss.length
  · exact stacks_long p ss.length cap w h1 hm
  by_cases h8 : 8 < ss.length
  · exact stacks_err p ss.length cap w (by omega) herr (stackM_many p ss.length cap w h8 (by omega)) fun W _ => (stackR_many p ss.length cap W h8 (by omega)).mono fun e w' h => ⟨h.1, by rw [h.2]; exact Bel.refl _⟩
  by_cases hg : Good ss
  · exact stacks_ok p cap ss w (by omega) hS hg
  · exact stacks_err p ss.length cap w (by omega) herr ((stackM_any p cap ss w hS (by omega)).mono fun e w' h => ⟨h.2.2 hg, h.1⟩) fun W hW => (stackR_any p cap ss W (fun h0 => by
      obtain ⟨b, o, h1, h2, h3⟩ := (hS.below hW) h0
      exact ⟨b, o, h1, Nat.lt_of_lt_of_le h2 hW.size, h3⟩) (by omega)).mono fun e w' h => ⟨h.2.2 hg, h.1⟩
end Go.Proofs.YtologfdegdljeaaDoor
