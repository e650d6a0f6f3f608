/- The law Loads: it returns true. -/
import Derived.Test.YtologfdegdljeaaDoorLoadR
import Derived.Test.YtologfdegdljeaaDoorLoadT
import Derived.Test.YtologfdegdljeaaDoorStill
import Derived.Test.YtologfdegdljeaaDoorTell
namespace Go.Proofs.YtologfdegdljeaaDoor
open Go.RowKit Go.Maps
set_option maxRecDepth 100000

theorem Rd.nil (w : World) : Rd w (.slice none 0 0) 0 [] := ⟨none, 0, rfl, fun h => by omega⟩
theorem ErrVar.keep {S : Nat → Prop} {w w' : World} (h : ErrVar w) (k : Keep S w w') (hs : ¬ S 0) : ErrVar w' :=
  (k.cell ⟨0, 0, none⟩ h.lt hs).trans h
theorem Rd.keep {S : Nat → Prop} {w w' : World} {v : Value} {n : Nat} {xs : List Value} (h : Rd w v n xs) (hb : Keep S w w') (hs : ∀ g, g < w.heap.size → ¬ S g) : Rd w' v n xs := by
  obtain ⟨p, cap, rfl, h⟩ := h
  refine ⟨p, cap, rfl, fun h0 => ?_⟩
  obtain ⟨g, rfl, h2, h3⟩ := h h0
  exact ⟨g, rfl, Nat.lt_of_lt_of_le h2 hb.size, fun j hj => (World.cell?_of_block (a := ⟨g, j, none⟩) (hb.block g h2 (hs g h2))).trans (h3 j hj)⟩
theorem Rd.keep_ne {w0 w w' : World} {G : Nat} {v : Value} {n : Nat} {xs : List Value} {base : Nat} {e : TypeId} {size : Nat} (h : w.ownsRow base e size v n xs) (hb : Keep (fun q => q = G) w w') (hG : G < base) : w'.ownsRow base e size v n xs :=
  row_keep h hb (fun q hq e => by omega)

set_option maxHeartbeats 8000000 in
theorem loads_err (n : Int) (p : Option Addr) (cap : Nat) (L : List Int) (w : World) (hr : BS w p L) (hlen : L.length ≤ 200000) (hfix : FixVar w) (herr : ErrVar w) (hn : n ≠ 0)
    (hT : ∀ W g, Blk W g ((L ++ [71, 72]).map (Value.int .u8)) 5 → FixVar W → Calls Tryd.prog 16 #[.slice (some ⟨g, 0, none⟩) L.length (L.length + 2)] W fun e w' => e = .returned (.tuple #[.agg #[.int .u64 0, .slice none 0 0], errN n]) ∧ Bel W w')
    (hR : ∀ W, BS W p L → Calls Tryd.prog 18 #[.slice p L.length cap] W fun e w' => e = .returned (.tuple #[.slice none 0 0, .int .u64 0, .int .i64 n]) ∧ Bel W w') :
    Calls Tryd.prog 5 #[.slice p L.length cap] w fun e w' => e = .returned (.bool true) ∧ Bel w w' := by
  have HRM := Lib.hid (roomy_any p cap L w hr hlen)
  have HT := Lib.hid hT
  have HRF := Lib.hid hR
  have HBS := Lib.hid hr
  have HFX := Lib.hid hfix
  have HER := Lib.hid herr
  have hnil : ∀ w, (binOp .eql 41 (.slice none 0 0) (.slice none 0 0)).run Tryd.prog w = .ok (.bool true) w := fun w => by kernel_rfl
  have hn1 : (n == 0) = false := by simpa using hn
  have hge := herr.lt
  have hgf := hfix.2
  have HN := Lib.hid hn
  clear hT hR hr hfix herr hn
  go_enter Tryd.func5, Tryd.ntmps5
  go_upto_region 4 with (go_at_call 15; with_reducible refine Calls.mono HRM.out ?_; rintro e w1 ⟨g, rfl, hg, B1, k1⟩)
  have HB1 := Lib.hid B1
  have K1 := Lib.hid k1
  have HF1 := Lib.hid (HFX.out.bel k1)
  have hg1 := B1.lt
  clear B1 k1
  go_upto_region 5 with (go_at_call 16; with_reducible refine Calls.mono (HT.out w1 g HB1.out HF1.out) ?_; rintro e w2 ⟨rfl, k2⟩)
  have k3 : Bel w2 (w2.alloc (.cells #[.int .u64 0, .slice none 0 0] 54)) := Below.heap_alloc' w2 _
  have B4 := Blk.new w2 [.int .u64 0, .slice none 0 0] 54
  generalize (w2.alloc (.cells #[.int .u64 0, .slice none 0 0] 54)) = w3 at *
  have hg4 : g < w2.heap.size := Nat.lt_of_lt_of_le hg1 k2.size
  have HB4 := Lib.hid B4
  have K3 := Lib.hid (K1.out.tr (k2.tr k3))
  have HBG3 := Lib.hid (HB1.out.bel (k2.tr k3))
  have HE3 := Lib.hid (HER.out.bel K3.out)
  clear k2 k3 B4
  generalize w2.heap.size = g4 at *
  go_upto_region 6 with (go_at_call 7; refine Calls.mono (tell_hit _ _ n w3 (asHit_errno n _) HE3.out) ?_; rintro e w4 ⟨rfl, k4⟩)
  have K4 := Lib.hid (K3.out.tr k4)
  have HST := Lib.hid (still_any g p cap L w4 (HBG3.out.bel k4) (HBS.out.bel K4.out) hlen)
  have HB44 := Lib.hid (HB4.out.bel k4)
  clear k4
  go_upto_region 7 with (go_at_call 17; with_reducible refine Calls.mono HST.out ?_; rintro e w5 ⟨rfl, k5⟩)
  have K5 : Hid (Bel w w5) := Lib.hid (Below.trans K4.out (k5.below _ K4.out.size (fun q hq => by omega)))
  have HB45 := Lib.hid (HB44.out.keep k5 (by omega))
  have HR5 := Lib.hid (HRF.out w5 (HBS.out.bel K5.out))
  clear k5
  go_upto_region 8 with (go_at_call 18; with_reducible refine Calls.mono HR5.out ?_; rintro e w6 ⟨rfl, k6⟩)
  have K6 := Lib.hid (K5.out.tr k6)
  have HB46 := Lib.hid (HB45.out.bel k6)
  have c1 : w6.cell? ⟨g4, 1, none⟩ = some (.slice none 0 0) := HB46.out.cell 1
  have c0 : w6.cell? ⟨g4, 0, none⟩ = some (.int .u64 0) := HB46.out.cell 0
  have HSM := Lib.hid (same_any (.slice none 0 0) (.slice none 0 0) [] w6 (by simp) (by simp) (Rd.nil w6) (Rd.nil w6))
  clear k6
  go_wp2_with (first
    | (go_at_call 13; with_reducible refine Calls.mono HSM.out ?_; rintro e w7 ⟨rfl, nq, rfl⟩)
    | (go_at_call 9; refine Calls.mono (num_any n _) ?_; rintro e w8 ⟨rfl, rfl⟩))
  go_ret
  exact ⟨rfl, bel_drewN K6.out nq⟩

set_option maxHeartbeats 8000000 in
theorem loads_ok (E : Int) (M : List (Nat × Pg)) (p : Option Addr) (cap : Nat) (L : List Int) (w : World) (hr : BS w p L) (hlen : L.length ≤ 200000) (hfix : FixVar w) (herr : ErrVar w) (hml : M.length ≤ 256) (hmw : ∀ q ∈ M, q.2.wf)
    (hT : ∀ W g, Blk W g ((L ++ [71, 72]).map (Value.int .u8)) 5 → FixVar W → Calls Tryd.prog 16 #[.slice (some ⟨g, 0, none⟩) L.length (L.length + 2)] W fun e w' => ∃ v, e = .returned (.tuple #[.agg #[.int .u64 E, v], .nilIface]) ∧ w'.ownsRow W.heap.size 80 258 v M.length (M.flatMap fun q => apiCells q.1 q.2) ∧ Bel W w')
    (hR : ∀ W, BS W p L → Calls Tryd.prog 18 #[.slice p L.length cap] W fun e w' => ∃ v, e = .returned (.tuple #[v, .int .u64 E, .int .i64 0]) ∧ w'.ownsRow W.heap.size 77 258 v M.length (M.flatMap fun q => refCells q.1 q.2) ∧ Bel W w') :
    Calls Tryd.prog 5 #[.slice p L.length cap] w fun e w' => e = .returned (.bool true) ∧ Bel w w' := by
  have HRM := Lib.hid (roomy_any p cap L w hr hlen)
  have HT := Lib.hid hT
  have HRF := Lib.hid hR
  have HBS := Lib.hid hr
  have HFX := Lib.hid hfix
  have HER := Lib.hid herr
  have HMW := Lib.hid hmw
  have HML := Lib.hid hml
  have hge := herr.lt
  have hgf := hfix.2
  clear hT hR hr hfix herr hmw hml
  go_enter Tryd.func5, Tryd.ntmps5
  go_upto_region 4 with (go_at_call 15; with_reducible refine Calls.mono HRM.out ?_; rintro e w1 ⟨g, rfl, hg, B1, k1⟩)
  have HB1 := Lib.hid B1
  have K1 := Lib.hid k1
  have HF1 := Lib.hid (HFX.out.bel k1)
  have hg1 := B1.lt
  clear B1 k1
  go_upto_region 5 with (go_at_call 16; with_reducible refine Calls.mono (HT.out w1 g HB1.out HF1.out) ?_; rintro e w2 ⟨v, rfl, hrow, k2⟩; obtain ⟨q, vc, rfl, _, _, _⟩ := row_slice hrow; have HROW := Lib.hid hrow; clear hrow)
  have k3 : Bel w2 (w2.alloc (.cells #[.int .u64 E, .slice q M.length vc] 54)) := Below.heap_alloc' w2 _
  have B4 := Blk.new w2 [.int .u64 E, .slice q M.length vc] 54
  generalize (w2.alloc (.cells #[.int .u64 E, .slice q M.length vc] 54)) = w3 at *
  have hg4 : g < w2.heap.size := Nat.lt_of_lt_of_le hg1 k2.size
  have HB4 := Lib.hid B4
  have HROW3 := Lib.hid (row_bel HROW.out k3)
  have K3 := Lib.hid (K1.out.tr (k2.tr k3))
  have HBG3 := Lib.hid (HB1.out.bel (k2.tr k3))
  clear k2 k3 B4
  generalize w2.heap.size = g4 at *
  go_upto_region 6 with (go_at_call 7; refine Calls.mono (tell_nil w3) ?_; rintro e w4 ⟨rfl, k4⟩)
  have K4 := Lib.hid (K3.out.tr k4)
  have HST := Lib.hid (still_any g p cap L w4 (HBG3.out.bel k4) (HBS.out.bel K4.out) hlen)
  have HB44 := Lib.hid (HB4.out.bel k4)
  have HROW4 := Lib.hid (row_bel HROW3.out k4)
  clear k4
  go_upto_region 7 with (go_at_call 17; with_reducible refine Calls.mono HST.out ?_; rintro e w5 ⟨rfl, k5⟩)
  have K5 : Hid (Bel w w5) := Lib.hid (Below.trans K4.out (k5.below _ K4.out.size (fun q hq => by omega)))
  have HB45 := Lib.hid (HB44.out.keep k5 (by omega))
  have HROW5 := Lib.hid (row_keep HROW4.out k5 (fun q hq e => by omega))
  have HR5 := Lib.hid (HRF.out w5 (HBS.out.bel K5.out))
  clear k5
  go_upto_region 8 with (go_at_call 18; with_reducible refine Calls.mono HR5.out ?_; rintro e w6 ⟨vr, rfl, hrr, k6⟩)
  have K6 := Lib.hid (K5.out.tr k6)
  have HB46 := Lib.hid (HB45.out.bel k6)
  have c1 : w6.cell? ⟨g4, 1, none⟩ = some (.slice q M.length vc) := HB46.out.cell 1
  have c0 : w6.cell? ⟨g4, 0, none⟩ = some (.int .u64 E) := HB46.out.cell 0
  have HSM := Lib.hid (same_any (.slice q M.length vc) vr M w6 HML.out HMW.out (Rd.of_row (row_bel HROW5.out k6)) (Rd.of_row hrr))
  clear k6 hrr
  go_wp2_with (first
    | (go_at_call 13; with_reducible refine Calls.mono HSM.out ?_; rintro e w7 ⟨rfl, nq, rfl⟩)
    | (go_at_call 9; refine Calls.mono (num_any 0 _) ?_; rintro e w8 ⟨rfl, rfl⟩))
  go_ret
  exact ⟨rfl, bel_drewN K6.out nq⟩

set_option maxHeartbeats 4000000 in
theorem loads_long (p : Option Addr) (n cap : Nat) (w : World) (hn : 200000 < n) (hm : n ≤ 9223372036854775807) :
    Calls Tryd.prog 5 #[.slice p n cap] w fun e w' => e = .returned (.bool true) ∧ Bel w w' := by
  go_enter Tryd.func5, Tryd.ntmps5
  go_wp2
  go_ret
  exact ⟨rfl, Below.refl _ _⟩
end Go.Proofs.YtologfdegdljeaaDoor
