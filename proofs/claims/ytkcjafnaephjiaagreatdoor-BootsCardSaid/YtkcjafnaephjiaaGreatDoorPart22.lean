/- The document's readSegment. -/
import Derived.Deep.RegionHeld
import Derived.Test.YtkcjafnaephjiaaGreatDoorPart21
import Derived.Test.YtkcjafnaephjiaaGreatDoorPart01
set_option linter.unusedVariables false
set_option linter.unusedSimpArgs false
namespace Go.Proofs.YtkcjafnaephjiaaGreatDoor
open Go.RowKit
set_option maxRecDepth 100000

theorem and3 (p : Int) (h0 : 0 ≤ p) (h1 : p ≤ 7) : (bits .and .u64 p 3 == 3) = (bits .and .u8 p 3 == 3) := by
  have : p = 0 ∨ p = 1 ∨ p = 2 ∨ p = 3 ∨ p = 4 ∨ p = 5 ∨ p = 6 ∨ p = 7 := by omega
  rcases this with rfl | rfl | rfl | rfl | rfl | rfl | rfl | rfl <;> decide

theorem bts_setCell {w : World} {b o : Nat} {L : List Int} (h : Bts w b o L) (g i : Nat) (v : Value) (hg : g ≠ b) : Bts (w.setCell ⟨g, i, none⟩ v) b o L :=
  h.of_cell fun a ha => World.cell?_setCell_far w ⟨g, i, none⟩ a v (by rw [ha]; exact hg)

set_option maxHeartbeats 8000000 in
theorem readSeg_any (b o cap k : Nat) (L : List Int) (w : World) (hb : Bts w b o L) (hcap : L.length ≤ cap) (hlen : L.length ≤ 200000) (hk : 64 + 56 * k + 56 ≤ L.length) :
    Calls Tryz.prog 72 #[.slice (some ⟨b, o, none⟩) L.length cap, .int .i64 k] w fun e w' => Bel w w' ∧ (∃ p o a f m, e = .returned (.tuple #[.agg #[.int .i64 p, .int .u64 o, .int .u64 a, .int .u64 f, .int .u64 m], .bool (segOk L k)]) ∧ (segOk L k = true → segAt L k = ⟨p, o, a, f, m⟩)) := by
  obtain ⟨h, hh⟩ : ∃ h, 64 + 56 * k = h := ⟨_, rfl⟩
  have hu := numAt_u64 L hb.byte
  obtain ⟨n0, e0⟩ : ∃ x, numAt L h 4 = x := ⟨_, rfl⟩
  obtain ⟨n4, e4⟩ : ∃ x, numAt L (h + 4) 4 = x := ⟨_, rfl⟩
  obtain ⟨so, eo⟩ : ∃ x, numAt L (h + 8) 8 = x := ⟨_, rfl⟩
  obtain ⟨sa, ea⟩ : ∃ x, numAt L (h + 16) 8 = x := ⟨_, rfl⟩
  obtain ⟨sf, ef⟩ : ∃ x, numAt L (h + 32) 8 = x := ⟨_, rfl⟩
  obtain ⟨sm, em⟩ : ∃ x, numAt L (h + 40) 8 = x := ⟨_, rfl⟩
  have bo := hu (h + 8) 8 (by omega)
  have ba := hu (h + 16) 8 (by omega)
  have bf := hu (h + 32) 8 (by omega)
  have bm := hu (h + 40) 8 (by omega)
  have b4 := hu (h + 4) 4 (by omega)
  rw [eo] at bo; rw [ea] at ba; rw [ef] at bf; rw [em] at bm; rw [e4] at b4
  obtain ⟨bo0, bo1⟩ := bo
  obtain ⟨ba0, ba1⟩ := ba
  obtain ⟨bf0, bf1⟩ := bf
  obtain ⟨bm0, bm1⟩ := bm
  obtain ⟨b40, b41⟩ := b4
  have E := Lib.hid (And.intro e0 (And.intro e4 (And.intro eo (And.intro ea (And.intro ef em)))))
  have hc56 : h + 56 ≤ cap := by omega
  have hl56 : h + 56 ≤ L.length := by omega
  have hlt : h < cap := by omega
  have hw1 : IntKind.i64.wrap (64 + 56 * (k : Int)) = h := by rw [IntKind.wrap_i64]; omega
  have HH := Lib.hid hh
  clear hh e0 e4 eo ea ef em hu
  have hbl : b < w.heap.size := hb.lt (by omega)
  have E0 : Hid (∀ W, Bts W b o L → Calls Tryz.prog 73 #[.slice (some ⟨b, o + h, none⟩) 4 (cap - h)] W fun e w' => e = .returned (.int .u64 n0) ∧ W = w') := Lib.hid fun W hW => by have := numberR_at b o h 4 (cap - h) L W hW (by omega) (by omega); rw [E.out.1] at this; exact this.mono fun e w' h => ⟨h.1, h.2.symm⟩
  have E4 : Hid (∀ W, Bts W b o L → Calls Tryz.prog 73 #[.slice (some ⟨b, o + h + 4, none⟩) 4 (cap - h - 4)] W fun e w' => e = .returned (.int .u64 n4) ∧ W = w') := Lib.hid fun W hW => by have := numberR_at b o (h + 4) 4 (cap - h - 4) L W hW (by omega) (by omega); rw [← Nat.add_assoc, E.out.2.1] at this; exact this.mono fun e w' h => ⟨h.1, h.2.symm⟩
  have E8 : Hid (∀ W, Bts W b o L → Calls Tryz.prog 73 #[.slice (some ⟨b, o + h + 8, none⟩) 8 (cap - h - 8)] W fun e w' => e = .returned (.int .u64 so) ∧ W = w') := Lib.hid fun W hW => by have := numberR_at b o (h + 8) 8 (cap - h - 8) L W hW (by omega) (by omega); rw [← Nat.add_assoc, E.out.2.2.1] at this; exact this.mono fun e w' h => ⟨h.1, h.2.symm⟩
  have E16 : Hid (∀ W, Bts W b o L → Calls Tryz.prog 73 #[.slice (some ⟨b, o + h + 16, none⟩) 8 (cap - h - 16)] W fun e w' => e = .returned (.int .u64 sa) ∧ W = w') := Lib.hid fun W hW => by have := numberR_at b o (h + 16) 8 (cap - h - 16) L W hW (by omega) (by omega); rw [← Nat.add_assoc, E.out.2.2.2.1] at this; exact this.mono fun e w' h => ⟨h.1, h.2.symm⟩
  have E32 : Hid (∀ W, Bts W b o L → Calls Tryz.prog 73 #[.slice (some ⟨b, o + h + 32, none⟩) 8 (cap - h - 32)] W fun e w' => e = .returned (.int .u64 sf) ∧ W = w') := Lib.hid fun W hW => by have := numberR_at b o (h + 32) 8 (cap - h - 32) L W hW (by omega) (by omega); rw [← Nat.add_assoc, E.out.2.2.2.2.1] at this; exact this.mono fun e w' h => ⟨h.1, h.2.symm⟩
  have E40 : Hid (∀ W, Bts W b o L → Calls Tryz.prog 73 #[.slice (some ⟨b, o + h + 40, none⟩) 8 (cap - h - 40)] W fun e w' => e = .returned (.int .u64 sm) ∧ W = w') := Lib.hid fun W hW => by have := numberR_at b o (h + 40) 8 (cap - h - 40) L W hW (by omega) (by omega); rw [← Nat.add_assoc, E.out.2.2.2.2.2] at this; exact this.mono fun e w' h => ⟨h.1, h.2.symm⟩
  obtain ⟨pb, epb⟩ : ∃ x, L.getD (h + 4) 0 = x := ⟨_, rfl⟩
  have HPB : Hid (n4 ≤ 7 → pb = n4) := Lib.hid (fun h7 => by
    have e4 := E.out.2.1
    have e : numAt L (h + 4) 4 = L.getD (h + 4) 0 + 256 * numV ((L.drop (h + 5)).take 3) := by
      unfold numAt
      rw [List.drop_eq_getElem_cons (by omega : h + 4 < L.length), List.take_succ_cons, numV, List.getD_eq_getElem?_getD, List.getElem?_eq_getElem (by omega)]
      rfl
    have h3 := numV_bound ((L.drop (h + 5)).take 3) fun x hx => hb.byte x (List.mem_of_mem_drop (List.mem_of_mem_take hx))
    have hx := hb.byteAt (h + 4) (by omega)
    rw [← epb]
    omega)
  have HSEG : Hid (segAt L k = ⟨pb, so, sa, sf, sm⟩) := Lib.hid (by
    simp only [segAt, HH.out, epb, E.out.2.2.1, E.out.2.2.2.1, E.out.2.2.2.2.1, E.out.2.2.2.2.2])
  have HOK : Hid (segOk L k = (n0 == 1 && decide (1 ≤ n4) && decide (n4 ≤ 7) && !(bits .and .u8 pb 3 == 3) && !(sm == 0) && decide (sf ≤ sm) &&
      decide (so ≤ L.length) && decide (sf ≤ L.length - so) && so % 256 == sa % 256 && decide (sa < 65024) && decide (sm ≤ 65024 - sa))) := Lib.hid (by
    simp only [segOk, HSEG.out, HH.out, E.out.1, E.out.2.1])
  have HBAD : Hid (n0 ≠ 1 ∨ n4 < 1 ∨ 7 < n4 ∨ bits .and .u64 n4 3 = 3 ∨ sm < 1 ∨ sm < sf ∨ (L.length : Int) < so ∨ (L.length : Int) - so < sf ∨ so % 256 ≠ sa % 256 ∨ 65024 ≤ sa ∨ 65024 - sa < sm → segOk L k = false) := Lib.hid (fun hh => by
    rw [HOK.out]
    rcases hh with q | q | q | q | q | q | q | q | q | q | q
    · simp [q]
    · simp [show ¬ 1 ≤ n4 from by omega]
    · simp [show ¬ n4 ≤ 7 from by omega]
    · by_cases q2 : n4 ≤ 7
      · have := and3 n4 b40 q2
        rw [HPB.out q2, ← this, q]; simp
      · simp [q2]
    · simp [show sm = 0 from by omega]
    · simp [show ¬ sf ≤ sm from by omega]
    · simp [show ¬ so ≤ (L.length : Int) from by omega]
    · simp [show ¬ sf ≤ (L.length : Int) - so from by omega]
    · simp [q]
    · simp [show ¬ sa < 65024 from by omega]
    · simp [show ¬ sm ≤ 65024 - sa from by omega])
  have HGOOD : Hid (n0 = 1 → 1 ≤ n4 → n4 ≤ 7 → ¬ bits .and .u64 n4 3 = 3 → 1 ≤ sm → sf ≤ sm → so ≤ (L.length : Int) → sf ≤ (L.length : Int) - so → so % 256 = sa % 256 → sa < 65024 → sm ≤ 65024 - sa → segOk L k = true) := Lib.hid (fun q0 q1 q2 q3 q4 q5 q6 q7 q8 q9 q10 => by
    have h3 : (bits .and .u8 pb 3 == 3) = false := by rw [HPB.out q2, ← and3 n4 b40 q2]; simpa using q3
    rw [HOK.out]
    simp only [q0, q1, q2, h3, q5, q6, q7, q8, q9, q10, show (sm == 0) = false from by simp; omega]
    simp)
  clear epb
  go_enter Tryz.func72, Tryz.ntmps72
  go_upto_region 2 with (fail)
  obtain ⟨z, hz⟩ : ∃ z : List Value, z = [.int .i64 0, .int .u64 0, .int .u64 0, .int .u64 0, .int .u64 0] := ⟨_, rfl⟩
  have k1 : Bel w (w.alloc (.cells #[.int .i64 0, .int .u64 0, .int .u64 0, .int .u64 0, .int .u64 0] 215)) := Below.heap_alloc' w _
  have B4 : Blk (w.alloc (.cells #[.int .i64 0, .int .u64 0, .int .u64 0, .int .u64 0, .int .u64 0] 215)) w.heap.size z 215 := by rw [hz]; exact Blk.new w _ _
  have hsz1 : (w.alloc (.cells #[.int .i64 0, .int .u64 0, .int .u64 0, .int .u64 0, .int .u64 0] 215)).heap.size = w.heap.size + 1 := by simp
  generalize (w.alloc (.cells #[.int .i64 0, .int .u64 0, .int .u64 0, .int .u64 0, .int .u64 0] 215)) = w1 at *
  have hb1 := Lib.hid (hb.keep (Keep.of_bel (fun _ => False) k1) (fun _ h => h))
  have K1 := Lib.hid k1
  have BB4 := Lib.hid B4
  have hg4 : w.heap.size < w1.heap.size := by omega
  have hb4 : b < w.heap.size := hbl
  clear k1 B4 hsz1
  generalize hge4 : w.heap.size = g4 at *
  have HG4 := Lib.hid hge4
  clear hge4
  go_upto_region 5 with (first
    | (go_at_call 73; with_reducible refine Calls.mono (E0.out _ hb1.out) ?_; rintro e wx ⟨rfl, rfl⟩)
    | (go_at_call 73; with_reducible refine Calls.mono (E4.out _ hb1.out) ?_; rintro e wx ⟨rfl, rfl⟩))
  have k2 : Bel w1 (w1.alloc (.cells #[.int .i64 0, .int .u64 0, .int .u64 0, .int .u64 0, .int .u64 0] 215)) := Below.heap_alloc' w1 _
  have B9 : Blk (w1.alloc (.cells #[.int .i64 0, .int .u64 0, .int .u64 0, .int .u64 0, .int .u64 0] 215)) w1.heap.size z 215 := by rw [hz]; exact Blk.new w1 _ _
  have hsz2 : (w1.alloc (.cells #[.int .i64 0, .int .u64 0, .int .u64 0, .int .u64 0, .int .u64 0] 215)).heap.size = w1.heap.size + 1 := by simp
  generalize (w1.alloc (.cells #[.int .i64 0, .int .u64 0, .int .u64 0, .int .u64 0, .int .u64 0] 215)) = w2 at *
  have hb2 := Lib.hid (hb1.out.keep (Keep.of_bel (fun _ => False) k2) (fun _ h => h))
  have K2 := Lib.hid (K1.out.tr k2)
  have B42 := Lib.hid (BB4.out.bel k2)
  have hg9 : w1.heap.size < w2.heap.size := by omega
  have hne : g4 ≠ w1.heap.size := by omega
  have hne2 : w1.heap.size ≠ b := by omega
  have hge : g4 ≤ w1.heap.size := by omega
  clear hsz2 k2
  generalize w1.heap.size = g9 at *
  have c1 : ∃ v, w2.cell? ⟨g9, 1, none⟩ = some v := by rw [B9.cell, hz]; exact ⟨_, rfl⟩
  obtain ⟨x1, c1⟩ := c1
  have f1 := B9.frozen 1
  have HB1 := Lib.hid B9
  clear B9
  go_upto_region 6 with (go_at_call 73; with_reducible refine Calls.mono (E8.out _ hb2.out) ?_; rintro e wx ⟨rfl, rfl⟩)
  have S1 := HB1.out.setCell (o := 1) (.int .u64 so)
  have hb3 := Lib.hid (bts_setCell hb2.out g9 1 (.int .u64 so) hne2)
  have K3 := Lib.hid (Bel.store K2.out (p := ⟨g9, 1, none⟩) (by show w.heap.size ≤ g9; rw [HG4.out]; exact hge) (.int .u64 so))
  have D1 := Lib.hid (B42.out.setCell_other (a := ⟨g9, 1, none⟩) hne (.int .u64 so))
  generalize hwx : w2.setCell ⟨g9, 1, none⟩ (.int .u64 so) = y1 at *
  clear hwx c1 f1
  have c2 : ∃ v, y1.cell? ⟨g9, 2, none⟩ = some v := by rw [S1.cell, hz]; exact ⟨_, rfl⟩
  obtain ⟨x2, c2⟩ := c2
  have f2 := S1.frozen 2
  have HB2 := Lib.hid S1
  clear S1
  go_upto_region 7 with (go_at_call 73; with_reducible refine Calls.mono (E16.out _ hb3.out) ?_; rintro e wx ⟨rfl, rfl⟩)
  have S2 := HB2.out.setCell (o := 2) (.int .u64 sa)
  have hb4 := Lib.hid (bts_setCell hb3.out g9 2 (.int .u64 sa) hne2)
  have K4 := Lib.hid (Bel.store K3.out (p := ⟨g9, 2, none⟩) (by show w.heap.size ≤ g9; rw [HG4.out]; exact hge) (.int .u64 sa))
  have D2 := Lib.hid (D1.out.setCell_other (a := ⟨g9, 2, none⟩) hne (.int .u64 sa))
  generalize hwx : y1.setCell ⟨g9, 2, none⟩ (.int .u64 sa) = y2 at *
  clear hwx c2 f2
  have c3 : ∃ v, y2.cell? ⟨g9, 3, none⟩ = some v := by rw [S2.cell, hz]; exact ⟨_, rfl⟩
  obtain ⟨x3, c3⟩ := c3
  have f3 := S2.frozen 3
  have HB3 := Lib.hid S2
  clear S2
  go_upto_region 8 with (go_at_call 73; with_reducible refine Calls.mono (E32.out _ hb4.out) ?_; rintro e wx ⟨rfl, rfl⟩)
  have S3 := HB3.out.setCell (o := 3) (.int .u64 sf)
  have hb5 := Lib.hid (bts_setCell hb4.out g9 3 (.int .u64 sf) hne2)
  have K5 := Lib.hid (Bel.store K4.out (p := ⟨g9, 3, none⟩) (by show w.heap.size ≤ g9; rw [HG4.out]; exact hge) (.int .u64 sf))
  have D3 := Lib.hid (D2.out.setCell_other (a := ⟨g9, 3, none⟩) hne (.int .u64 sf))
  generalize hwx : y2.setCell ⟨g9, 3, none⟩ (.int .u64 sf) = y3 at *
  clear hwx c3 f3
  have c4 : ∃ v, y3.cell? ⟨g9, 4, none⟩ = some v := by rw [S3.cell, hz]; exact ⟨_, rfl⟩
  obtain ⟨x4, c4⟩ := c4
  have f4 := S3.frozen 4
  have HB4 := Lib.hid S3
  clear S3
  go_upto_region 9 with (go_at_call 73; with_reducible refine Calls.mono (E40.out _ hb5.out) ?_; rintro e wx ⟨rfl, rfl⟩)
  have S4 := HB4.out.setCell (o := 4) (.int .u64 sm)
  have hb6 := Lib.hid (bts_setCell hb5.out g9 4 (.int .u64 sm) hne2)
  have K6 := Lib.hid (Bel.store K5.out (p := ⟨g9, 4, none⟩) (by show w.heap.size ≤ g9; rw [HG4.out]; exact hge) (.int .u64 sm))
  have D4 := Lib.hid (D3.out.setCell_other (a := ⟨g9, 4, none⟩) hne (.int .u64 sm))
  generalize hwx : y3.setCell ⟨g9, 4, none⟩ (.int .u64 sm) = y4 at *
  clear hwx c4 f4
  clear E0
  clear E4
  clear E8
  clear E16
  clear E32
  clear E40
  clear hw1
  clear hlt
  clear hne2
  clear hge
  clear HB1
  clear HB2
  clear HB3
  clear HB4
  clear hb2
  clear hb3
  have e1 := S4.cell 1
  have e2 := S4.cell 2
  have e3 := S4.cell 3
  have e4 := S4.cell 4
  have e0 := S4.cell 0
  rw [hz] at e0 e1 e2 e3 e4
  simp only [List.set_cons_succ, List.set_cons_zero, List.getElem?_cons_zero, List.getElem?_cons_succ] at e0 e1 e2 e3 e4
  have dc := D4.out.cell
  have df := D4.out.frozen
  rw [hz] at dc
  have ef := S4.frozen
  have hg9l := S4.lt
  have hg4l := D4.out.lt
  have hgg4 : w.heap.size ≤ g4 := by rw [HG4.out]; exact Nat.le_refl _
  have hgg9 : w.heap.size ≤ g9 := by omega
  clear hz S4
  have hend := Lib.hid (rfl : k = k)
  go_wp2
  all_goals try
    (have HF : segOk L k = false := HBAD.out (by (try simp only [beq_iff_eq, beq_eq_false_iff_ne] at *); omega)
     have HF2 := Lib.hid HF
     clear HF
     refine bodyPost_ret (v := .tuple #[.agg #[.int .i64 0, .int .u64 so, .int .u64 sa, .int .u64 sf, .int .u64 sm], .bool false]) (by simp [results, Tryz.results72, go_sem, dc]) rfl ⟨?_, 0, so, sa, sf, sm, by rw [HF2.out]; try rfl, fun h => by rw [HF2.out] at h; cases h⟩
     exact ((((K6.out.store (p := ⟨g4, 0, none⟩) hgg4 _).store (p := ⟨g4, 1, none⟩) hgg4 _).store (p := ⟨g4, 2, none⟩) hgg4 _).store (p := ⟨g4, 3, none⟩) hgg4 _).store (p := ⟨g4, 4, none⟩) hgg4 _)
  (try simp only [beq_iff_eq, beq_eq_false_iff_ne] at *)
  have h7 : n4 ≤ 7 := by omega
  have HG : segOk L k = true := HGOOD.out (by first | rfl | omega) (by omega) h7 (by omega) (by omega) (by omega) (by omega) (by omega) (by omega) (by omega) (by omega)
  have HG2 := Lib.hid HG
  have HP2 := Lib.hid (HPB.out h7)
  clear HG
  refine bodyPost_ret (v := .tuple #[.agg #[.int .i64 n4, .int .u64 so, .int .u64 sa, .int .u64 sf, .int .u64 sm], .bool true]) (by simp [results, Tryz.results72, go_sem, dc]) rfl ⟨?_, n4, so, sa, sf, sm, by rw [HG2.out]; try rfl, fun _ => by rw [HSEG.out, HP2.out]⟩
  exact (((((K6.out.store (p := ⟨g9, 0, none⟩) hgg9 _).store (p := ⟨g4, 0, none⟩) hgg4 _).store (p := ⟨g4, 1, none⟩) hgg4 _).store (p := ⟨g4, 2, none⟩) hgg4 _).store (p := ⟨g4, 3, none⟩) hgg4 _).store (p := ⟨g4, 4, none⟩) hgg4 _
end Go.Proofs.YtkcjafnaephjiaaGreatDoor
