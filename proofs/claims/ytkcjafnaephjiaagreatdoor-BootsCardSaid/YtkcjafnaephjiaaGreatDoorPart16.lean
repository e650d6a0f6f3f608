/- The headers of an executable: the walk of segments. -/
import Derived.Test.YtkcjafnaephjiaaGreatDoorPart06
set_option linter.unusedVariables false
set_option linter.unusedSimpArgs false
namespace Go.Proofs.YtkcjafnaephjiaaGreatDoor
open Go.RowKit
set_option maxRecDepth 100000

set_option maxHeartbeats 8000000 in
theorem segments_any (b cap : Nat) (L : List Int) (w : World) (hb : Bts w b 0 L) (hcap : L.length ≤ cap) (hlen : L.length ≤ 200000) (hfix : FixVar w) :
    Calls Tryz.prog 84 #[.slice (some ⟨b, 0, none⟩) L.length cap] w fun e w' => Bel w w' ∧ SegRes L w.heap.size e w' := by
  by_cases h64 : 64 ≤ L.length
  · go_enter Tryz.func84, Tryz.ntmps84
    go_wp2_with (refine wpList_load_mid rfl 263 _ rfl 1 0 rfl fixedV _ hfix.1 Tryz.underlying263 rfl (by kernel_rfl) ?_)
    go_loopw [18] (fun i wr => ∃ k : Nat, k ≤ 8 ∧ i = .int .i64 k ∧ (∀ j, j < k → fixedOk L j = true) ∧ Bel w wr) (fun i _ => 8 - (intOf i).toNat)
    case atStart => exact ⟨0, by omega, rfl, fun j hj => by omega, Below.refl _ _⟩
    case round =>
      obtain ⟨k, hk, rfl, hall, kr⟩ := hrel
      have HALL := Lib.hid hall
      clear hall
      by_cases hlt : k < 8
      · obtain ⟨a, s, v, hix, hfo, has, hs8, hs1, hv0, hv1⟩ := fixed_at L k hlt
        have HFO := Lib.hid hfo
        clear hfo
        go_wp2_with (first
          | (refine wpList_store_blk rfl 262 (.tmp 5) (.tmp 20) rfl rfl wr.heap.size [.int .i64 a, .int .i64 s, .int .u64 v] [.int .i64 0, .int .i64 0, .int .u64 0] 262 (Blk.new wr _ _) rfl rfl (by kernel_rfl) rfl (by intro v hv; simp at hv; rcases hv with rfl | rfl | rfl <;> rfl) ?_; intro w1 B1 K1
             have c0 := B1.out.cell 0
             have c1 := B1.out.cell 1
             have c2 := B1.out.cell 2
             simp only [List.getElem?_cons_zero, List.getElem?_cons_succ] at c0 c1 c2))
        have k1 : Bel w w1 := kr.tr ((Below.heap_alloc' wr _).trans (K1.below _ (by simp) (fun k hk => by omega)))
        have hb1 : Bts w1 b 0 L := hb.keep (Keep.of_bel (fun _ => False) k1) (fun _ h => h)
        have hwr : IntKind.i64.wrap ((a : Int) + s) = a + s := by rw [IntKind.wrap_i64]; omega
        have hsl := fun w => slice_part w b L.length cap a s (by omega) (by omega) a (a + s) rfl rfl
        go_quiet ((go_at_call 86; exact Calls.quiet_of_same (number_at b a s _ L _ (hb1.of_cell fun _ _ => rfl) (by omega) hs8)))
        have k2 : Bel w (w1.drewN nq) := bel_drewN k1 nq
        have K2 := Lib.hid k2
        clear k2 k1 hb1 hsl c0 c1 c2
        cases hq : fixedOk L k with
        | false =>
          have HQ := Lib.hid (header_false_of_fixed hlt hq)
          have hne : (numAt L a s != v) = true := by have := HFO.out.symm.trans hq; simp [bne, this]
          clear hq
          go_wp2
          go_ret2
          exact ⟨K2.out, SegRes.header HQ.out⟩
        | true =>
          have HQ := Lib.hid hq
          have hne : (numAt L a s != v) = false := by have := HFO.out.symm.trans hq; simp [bne, this]
          clear hq
          go_wp2
          go_roundw
          case rel => exact ⟨k + 1, by omega, by go_num, upTo_snoc HALL.out HQ.out, K2.out⟩
          case measure => simp [intOf] <;> omega
      · obtain rfl : k = 8 := by omega
        obtain ⟨N, hN⟩ : ∃ N, N = numAt L 56 2 := ⟨_, rfl⟩
        have hb2 : Bts wr b 0 L := hb.keep (Keep.of_bel (fun _ => False) kr) (fun _ h => h)
        have hnum := number_at b 56 2 (cap - 56) L wr hb2 (by omega) (by omega)
        rw [← hN] at hnum
        have hN0 : 0 ≤ N := by rw [hN]; exact (numAt_u64 L hb.byte 56 2 (by omega)).1
        have hN1 : N ≤ 65535 := by
          rw [hN]
          have := numV_bound ((L.drop 56).take 2) (fun x hx => hb.byte x (List.mem_of_mem_drop (List.mem_of_mem_take hx)))
          rw [show ((L.drop 56).take 2).length = 2 from by simp; omega] at this
          unfold numAt
          omega
        have hcap2 : 64 ≤ cap := by omega
        have HN := Lib.hid hN
        have HNUM := Lib.hid hnum
        clear hN hnum
        have hhead : headerOk L = (decide (1 ≤ N) && decide (N ≤ 8) && decide (64 + 56 * N ≤ L.length)) := by
          have : (List.range 8).all (fixedOk L) = true := List.all_eq_true.2 fun i hi => HALL.out i (List.mem_range.1 hi)
          simp [headerOk, h64, this, segN, ← HN.out]
        have HH := Lib.hid hhead
        clear hhead
        by_cases h1 : N < 1
        · have HF : Hid (headerOk L = false) := Lib.hid (HH.out.trans (by simp; omega))
          go_wp2_with (go_at_call 86; refine HNUM.out.mono ?_; rintro e w1 ⟨rfl, rfl⟩)
          go_ret2
          exact ⟨kr, SegRes.header HF.out⟩
        by_cases h2 : 8 < N
        · have HF : Hid (headerOk L = false) := Lib.hid (HH.out.trans (by simp; omega))
          go_wp2_with (go_at_call 86; refine HNUM.out.mono ?_; rintro e w1 ⟨rfl, rfl⟩)
          go_ret2
          exact ⟨kr, SegRes.header HF.out⟩
        by_cases h3 : (L.length : Int) < 64 + 56 * N
        · have HF : Hid (headerOk L = false) := Lib.hid (HH.out.trans (by simp; omega))
          go_wp2_with (go_at_call 86; refine HNUM.out.mono ?_; rintro e w1 ⟨rfl, rfl⟩)
          go_ret2
          exact ⟨kr, SegRes.header HF.out⟩
        have HF : Hid (headerOk L = true) := Lib.hid (HH.out.trans (by simp; omega))
        go_wp2_with (go_at_call 86; refine HNUM.out.mono ?_; rintro e w1 ⟨rfl, rfl⟩)
        obtain ⟨M, rfl⟩ := Int.eq_ofNat_of_zero_le hN0
        have HSN : Hid (segN L = M) := Lib.hid HN.out.symm
        go_loopw [7, 56] (fun l i wr => ∃ k : Nat, k ≤ M ∧ i = .int .i64 k ∧ (∀ j, j < k → segOk L j = true) ∧ wr.ownsRow w.heap.size 235 5 l k ((List.range k).flatMap fun i => (segAt L i).cells) ∧ Bel w wr) (fun _ i _ => M - (intOf i).toNat)
        case atStart => exact ⟨0, Nat.zero_le _, rfl, fun j hj => by omega, ⟨rfl, .inl ⟨rfl, rfl⟩⟩, kr⟩
        case round =>
          obtain ⟨k, hk, rfl, hall, hrow, kr⟩ := hrel
          have HALL := Lib.hid hall
          have HROW := Lib.hid hrow
          clear hall hrow HNUM hb2 HH
          by_cases hlt : k < M
          · have hwr : IntKind.i64.wrap (64 + (k : Int) * 56) = 64 + k * 56 := by rw [IntKind.wrap_i64]; omega
            go_wp2
            obtain ⟨h, hh⟩ : ∃ h : Nat, h = 64 + k * 56 := ⟨_, rfl⟩
            rw [← hh]
            have hle : h + 56 ≤ L.length := by omega
            have kw : Bel w (wr.alloc (.cells #[.slice (some ⟨b, h, none⟩) (L.length - h) (cap - h)] 32)) := kr.ac _
            have kw2 : Bel wr (wr.alloc (.cells #[.slice (some ⟨b, h, none⟩) (L.length - h) (cap - h)] 32)) := Below.heap_alloc' wr _
            have c9 : (wr.alloc (.cells #[.slice (some ⟨b, h, none⟩) (L.length - h) (cap - h)] 32)).cell? ⟨wr.heap.size, 0, none⟩ = some (.slice (some ⟨b, h, none⟩) (L.length - h) (cap - h)) := (Blk.new wr [_] _).cell 0
            have hrow2 := row_bel HROW.out kw2
            have hsz : (wr.alloc (.cells #[.slice (some ⟨b, h, none⟩) (L.length - h) (cap - h)] 32)).heap.size = wr.heap.size + 1 := by simp
            generalize (wr.alloc (.cells #[.slice (some ⟨b, h, none⟩) (L.length - h) (cap - h)] 32)) = w2 at *
            have hb2 : Bts w2 b 0 L := hb.keep (Keep.of_bel (fun _ => False) kw) (fun _ h => h)
            have hgb : wr.heap.size < w2.heap.size := by omega
            have hw0 : w.heap.size ≤ wr.heap.size := kr.size
            generalize wr.heap.size = g at *
            have hbyte : w2.cell? ⟨b, h + 4, none⟩ = some (.int .u8 (L.getD (h + 4) 0)) := by have := hb2.at_ (h + 4) (by omega); rwa [Nat.zero_add] at this
            have HC : ∀ (kk : Nat), kk + 8 ≤ 56 → ∀ W, Bts W b 0 L → W.cell? ⟨g, 0, none⟩ = some (.slice (some ⟨b, h, none⟩) (L.length - h) (cap - h)) → Calls Tryz.prog 105 #[.int .i64 kk, .int .i64 8, .pointer (some ⟨g, 0, none⟩)] W fun e w' => e = .returned (.int .u64 (numAt L (h + kk) 8)) ∧ w' = W :=
              fun kk hkk W hW hc => closure_at b (L.length - h) cap h kk 8 g L W hW hcap hlen (by omega) (by omega) (by omega) hc
            obtain ⟨pb, so, sa, sf, sm, hseg⟩ : ∃ pb so sa sf sm, segAt L k = ⟨pb, so, sa, sf, sm⟩ := ⟨_, _, _, _, _, rfl⟩
            have hseg' := hseg
            simp only [segAt, Seg.mk.injEq, show 64 + 56 * k = h from by omega] at hseg'
            obtain ⟨hpb, hso, hsa, hsf, hsm⟩ := hseg'
            rw [hpb] at hbyte
            have HSEG := Lib.hid hseg
            clear hseg
            have H8 : Hid (∀ W, Bts W b 0 L → W.cell? ⟨g, 0, none⟩ = some (.slice (some ⟨b, h, none⟩) (L.length - h) (cap - h)) → Calls Tryz.prog 105 #[.int .i64 8, .int .i64 8, .pointer (some ⟨g, 0, none⟩)] W fun e w' => e = .returned (.int .u64 so) ∧ w' = W) := Lib.hid (by have := HC 8 (by omega); rw [hso] at this; exact this)
            have H16 : Hid (∀ W, Bts W b 0 L → W.cell? ⟨g, 0, none⟩ = some (.slice (some ⟨b, h, none⟩) (L.length - h) (cap - h)) → Calls Tryz.prog 105 #[.int .i64 16, .int .i64 8, .pointer (some ⟨g, 0, none⟩)] W fun e w' => e = .returned (.int .u64 sa) ∧ w' = W) := Lib.hid (by have := HC 16 (by omega); rw [hsa] at this; exact this)
            have H32 : Hid (∀ W, Bts W b 0 L → W.cell? ⟨g, 0, none⟩ = some (.slice (some ⟨b, h, none⟩) (L.length - h) (cap - h)) → Calls Tryz.prog 105 #[.int .i64 32, .int .i64 8, .pointer (some ⟨g, 0, none⟩)] W fun e w' => e = .returned (.int .u64 sf) ∧ w' = W) := Lib.hid (by have := HC 32 (by omega); rw [hsf] at this; exact this)
            have H40 : Hid (∀ W, Bts W b 0 L → W.cell? ⟨g, 0, none⟩ = some (.slice (some ⟨b, h, none⟩) (L.length - h) (cap - h)) → Calls Tryz.prog 105 #[.int .i64 40, .int .i64 8, .pointer (some ⟨g, 0, none⟩)] W fun e w' => e = .returned (.int .u64 sm) ∧ w' = W) := Lib.hid (by have := HC 40 (by omega); rw [hsm] at this; exact this)
            have HSB := Lib.hid (And.intro hpb (And.intro hso (And.intro hsa (And.intro hsf hsm))))
            clear HC hpb hso hsa hsf hsm
            have HROW2 := Lib.hid hrow2
            have HHH := Lib.hid hh
            have hbl : b < w2.heap.size := hb2.lt (by omega)
            clear hrow2 hh hsz
            have hlen4 : (4 : Int) < ((L.length - h : Nat) : Int) := by omega
            go_cut [11] (fun s11 wx => ∃ g2 : Nat, s11 = .pointer (some ⟨g2, 0, none⟩) ∧ Hid (Blk wx g2 [.int .u8 pb, .int .u64 so, .int .u64 sa, .int .u64 sf, .int .u64 sm] 235) ∧ Hid (Bel w2 wx))
            case first =>
              go_region_held3 (fun w' => w'.cell? ⟨g, 0, none⟩ = some (.slice (some ⟨b, h, none⟩) (L.length - h) (cap - h)) ∧ w'.cell? ⟨b, h + 4, none⟩ = some (.int .u8 pb) ∧ Bts w' b 0 L)
                (first | (go_keep; done) | (try go_split_ands; refine ⟨?_, ?_, ?_⟩ <;> first | assumption | (go_keep; done) | exact bts_drew (by assumption) | exact bts_alloc (by assumption) _ | exact bts_drew (bts_alloc (by assumption) _)))
                (first
                  | (go_at_call 105; with_reducible refine Calls.mono (H8.out _ ?_ ?_) ?_; (go_split_ands; assumption); (go_split_ands; assumption); rintro e w' ⟨rfl, rfl⟩)
                  | (go_at_call 105; with_reducible refine Calls.mono (H16.out _ ?_ ?_) ?_; (go_split_ands; assumption); (go_split_ands; assumption); rintro e w' ⟨rfl, rfl⟩)
                  | (go_at_call 105; with_reducible refine Calls.mono (H32.out _ ?_ ?_) ?_; (go_split_ands; assumption); (go_split_ands; assumption); rintro e w' ⟨rfl, rfl⟩)
                  | (go_at_call 105; with_reducible refine Calls.mono (H40.out _ ?_ ?_) ?_; (go_split_ands; assumption); (go_split_ands; assumption); rintro e w' ⟨rfl, rfl⟩))
              all_goals (go_wp2_with fail; go_meet; exact ⟨w2.heap.size, rfl, Lib.hid (Blk.new w2 _ _), Lib.hid (Below.drew (Below.heap_alloc' w2 _))⟩)
            case rest =>
              obtain ⟨g2, rfl, B2, K2⟩ := hcut
              have hb3 : Bts wc b 0 L := hb2.keep (Keep.of_bel (fun _ => False) K2.out) (fun _ h => h)
              have c93 : wc.cell? ⟨g, 0, none⟩ = some (.slice (some ⟨b, h, none⟩) (L.length - h) (cap - h)) := (World.cell?_of_block (a := ⟨g, 0, none⟩) (K2.out.block g hgb)).trans c9
              have e0 := B2.out.cell 0
              have e1 := B2.out.cell 1
              have e2 := B2.out.cell 2
              have e3 := B2.out.cell 3
              have e4 := B2.out.cell 4
              simp only [List.getElem?_cons_zero, List.getElem?_cons_succ] at e0 e1 e2 e3 e4
              obtain ⟨n0, hn0⟩ : ∃ n0, numAt L h 4 = n0 := ⟨_, rfl⟩
              obtain ⟨n4, hn4⟩ : ∃ n4, numAt L (h + 4) 4 = n4 := ⟨_, rfl⟩
              have C0 : Hid (Calls Tryz.prog 105 #[.int .i64 0, .int .i64 4, .pointer (some ⟨g, 0, none⟩)] wc fun e w' => e = .returned (.int .u64 n0) ∧ w' = wc) := Lib.hid (by
                have := closure_at b (L.length - h) cap h 0 4 g L wc hb3 hcap hlen (by omega) (by omega) (by omega) c93
                rw [Nat.add_zero, hn0] at this
                exact this)
              have C4 : Hid (Calls Tryz.prog 105 #[.int .i64 4, .int .i64 4, .pointer (some ⟨g, 0, none⟩)] wc fun e w' => e = .returned (.int .u64 n4) ∧ w' = wc) := Lib.hid (by
                have := closure_at b (L.length - h) cap h 4 4 g L wc hb3 hcap hlen (by omega) (by omega) (by omega) c93
                rw [hn4] at this
                exact this)
              have bd := numAt_u64 L hb.byte
              have bo : 0 ≤ so ∧ so < 18446744073709551616 := by rw [← HSB.out.2.1]; exact bd _ _ (by omega)
              have ba : 0 ≤ sa ∧ sa < 18446744073709551616 := by rw [← HSB.out.2.2.1]; exact bd _ _ (by omega)
              have bf : 0 ≤ sf ∧ sf < 18446744073709551616 := by rw [← HSB.out.2.2.2.1]; exact bd _ _ (by omega)
              have bm : 0 ≤ sm ∧ sm < 18446744073709551616 := by rw [← HSB.out.2.2.2.2]; exact bd _ _ (by omega)
              obtain ⟨bo0, bo1⟩ := bo
              obtain ⟨ba0, ba1⟩ := ba
              obtain ⟨bf0, bf1⟩ := bf
              obtain ⟨bm0, bm1⟩ := bm
              have HOK : Hid (segOk L k = (n0 == 1 && decide (1 ≤ n4) && decide (n4 ≤ 7) && !(bits .and .u8 pb 3 == 3) && !(sm == 0) && decide (sf ≤ sm) &&
                  decide (so ≤ L.length) && decide (sf ≤ L.length - so) && so % 256 == sa % 256 && decide (sa < 65024) && decide (sm ≤ 65024 - sa))) := Lib.hid (by
                simp only [segOk, HSEG.out, show 64 + 56 * k = h from by rw [HHH.out]; omega, hn0, hn4])
              have KB : Hid (Bel w wc) := Lib.hid (kw.tr K2.out)
              have KR : Hid (wc.ownsRow w.heap.size 235 5 u7 k ((List.range k).flatMap fun i => (segAt L i).cells)) := Lib.hid (row_bel HROW2.out K2.out)
              clear hn0 hn4 bd H8 H16 H32 H40 HROW2 hbyte
              have F0 : Hid (n0 ≠ 1 → segOk L k = false) := Lib.hid fun h => by rw [HOK.out]; simp [h]
              have F1 : Hid (n4 < 1 → segOk L k = false) := Lib.hid fun h => by rw [HOK.out]; simp [show ¬ 1 ≤ n4 from by omega]
              have F2 : Hid (7 < n4 → segOk L k = false) := Lib.hid fun h => by rw [HOK.out]; simp [show ¬ n4 ≤ 7 from by omega]
              have F3 : Hid ((bits .and .u8 pb 3 == 3) = true → segOk L k = false) := Lib.hid fun h => by rw [HOK.out]; simp [h]
              have F4 : Hid ((sm == 0) = true → segOk L k = false) := Lib.hid fun h => by rw [HOK.out]; simp [h]
              have F5 : Hid (sm < sf → segOk L k = false) := Lib.hid fun h => by rw [HOK.out]; simp [show ¬ sf ≤ sm from by omega]
              have F6 : Hid ((L.length : Int) < so → segOk L k = false) := Lib.hid fun h => by rw [HOK.out]; simp [show ¬ so ≤ (L.length : Int) from by omega]
              have F7 : Hid ((L.length : Int) - so < sf → segOk L k = false) := Lib.hid fun h => by rw [HOK.out]; simp [show ¬ sf ≤ (L.length : Int) - so from by omega]
              have F8 : Hid ((so % 256 != sa % 256) = true → segOk L k = false) := Lib.hid fun h => by rw [HOK.out]; simp [show ¬ so % 256 = sa % 256 from by simpa using h]
              have F9 : Hid (65024 ≤ sa → segOk L k = false) := Lib.hid fun h => by rw [HOK.out]; simp [show ¬ sa < 65024 from by omega]
              have F10 : Hid (65024 - sa < sm → segOk L k = false) := Lib.hid fun h => by rw [HOK.out]; simp [show ¬ sm ≤ 65024 - sa from by omega]
              have FT : Hid (n0 = 1 → 1 ≤ n4 → n4 ≤ 7 → (bits .and .u8 pb 3 == 3) = false → (sm == 0) = false → sf ≤ sm → so ≤ (L.length : Int) → sf ≤ (L.length : Int) - so → (so % 256 != sa % 256) = false → sa < 65024 → sm ≤ 65024 - sa → segOk L k = true) := Lib.hid fun h0 h1 h2 h3 h4 h5 h6 h7 h8 h9 h10 => by
                have h8' : so % 256 = sa % 256 := by simpa using h8
                rw [HOK.out]; simp only [h0, h3, h4, h8', h1, h2, h5, h6, h7, h9, h10]; simp
              have HSL : Hid ((List.range (k + 1)).flatMap (fun i => (segAt L i).cells) = (List.range k).flatMap (fun i => (segAt L i).cells) ++ [.int .u8 pb, .int .u64 so, .int .u64 sa, .int .u64 sf, .int .u64 sm]) := Lib.hid (by
                rw [List.range_succ, List.flatMap_append, List.flatMap_singleton, HSEG.out]; rfl)
              by_cases q0 : n0 = 1
              · subst q0
                go_wp2_with (first
                  | (go_at_call 105; with_reducible refine Calls.mono C0.out ?_; rintro e w' ⟨rfl, rfl⟩)
                  | (go_at_call 105; with_reducible refine Calls.mono C4.out ?_; rintro e w' ⟨rfl, rfl⟩)
                  | (refine wpList_load_mid rfl 235 (.tmp 11) rfl g2 0 rfl [.int .u8 pb, .int .u64 so, .int .u64 sa, .int .u64 sf, .int .u64 sm] _ (by have := B2.out.range 0; simpa using this) Tryz.underlying235 rfl (by kernel_rfl) ?_)
                  | (refine wpList_buildSlice_one rfl 231 235 (.tmp 133) rfl [.int .u8 pb, .int .u64 so, .int .u64 sa, .int .u64 sf, .int .u64 sm] rfl Tryz.underlying231 segInfo (by show 0 < 5; omega) (by show 5 ≤ 2 ^ 24; omega) ?_; intro w5 B5 K5)
                  | (refine wpList_append_one rfl (.tmp 132) (.tmp 134) 231 rfl Tryz.underlying231 segInfo (by omega) rfl (row_bel KR.out K5) _ [.int .u8 pb, .int .u64 so, .int .u64 sa, .int .u64 sf, .int .u64 sm] 235 rfl B5.out rfl (by intro v hv; simp at hv; rcases hv with rfl | rfl | rfl | rfl | rfl <;> rfl) (by unfold maxLen; omega) (by omega) (Nat.le_trans KB.out.size K5.size) ?_; intro v6 w6 R6 K6))
                all_goals first
                  | (go_ret2
                     refine ⟨KB.out, SegRes.seg HF.out k (by rw [HSN.out]; omega) ?_⟩
                     first | exact F1.out (by assumption) | exact F2.out (by assumption) | exact F3.out (by assumption) | exact F4.out (by assumption) | exact F5.out (by assumption) | exact F6.out (by assumption) | exact F7.out (by assumption) | exact F8.out (by assumption) | exact F9.out (by assumption) | exact F10.out (by assumption))
                  | skip
                exact ⟨⟨k + 1, by omega, by go_num, upTo_snoc HALL.out (FT.out (by trivial) (by assumption) (by assumption) (by assumption) (by assumption) (by assumption) (by assumption) (by assumption) (by assumption) (by assumption) (by assumption)), by rw [HSL.out]; exact R6,
                  (KB.out.tr K5).trans (K6.below _ (Nat.le_trans KB.out.size K5.size) fun i hi => hi)⟩, by simp only [intOf]; omega⟩
              · have HF0 := Lib.hid (F0.out q0)
                have q1 : (n0 != 1) = true := by simpa using q0
                clear q0
                go_wp2_with (go_at_call 105; with_reducible refine Calls.mono C0.out ?_; rintro e w' ⟨rfl, rfl⟩)
                go_ret2
                exact ⟨KB.out, SegRes.seg HF.out k (by rw [HSN.out]; omega) HF0.out⟩
          · obtain rfl : k = M := by omega
            go_wp2
            go_ret2
            exact ⟨kr, SegRes.ok HF.out (fun i hi => HALL.out i (by rw [HSN.out] at hi; omega)) (by rw [HSN.out]; exact HROW.out)⟩
  · have hh : headerOk L = false := by simp [headerOk, h64]
    have HH := Lib.hid hh
    clear hh
    go_enter Tryz.func84, Tryz.ntmps84
    go_wp2
    go_ret2
    exact ⟨Below.refl _ _, SegRes.header HH.out⟩
end Go.Proofs.YtkcjafnaephjiaaGreatDoor
