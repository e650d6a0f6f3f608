/- The document's Load. -/
import Derived.Test.YtkcjafnaephjiaaGreatDoorPart20
import Derived.Test.YtkcjafnaephjiaaGreatDoorPart22
set_option linter.unusedVariables false
set_option linter.unusedSimpArgs false
namespace Go.Proofs.YtkcjafnaephjiaaGreatDoor
open Go.RowKit Go.Maps
set_option maxRecDepth 100000

def Seg.rcells (s : Seg) : List Value := [.int .i64 s.perm, .int .u64 s.off, .int .u64 s.addr, .int .u64 s.file, .int .u64 s.mem]
theorem segInfoR : (Tryz.prog.info? 215).map (fun i => (i.size, i.bytes, (i.zero.map (·.cells.size)))) = some (5, 40, some 5) := by kernel_rfl
theorem pageInfoR : (Tryz.prog.info? 168).map (fun i => (i.size, i.bytes, (i.zero.map (·.cells.size)))) = some (258, 272, some 258) := by kernel_rfl

/-- What the document's Load answers. -/
structure LoadResR (L : List Int) (base : Nat) (e : Ending) (w' : World) : Prop where
  header : headerOk L = false → e = .returned (.tuple #[.slice none 0 0, .int .u64 0, .int .i64 2])
  segs : headerOk L = true → segsOk L = false → e = .returned (.tuple #[.slice none 0 0, .int .u64 0, .int .i64 3])
  overlap : headerOk L = true → segsOk L = true → (¬ ∀ k, k < (segN L).toNat → FreeAt L k) → e = .returned (.tuple #[.slice none 0 0, .int .u64 0, .int .i64 4])
  entry : headerOk L = true → segsOk L = true → (∀ k, k < (segN L).toNat → FreeAt L k) → entryOk L = false → e = .returned (.tuple #[.slice none 0 0, .int .u64 0, .int .i64 5])
  ok : headerOk L = true → segsOk L = true → (∀ k, k < (segN L).toNat → FreeAt L k) → entryOk L = true → ∃ v, e = .returned (.tuple #[v, .int .u64 (numAt L 24 8), .int .i64 0]) ∧
    w'.ownsRow base 168 258 v (pageNums (spaceTo L (segN L).toNat)).length ((pageNums (spaceTo L (segN L).toNat)).flatMap fun n => refCells n ((spaceTo L (segN L).toNat n).getD Pg.zero))

/-- A page's row while it is filled: the first j bytes are new. -/
def rowMix (f : Nat → Int) (old : List Int) (j : Nat) : List Int := (List.range 256).map fun x => if x < j then f x else old.getD x 0
theorem rowMix_zero (f : Nat → Int) (old : List Int) (h : old.length = 256) : rowMix f old 0 = old := by
  apply List.ext_getElem?
  intro i
  unfold rowMix
  by_cases hi : i < 256
  · simp [List.getElem?_range hi, List.getD_eq_getElem?_getD, List.getElem?_eq_getElem (show i < old.length by omega)]
  · rw [List.getElem?_eq_none (by simp; omega), List.getElem?_eq_none (by omega)]
theorem rowMix_all (f : Nat → Int) (old : List Int) : rowMix f old 256 = (List.range 256).map f := by
  unfold rowMix
  apply List.map_congr_left
  intro j hj
  simp [List.mem_range.1 hj]
theorem rowMix_length (f : Nat → Int) (old : List Int) (j : Nat) : (rowMix f old j).length = 256 := by simp [rowMix]
theorem rowMix_set (f : Nat → Int) (old : List Int) (k : Nat) (hk : k < 256) : ((rowMix f old k).map (Value.int .u8)).set k (.int .u8 (f k)) = (rowMix f old (k + 1)).map (Value.int .u8) := by
  unfold rowMix
  apply List.ext_getElem?
  intro i
  simp only [List.getElem?_set, List.getElem?_map, List.length_map, List.length_range]
  by_cases hi : i < 256
  · rw [List.getElem?_range hi]
    by_cases e : k = i
    · subst e; simp [hk]
    · rw [if_neg e]
      simp only [Option.map_some, Option.some.injEq, Value.int.injEq, true_and]
      by_cases h1 : i < k
      · rw [if_pos h1, if_pos (by omega)]
      · rw [if_neg h1, if_neg (by omega)]
  · rw [List.getElem?_eq_none (by simp; omega)]
    by_cases e : k = i
    · omega
    · rw [if_neg e]; rfl
theorem Blk.mix_set {w : World} {g i : Nat} {perm : Int} {f : Nat → Int} {old : List Int} {k : Nat} {t : TypeId} (h : Blk w g (refCells i ⟨perm, rowMix f old k⟩) t) (hk : k < 256) :
    Blk (w.setCell ⟨g, 2 + k, none⟩ (.int .u8 (f k))) g (refCells i ⟨perm, rowMix f old (k + 1)⟩) t := by
  have := h.setCell (o := 2 + k) (.int .u8 (f k))
  have e : (refCells i ⟨perm, rowMix f old k⟩).set (2 + k) (.int .u8 (f k)) = refCells i ⟨perm, rowMix f old (k + 1)⟩ := by
    unfold refCells
    rw [show 2 + k = k + 1 + 1 from by omega, List.set_cons_succ, List.set_cons_succ, rowMix_set f old k hk]
  rwa [e] at this
theorem Blk.mix_no {w : World} {g i : Nat} {perm : Int} {f : Nat → Int} {old : List Int} {k : Nat} {t : TypeId} (h : Blk w g (refCells i ⟨perm, rowMix f old k⟩) t) (hk : f k = old.getD k 0) :
    Blk w g (refCells i ⟨perm, rowMix f old (k + 1)⟩) t := by
  have e : rowMix f old k = rowMix f old (k + 1) := by
    unfold rowMix
    apply List.map_congr_left
    intro j _
    by_cases h1 : j < k
    · rw [if_pos h1, if_pos (by omega)]
    · by_cases h2 : j = k
      · subst h2; rw [if_neg h1, if_pos (by omega), hk]
      · rw [if_neg h1, if_neg (by omega)]
  rwa [e] at h
theorem Blk.ref_perm {w : World} {g i : Nat} {p : Pg} {t : TypeId} (h : Blk w g (refCells i p) t) (q : Int) :
    Blk (w.setCell ⟨g, 1, none⟩ (.int .i64 q)) g (refCells i ⟨q, p.bytes⟩) t := by
  have := h.setCell (o := 1) (.int .i64 q)
  exact this
theorem built_pageR (n : Int) : Tryz.prog.built 168 [(0, .int .i64 n)] = some (Value.int .i64 n :: .int .i64 0 :: (List.replicate 256 (0 : Int)).map (Value.int .u8)).toArray := by kernel_rfl
theorem refCells_one (n : Nat) (p : Pg) : ∀ v ∈ refCells n p, v.oneCell' = true := by
  intro v hv
  simp only [refCells, List.mem_cons, List.mem_map] at hv
  rcases hv with rfl | rfl | ⟨x, _, rfl⟩ <;> rfl
theorem refCells_length (n : Nat) (p : Pg) (hp : p.bytes.length = 256) : (refCells n p).length = 258 := by simp [refCells, hp]

set_option maxHeartbeats 16000000 in
theorem loadR_any (b o cap : Nat) (L : List Int) (w : World) (hb : Bts w b o L) (hcap : L.length ≤ cap) (hlen : L.length ≤ 200000) :
    Calls Tryz.prog 48 #[.slice (some ⟨b, o, none⟩) L.length cap] w fun e w' => Bel w w' ∧ LoadResR L w.heap.size e w' := by
  have hhd := headerR_any b o cap L w hb hcap hlen
  cases hh : headerOk L with
  | false =>
    have hs2 := hhd.mono (fun e w' h => (⟨h.1.elim fun n hn => ⟨n, by rw [hn.1, hh]⟩, h.2.symm⟩ : (∃ n, e = .returned (.tuple #[.int .i64 n, .bool false])) ∧ w = w'))
    have HS := Lib.hid hs2
    have HH := Lib.hid hh
    clear hhd hs2 hh
    go_enter Tryz.func48, Tryz.ntmps48
    go_wp2_with (go_at_call 71; with_reducible refine Calls.mono HS.out ?_; rintro e w1 ⟨⟨n, rfl⟩, rfl⟩)
    go_ret3
    have hx : headerOk L ≠ true := by rw [HH.out]; decide
    exact ⟨Below.refl _ _, ⟨fun _ => rfl, fun h => absurd h hx, fun h => absurd h hx, fun h => absurd h hx, fun h => absurd h hx⟩⟩
  | true =>
    obtain ⟨N, hN⟩ : ∃ N, (segN L).toNat = N := ⟨_, rfl⟩
    have hhead : 1 ≤ segN L ∧ segN L ≤ 8 ∧ 64 + 56 * segN L ≤ L.length := by
      have := hh
      simp only [headerOk, Bool.and_eq_true, decide_eq_true_eq] at this
      exact ⟨this.1.1.2, this.1.2, this.2⟩
    have hs2 := hhd.mono (fun e w' h => (⟨h.1.elim fun n hn => by rw [hn.1, hh, hn.2 hh, show segN L = (N : Int) from by omega], h.2.symm⟩ : (e = .returned (.tuple #[.int .i64 (N : Int), .bool true])) ∧ w = w'))
    have HS := Lib.hid hs2
    have HH := Lib.hid hh
    have hN8 : N ≤ 8 := by omega
    have hN1 : 1 ≤ N := by omega
    have hNL : 64 + 56 * N ≤ L.length := by omega
    have HN := Lib.hid hN
    have hsk : ∀ k W, k < N → Bts W b o L → _ := fun k W hk hW => readSeg_any b o cap k L W hW hcap hlen (by omega)
    have HSK := Lib.hid hsk
    have hy : headerOk L ≠ false := by rw [hh]; decide
    have HY := Lib.hid hy
    clear hhd hs2 hh hN hhead hsk hy
    go_enter Tryz.func48, Tryz.ntmps48
    go_wp2_with (go_at_call 71; with_reducible refine Calls.mono HS.out ?_; rintro e w1 ⟨rfl, rfl⟩)
    go_loopw [7, 8] (fun l i wr => ∃ k : Nat, k ≤ N ∧ i = .int .i64 k ∧ (∀ j, j < k → segOk L j = true) ∧ wr.ownsRow w.heap.size 215 5 l k ((List.range k).flatMap fun i => (segAt L i).rcells) ∧ Bel w wr) (fun _ i _ => N - (intOf i).toNat)
    case atStart => exact ⟨0, Nat.zero_le _, rfl, fun j hj => by omega, ⟨rfl, .inl ⟨rfl, rfl⟩⟩, Below.refl _ _⟩
    case round =>
      obtain ⟨k, hk, rfl, hall, hrow, kr⟩ := hrel
      have HALL := Lib.hid hall
      have HROW := Lib.hid hrow
      have hbr := Lib.hid (hb.keep (Keep.of_bel (fun _ => False) kr) (fun _ h => h))
      clear hall hrow
      by_cases hlt : k < N
      · cases hok : segOk L k with
        | false =>
          have hc := Lib.hid ((HSK.out k wr hlt hbr.out).mono (fun e w' h => (⟨h.2.elim fun p hp => hp.elim fun o ho => ho.elim fun a ha => ha.elim fun f hf => hf.elim fun m hm => ⟨p, o, a, f, m, by rw [hm.1, hok]⟩, h.1⟩ : (∃ p o a f m, e = .returned (.tuple #[.agg #[.int .i64 p, .int .u64 o, .int .u64 a, .int .u64 f, .int .u64 m], .bool false])) ∧ Bel wr w')))
          have HOK := Lib.hid hok
          clear hok
          go_wp2_with (go_at_call 72; with_reducible refine Calls.mono hc.out ?_; rintro e w1 ⟨⟨p, o, a, f, m, rfl⟩, k1⟩)
          go_ret3
          have hz : segsOk L ≠ true := fun h => by have := List.all_eq_true.1 h k (List.mem_range.2 (by rw [HN.out]; exact hlt)); rw [HOK.out] at this; cases this
          exact ⟨(kr.tr k1).ac _, ⟨fun h => absurd h HY.out, fun _ _ => rfl, fun _ h => absurd h hz, fun _ h => absurd h hz, fun _ h => absurd h hz⟩⟩
        | true =>
          have hc := Lib.hid ((HSK.out k wr hlt hbr.out).mono (fun e w' h => (⟨h.2.elim fun p hp => hp.elim fun o ho => ho.elim fun a ha => ha.elim fun f hf => hf.elim fun m hm => by rw [hm.1, hok, hm.2 hok], h.1⟩ : (e = .returned (.tuple #[.agg #[.int .i64 (segAt L k).perm, .int .u64 (segAt L k).off, .int .u64 (segAt L k).addr, .int .u64 (segAt L k).file, .int .u64 (segAt L k).mem], .bool true])) ∧ Bel wr w')))
          have HOK := Lib.hid hok
          have HSL : Hid ((List.range (k + 1)).flatMap (fun i => (segAt L i).rcells) = (List.range k).flatMap (fun i => (segAt L i).rcells) ++ (segAt L k).rcells) := Lib.hid (by
            rw [List.range_succ, List.flatMap_append, List.flatMap_singleton])
          clear hok
          obtain ⟨⟨pb, so, sa, sf, sm⟩, hseg⟩ : ∃ s, segAt L k = s := ⟨_, rfl⟩
          rw [hseg] at hc HSL
          have HSEG := Lib.hid hseg
          clear hseg
          have hz := kr.size
          go_wp2_with (first
            | (go_at_call 72; with_reducible refine Calls.mono hc.out ?_; rintro e w1 ⟨rfl, k1⟩)
            | (refine wpList_buildSlice_one rfl 213 215 (.tmp 44) rfl [.int .i64 pb, .int .u64 so, .int .u64 sa, .int .u64 sf, .int .u64 sm] rfl Tryz.underlying213 segInfoR (by show 0 < 5; omega) (by show 5 ≤ 2 ^ 24; omega) ?_; intro w5 B5 K5)
            | (refine wpList_append_one rfl (.tmp 43) (.tmp 45) 213 rfl Tryz.underlying213 segInfoR (by omega) rfl (row_bel (row_bel HROW.out k1) ((Below.heap_alloc' w1 _).trans (K5.mono (by simp)))) _ [.int .i64 pb, .int .u64 so, .int .u64 sa, .int .u64 sf, .int .u64 sm] 215 rfl B5.out rfl (by intro v hv; simp at hv; rcases hv with rfl | rfl | rfl | rfl | rfl <;> rfl) (by unfold maxLen; omega) (by omega) (Nat.le_trans (Nat.le_trans hz k1.size) (Nat.le_trans (by simp) K5.size)) ?_; intro v6 w6 R6 K6))
          have KB := (((kr.tr k1).tr (Below.heap_alloc' w1 _)).tr K5)
          exact ⟨⟨k + 1, by omega, by go_num, upTo_snoc HALL.out HOK.out, by rw [HSL.out]; exact R6, KB.trans (K6.below _ KB.size fun i hi => hi)⟩, by simp only [intOf]; omega⟩
      · obtain rfl : k = N := by omega
        obtain ⟨ps, cp, rfl, hcp, hcm, hps⟩ := row_slice HROW.out
        obtain ⟨gs, rfl, hb0, hb1, hcl, _⟩ := hps.resolve_left (by omega)
        have hcl' : ∀ j, j < k → wr.rangeAt gs (j * 5) (segAt L j).rcells := fun j hj i v hv => by
          have hi : i < 5 := by have := (List.getElem?_eq_some_iff.1 hv).1; simpa [Seg.rcells] using this
          rw [hcl _ (by rw [flat_length _ 5 _ (fun _ _ => rfl)]; simp; omega), flat_at _ 5 _ (fun _ _ => rfl) j i hi, List.getElem?_range hj]
          exact hv
        have HCL := Lib.hid hcl'
        have HFIT : Hid (∀ j, j < k → SegFits L (segAt L j)) := Lib.hid fun j hj => segFits L hb.byte j (by omega) (HALL.out j hj)
        have HSO : Hid (segsOk L = true) := Lib.hid (List.all_eq_true.2 fun j hj => HALL.out j (by have := List.mem_range.1 hj; rw [HN.out] at this; exact this))
        have HKR := Lib.hid kr
        have hww := kr.size
        obtain ⟨w2, rfl⟩ : ∃ w2 : World, w2 = wr := ⟨_, rfl⟩
        clear hps hcl hcl' HROW kr
        go_wp2
        go_loopw [11, 12] (fun l i wr => ∃ i0 : Nat, i0 ≤ 256 ∧ i = .int .i64 i0 ∧ (∀ n, n < i0 → cnt L k n ≤ 1) ∧ wr.ownsRow w2.heap.size 168 258 l (docNums L k i0).length (docCells L k (docNums L k i0)) ∧ Bel w2 wr) (fun _ i _ => 256 - (intOf i).toNat)
        case atStart => exact ⟨0, Nat.zero_le _, rfl, fun n hn => by omega, ⟨rfl, .inl ⟨rfl, rfl⟩⟩, Below.refl _ _⟩
        case round =>
          obtain ⟨i, hi, rfl, hone, hprow, kr⟩ := hrel
          have HONE := Lib.hid hone
          have HPROW := Lib.hid hprow
          have HKR2 := Lib.hid kr
          clear hone hprow kr
          by_cases hilt : i < 256
          · obtain ⟨zs, hzs⟩ : ∃ zs : List Value, zs = refCells i (pgTo L i 0) := ⟨_, rfl⟩
            have HBP : Hid (Tryz.prog.built 168 [(0, .int .i64 (i : Int))] = some zs.toArray) := Lib.hid (by rw [hzs]; exact built_pageR i)
            have HZL : Hid (zs.length = 258) := Lib.hid (by rw [hzs]; exact refCells_length _ _ Pg.zero_wf.len)
            have HZO : Hid (∀ v ∈ zs, v.oneCell' = true) := Lib.hid (by rw [hzs]; exact refCells_one _ _)
            obtain ⟨z0, hz0⟩ : ∃ z0 : List Value, z0 = refCells 0 Pg.zero := ⟨_, rfl⟩
            have hz : ∀ w, (zeroValue 168).run Tryz.prog w = .ok (.agg z0.toArray) w := fun w => by
              rw [show z0 = Value.int .i64 0 :: .int .i64 0 :: List.replicate 256 (Value.int .u8 0) from by rw [hz0]; simp [refCells, Pg.zero]]
              kernel_rfl
            have HZ0 : Hid (z0.length = 258) := Lib.hid (by rw [hz0]; exact refCells_length _ _ Pg.zero_wf.len)
            have HZS := Lib.hid hzs
            clear hzs hz0
            go_upto_region 17 with (first
              | (refine wpList_buildTo rfl 168 _ rfl (some 52) rfl zs.toArray (by simp only [List.map_toArray, List.map_cons, List.map_nil]; exact HBP.out) ?_)
              | (refine wpList_store_blk rfl 168 (.tmp 13) (.tmp 52) rfl rfl wr.heap.size zs z0 168 (Blk.new wr z0 _) rfl rfl (by rw [HZL.out]; kernel_rfl) (HZ0.out.trans HZL.out.symm) HZO.out ?_; intro w3 B3 K3))
            have kc : Bel wr w3 := (Below.heap_alloc' wr _).trans (K3.below _ (by simp) (fun k hk => by omega))
            have K23 := Lib.hid (HKR2.out.tr kc)
            have hg13 : w2.heap.size ≤ wr.heap.size := HKR2.out.size
            have HPROW3 : Hid (∀ w', Keep (fun q => q = wr.heap.size) w3 w' → w'.ownsRow w2.heap.size 168 258 u11 (docNums L k i).length (docCells L k (docNums L k i))) := Lib.hid fun w' hk' => row_keep_ne HPROW.out kc hk' (Nat.le_refl _)
            have HB3 : Hid (Blk w3 wr.heap.size (refCells i (pgTo L i 0)) 168) := Lib.hid (by rw [← HZS.out]; exact B3.out)
            clear kc K3 B3 HBP HZL HZO HPROW
            generalize wr.heap.size = g13 at *
            have hb13 : b < g13 := Nat.lt_of_lt_of_le (hb.lt (by omega)) (Nat.le_trans hww hg13)
            have hs13 : gs ≠ g13 := by omega
            go_wp2
            go_loopw [14, 15] (fun c x wx => ∃ j : Nat, j ≤ k ∧ x = .int .i64 j ∧ c = .int .i64 (cnt L j i : Nat) ∧ Blk wx g13 (refCells i (pgTo L i j)) 168 ∧ Keep (fun y => y = g13) w3 wx) (fun _ x _ => k - (intOf x).toNat)
            case atStart => exact ⟨0, Nat.zero_le _, rfl, rfl, HB3.out, Keep.refl _ _⟩
            case round =>
              obtain ⟨j, hj, rfl, rfl, hbj, hkj⟩ := hrel
              have hcj := cnt_le L i j
              by_cases hjlt : j < k
              · have hf := HFIT.out j hjlt
                have hr := HCL.out j hjlt
                have hwfj := Lib.hid (pgTo_wf L hb.byte i j (fun x hx => HFIT.out x (by omega)))
                obtain ⟨⟨pb, so, sa, sf, sm⟩, hseg⟩ : ∃ s, segAt L j = s := ⟨_, rfl⟩
                have HC1 : Hid (cnt L (j + 1) i = cnt L j i + if Seg.cov ⟨pb, so, sa, sf, sm⟩ i then 1 else 0) := Lib.hid (by rw [← hseg]; rfl)
                have HP1 : Hid (pgTo L i (j + 1) = if Seg.cov ⟨pb, so, sa, sf, sm⟩ i then ⟨pb, (List.range 256).map (ovB L ⟨pb, so, sa, sf, sm⟩ i (pgTo L i j).bytes)⟩ else pgTo L i j) := Lib.hid (by simp only [pgTo]; rw [hseg])
                rw [hseg] at hf hr
                obtain ⟨⟨hp0, hp1⟩, ho, ha, hfi, hfit, hm1, hfm, htop⟩ := hf
                simp only at hp0 hp1 ho ha hfi hfit hm1 hfm htop
                have HR : Hid (wr.rangeAt gs (j * 5) [.int .i64 pb, .int .u64 so, .int .u64 sa, .int .u64 sf, .int .u64 sm]) := Lib.hid (fun x v hv => by
                  rw [hkj.cell ⟨gs, j * 5 + x, none⟩ (Nat.lt_of_lt_of_le hb1 K23.out.size) hs13, World.cell?_of_block (a := ⟨gs, j * 5 + x, none⟩) (K23.out.block gs hb1)]
                  exact hr x v hv)
                have HBJ := Lib.hid hbj
                have HKJ := Lib.hid hkj
                clear hseg hr hbj hkj
                go_upto_region 22 with (refine wpList_load_mid rfl 215 (.tmp 60) rfl gs (j * 5) rfl [.int .i64 pb, .int .u64 so, .int .u64 sa, .int .u64 sf, .int .u64 sm] _ HR.out Tryz.underlying215 rfl (by kernel_rfl) ?_)
                have k4 : Bel wr (wr.alloc (.cells #[.int .i64 pb, .int .u64 so, .int .u64 sa, .int .u64 sf, .int .u64 sm] 215)) := Below.heap_alloc' wr _
                have b16 := Blk.new wr [.int .i64 pb, .int .u64 so, .int .u64 sa, .int .u64 sf, .int .u64 sm] 215
                have hne16 : g13 ≠ wr.heap.size := by have := HBJ.out.lt; omega
                generalize (wr.alloc (.cells #[.int .i64 pb, .int .u64 so, .int .u64 sa, .int .u64 sf, .int .u64 sm] 215)) = w4 at *
                have HK4 := Lib.hid (HKJ.out.tr (Keep.of_bel _ k4))
                have HBJ4 := Lib.hid (HBJ.out.bel k4)
                clear k4
                generalize wr.heap.size = g16 at *
                have e0 := b16.cell 0
                have e2 := b16.cell 2
                have e4 := b16.cell 4
                simp only [List.getElem?_cons_zero, List.getElem?_cons_succ] at e0 e2 e4
                have HB16 := Lib.hid b16
                clear b16
                have hc8 : cnt L j i < 100 := by omega
                by_cases c1 : (i : Int) < sa / 256
                · have hcov : Seg.cov ⟨pb, so, sa, sf, sm⟩ i = false := by
                    rw [Bool.eq_false_iff]; intro h; have h2 := (Seg.cov_iff.1 h).1; unfold Seg.first at h2; dsimp only at h2; omega
                  rw [hcov] at HC1 HP1
                  have HC2 : Hid (cnt L (j + 1) i = cnt L j i) := Lib.hid (by rw [HC1.out]; simp)
                  have HP2 : Hid (pgTo L i (j + 1) = pgTo L i j) := Lib.hid (by rw [HP1.out]; simp)
                  clear hcov HC1 HP1
                  go_wp2
                  go_roundw
                  case rel => exact ⟨j + 1, by omega, by go_num, by rw [HC2.out], by rw [HP2.out]; exact HBJ4.out, HK4.out⟩
                  case measure => simp [intOf] <;> omega
                · by_cases c2 : (sa + sm - 1) / 256 < (i : Int)
                  · have hcov : Seg.cov ⟨pb, so, sa, sf, sm⟩ i = false := by
                      rw [Bool.eq_false_iff]; intro h; have h2 := (Seg.cov_iff.1 h).2; unfold Seg.last at h2; dsimp only at h2; omega
                    rw [hcov] at HC1 HP1
                    have HC2 : Hid (cnt L (j + 1) i = cnt L j i) := Lib.hid (by rw [HC1.out]; simp)
                    have HP2 : Hid (pgTo L i (j + 1) = pgTo L i j) := Lib.hid (by rw [HP1.out]; simp)
                    clear hcov HC1 HP1
                    go_wp2
                    go_roundw
                    case rel => exact ⟨j + 1, by omega, by go_num, by rw [HC2.out], by rw [HP2.out]; exact HBJ4.out, HK4.out⟩
                    case measure => simp [intOf] <;> omega
                  · have hcov : Seg.cov ⟨pb, so, sa, sf, sm⟩ i = true := by
                      refine Seg.cov_iff.2 ?_; unfold Seg.first Seg.last; dsimp only; omega
                    rw [hcov] at HC1 HP1
                    have HC2 : Hid (cnt L (j + 1) i = cnt L j i + 1) := Lib.hid (by rw [HC1.out]; simp)
                    have HP2 : Hid (pgTo L i (j + 1) = ⟨pb, (List.range 256).map (ovB L ⟨pb, so, sa, sf, sm⟩ i (pgTo L i j).bytes)⟩) := Lib.hid (by rw [HP1.out]; simp)
                    clear hcov HC1 HP1
                    obtain ⟨old, hold⟩ : ∃ old, (pgTo L i j).bytes = old := ⟨_, rfl⟩
                    have hol : old.length = 256 := by rw [← hold]; exact hwfj.out.len
                    have hcp : w4.cell? ⟨g13, 1, none⟩ = some (.int .i64 (pgTo L i j).perm) := HBJ4.out.cell 1
                    have hfp := HBJ4.out.frozen 1
                    have hl13 := HBJ4.out.lt
                    go_upto_region 27 with fail
                    have B5 := HBJ4.out.ref_perm pb
                    have K5 := HK4.out.tr (Keep.setCell w4 g13 1 (.int .i64 pb))
                    have B165 := HB16.out.setCell_other (a := ⟨g13, 1, none⟩) hne16.symm (.int .i64 pb)
                    rw [hold, ← rowMix_zero (ovB L ⟨pb, so, sa, sf, sm⟩ i old) old hol] at B5
                    rw [hold] at HP2
                    clear hcp hfp hold
                    generalize w4.setCell ⟨g13, 1, none⟩ (.int .i64 pb) = w5 at *
                    have HB5 := Lib.hid B5
                    have HK5 := Lib.hid K5
                    have HB165 := Lib.hid B165
                    have HBT5 := Lib.hid ((hbr.out.keep (Keep.of_bel (fun _ => False) K23.out) (fun _ h => h)).keep K5 (fun _ => by omega))
                    clear B5 K5 B165 e0 e2 e4
                    go_wp2
                    go_loopw [19] (fun x wx => ∃ y : Nat, y ≤ 256 ∧ x = .int .i64 y ∧ Blk wx g13 (refCells i ⟨pb, rowMix (ovB L ⟨pb, so, sa, sf, sm⟩ i old) old y⟩) 168 ∧ Keep (fun q => q = g13) w5 wx) (fun x _ => 256 - (intOf x).toNat)
                    case atStart => exact ⟨0, Nat.zero_le _, rfl, HB5.out, Keep.refl _ _⟩
                    case round =>
                      obtain ⟨y, hy, rfl, hby, hky⟩ := hrel
                      by_cases hylt : y < 256
                      · have b16 := HB165.out.keep hky hne16.symm
                        have e1 := b16.cell 1
                        have e2 := b16.cell 2
                        have e3 := b16.cell 3
                        simp only [List.getElem?_cons_zero, List.getElem?_cons_succ] at e1 e2 e3
                        have HOV : Hid (ovB L ⟨pb, so, sa, sf, sm⟩ i old y = if sa ≤ (i : Int) * 256 + y ∧ (i : Int) * 256 + y - sa < sf then L.getD (so + ((i : Int) * 256 + y) - sa).toNat 0 else old.getD y 0) := Lib.hid rfl
                        have HBTR := Lib.hid (HBT5.out.keep hky (fun _ => by omega))
                        have fz := hby.frozen (2 + y)
                        have cz : ∃ v, wr.cell? ⟨g13, 2 + y, none⟩ = some v := by
                          rw [hby.cell]
                          exact ⟨_, List.getElem?_eq_getElem (by rw [refCells_length _ _ (rowMix_length _ _ _)]; omega)⟩
                        obtain ⟨vz, cz⟩ := cz
                        have hl13 := hby.lt
                        have HBY := Lib.hid hby
                        have HKY := Lib.hid hky
                        clear b16 hby hky
                        by_cases d1 : sa ≤ (i : Int) * 256 + y
                        · by_cases d2 : (i : Int) * 256 + y - sa < sf
                          · have hbt := HBTR.out.at_ (so + ((i : Int) * 256 + y) - sa).toNat (by omega)
                            have HSE := Lib.hid (HOV.out.trans (if_pos ⟨d1, d2⟩))
                            generalize hx : L.getD (so + ((i : Int) * 256 + y) - sa).toNat 0 = x at *
                            have HX := Lib.hid hx
                            clear hx
                            go_wp2
                            go_roundw
                            case rel => exact ⟨y + 1, by omega, by go_num, by have := HBY.out.mix_set hylt; rw [HSE.out] at this; exact this, HKY.out.tr (Keep.setCell _ _ _ _)⟩
                            case measure => simp [intOf] <;> omega
                          · have HSE := Lib.hid (HOV.out.trans (if_neg fun h => d2 h.2))
                            go_wp2
                            go_roundw
                            case rel => exact ⟨y + 1, by omega, by go_num, HBY.out.mix_no HSE.out, HKY.out⟩
                            case measure => simp [intOf] <;> omega
                        · have HSE := Lib.hid (HOV.out.trans (if_neg fun h => d1 h.1))
                          go_wp2
                          go_roundw
                          case rel => exact ⟨y + 1, by omega, by go_num, HBY.out.mix_no HSE.out, HKY.out⟩
                          case measure => simp [intOf] <;> omega
                      · obtain rfl : y = 256 := by omega
                        rw [rowMix_all] at hby
                        have HBY := Lib.hid hby
                        have HKY := Lib.hid hky
                        clear hby hky
                        go_wp2
                        go_roundw
                        case rel => exact ⟨j + 1, by omega, by go_num, by rw [HC2.out]; go_num, by rw [HP2.out]; exact HBY.out, HK5.out.tr HKY.out⟩
                        case measure => simp [intOf] <;> omega
              · obtain rfl : j = k := by omega
                have HBJ := Lib.hid hbj
                have HKJ := Lib.hid hkj
                have HBW : Hid (Bel w2 wr) := Lib.hid (Below.trans K23.out (hkj.below _ (K23.out.size) (fun q hq => by omega)))
                have HPROWJ := Lib.hid (HPROW3.out wr hkj)
                have hwfj := Lib.hid (pgTo_wf L hb.byte i j (fun x hx => HFIT.out x (by omega)))
                have hdl := docNums_length L j i
                clear hbj hkj
                by_cases q1 : 1 < cnt L j i
                · have q1' : (1 : Int) < ((cnt L j i : Nat) : Int) := by omega
                  have hno := Lib.hid (show ¬ ∀ q, q < (segN L).toNat → FreeAt L q by rw [HN.out, free_iff]; intro h; have := h i; omega)
                  go_wp2
                  go_ret3
                  exact ⟨HKR.out.tr HBW.out, ⟨fun h => absurd h HY.out, fun _ h => absurd HSO.out (by rw [h]; decide), fun _ _ _ => rfl, fun _ _ h => absurd h hno.out, fun _ _ h => absurd h hno.out⟩⟩
                · have hle1 := Lib.hid (show cnt L j i ≤ 1 by omega)
                  by_cases q2 : cnt L j i = 1
                  · have HDN := docNums_succ L j i
                    rw [if_pos q2] at HDN
                    have HDC : Hid (docCells L j (docNums L j (i + 1)) = docCells L j (docNums L j i) ++ refCells i (pgTo L i j)) := Lib.hid (by
                      rw [HDN]; unfold docCells; rw [List.flatMap_append, List.flatMap_singleton])
                    have HDL : Hid ((docNums L j (i + 1)).length = (docNums L j i).length + 1) := Lib.hid (by rw [HDN]; simp)
                    obtain ⟨cs, hcs⟩ : ∃ cs, cs = refCells i (pgTo L i j) := ⟨_, rfl⟩
                    have HCL : Hid (cs.length = 258) := Lib.hid (by rw [hcs]; exact refCells_length _ _ hwfj.out.len)
                    have HCO : Hid (∀ v ∈ cs, v.oneCell' = true) := Lib.hid (by rw [hcs]; exact refCells_one _ _)
                    rw [← hcs] at HDC HBJ
                    have q1' : ((cnt L j i : Nat) : Int) ≤ 1 := by omega
                    have q2' : (((cnt L j i : Nat) : Int) == 1) = true := by rw [q2]; rfl
                    have hwb := HBW.out.size
                    clear hcs q2 q1 HDN
                    go_wp2_with (first
                      | (refine wpList_load_mid rfl 168 (.tmp 13) rfl g13 0 rfl cs _ (by have := HBJ.out.range 0; simpa using this) Tryz.underlying168 rfl (by rw [HCL.out]; kernel_rfl) ?_)
                      | (refine wpList_buildSlice_one rfl 80 168 (.tmp 127) rfl cs rfl Tryz.underlying80 (by rw [HCL.out]; exact pageInfoR) (by rw [HCL.out]; omega) (by rw [HCL.out]; decide) ?_; intro w5 B5 K5)
                      | (refine wpList_append_one rfl (.tmp 126) (.tmp 128) 80 rfl Tryz.underlying80 pageInfoR (by omega) rfl (row_bel HPROWJ.out K5) _ cs 168 rfl B5.out HCL.out HCO.out (by unfold maxLen; omega) (by omega) (Nat.le_trans hwb K5.size) ?_; intro v6 w6 R6 K6))
                    exact ⟨⟨i + 1, by omega, by go_num, upTo_snoc HONE.out hle1.out, by rw [HDC.out, HDL.out]; exact R6, (HBW.out.tr K5).trans (K6.below _ (Nat.le_trans hwb K5.size) fun q hq => hq)⟩, by simp only [intOf]; omega⟩
                  · have HDN := docNums_succ L j i
                    rw [if_neg q2, List.append_nil] at HDN
                    have HDN2 := Lib.hid HDN
                    have q1' : ((cnt L j i : Nat) : Int) ≤ 1 := by omega
                    have q2' : (((cnt L j i : Nat) : Int) == 1) = false := by simp; omega
                    clear q2 q1 HDN
                    go_wp2
                    go_roundw
                    case rel => exact ⟨i + 1, by omega, by go_num, upTo_snoc HONE.out hle1.out, by rw [HDN2.out]; exact HPROWJ.out, HBW.out⟩
                    case measure => simp [intOf] <;> omega
          · obtain rfl : i = 256 := by omega
            have hall1 : ∀ n, cnt L k n ≤ 1 := fun n => by
              by_cases hn : n < 256
              · exact HONE.out n hn
              · rw [cnt_out L n (by omega) k HFIT.out]; omega
            have HFREE : Hid (∀ q, q < (segN L).toNat → FreeAt L q) := Lib.hid (by rw [HN.out, free_iff]; exact hall1)
            have HBW : Hid (Bel w wr) := Lib.hid (HKR.out.tr HKR2.out)
            have hbr2 := hb.keep (Keep.of_bel (fun _ => False) HBW.out) (fun _ h => h)
            obtain ⟨E, hE⟩ : ∃ E, numAt L 24 8 = E := ⟨_, rfl⟩
            have hEb := numAt_u64 L hb.byte 24 8 (by omega)
            rw [hE] at hEb
            obtain ⟨hE0, hE1⟩ := hEb
            have hnum := numberR_at b o 24 8 (cap - 24) L wr hbr2 (by omega) (by omega)
            rw [hE] at hnum
            have HNUM := Lib.hid (hnum.mono fun e w' h => And.intro h.1 h.2.symm)
            have hent := Lib.hid (entry_doc L k HN.out HFIT.out hb.byte hall1 E hE hE0)
            have HALLN := Lib.hid (docNums_all L k hall1)
            have HALLC := Lib.hid (docCells_all L k)
            have HE := Lib.hid hE
            have HCAP : 64 ≤ cap := by omega
            obtain ⟨ns, hns⟩ : ∃ ns, docNums L k 256 = ns := ⟨_, rfl⟩
            have hnl := docNums_length L k 256
            have HNIN : Hid (∀ n ∈ ns, n < 256) := Lib.hid (fun n hn => by rw [← hns] at hn; exact List.mem_range.1 (List.mem_filter.1 hn).1)
            rw [hns] at HPROW hent HALLN HALLC hnl
            clear hE hall1 hnum hns hbr2
            by_cases q : E % 4 = 0
            · by_cases r : E < 65536
              · have HO2 : Hid (entryOk L = ns.any (docFind L k E)) := Lib.hid (by rw [hent.out]; simp [q, r])
                have q1 : (E % 4 != 0) = false := by simp [q]
                obtain ⟨ps, cp, rfl, hcp, hcm, hps⟩ := row_slice HPROW.out
                have HPS := Lib.hid hps
                clear hent q hps
                go_wp2_with (go_at_call 73; with_reducible refine Calls.mono HNUM.out ?_; rintro e wx ⟨rfl, rfl⟩)
                go_loop [22] (fun x => ∃ y : Nat, y ≤ ns.length ∧ x = .int .i64 y ∧ ∀ z, z < y → docFind L k E (ns.getD z 0) = false) (fun x => ns.length - (intOf x).toNat)
                case atStart => exact ⟨0, Nat.zero_le _, rfl, fun z hz => by omega⟩
                case round =>
                  obtain ⟨y, hy, rfl, hno⟩ := hrel
                  have HNF := Lib.hid hno
                  clear hno
                  by_cases hylt : y < ns.length
                  · obtain ⟨gp, rfl, hb0, hb1x, hcl, _⟩ := HPS.out.resolve_left (by omega)
                    have lr : ∀ n ∈ ns, (refCells n (pgTo L n k)).length = 258 := fun n _ => refCells_length _ _ (pgTo_wf L hb.byte n k HFIT.out).len
                    have hg : ns.getD y 0 = ns[y] := by rw [List.getD_eq_getElem?_getD, List.getElem?_eq_getElem hylt]; rfl
                    have ca : ∀ j, j < 258 → wr.cell? ⟨gp, y * 258 + j, none⟩ = (refCells ns[y] (pgTo L ns[y] k))[j]? := fun j hj => by
                      rw [hcl _ (by unfold docCells; rw [flat_length _ 258 ns lr]; omega)]
                      unfold docCells
                      rw [flat_at _ 258 ns lr y j hj, List.getElem?_eq_getElem hylt]; rfl
                    have a0 : wr.cell? ⟨gp, y * 258, none⟩ = some (.int .i64 (ns[y] : Nat)) := ca 0 (by omega)
                    have a1 : wr.cell? ⟨gp, y * 258 + 1, none⟩ = some (.int .i64 (pgTo L ns[y] k).perm) := ca 1 (by omega)
                    have hwf := pgTo_wf L hb.byte ns[y] k HFIT.out
                    have hp0 := hwf.perm.1
                    have hp1 := hwf.perm.2
                    have hn256 := HNIN.out _ (List.getElem_mem hylt)
                    have HDF : Hid (docFind L k E (ns.getD y 0) = (((ns[y] : Nat) : Int) == E / 256 && (bits .and .i64 (pgTo L ns[y] k).perm 1 == 1))) := Lib.hid (by rw [hg]; rfl)
                    have HMEM : Hid (ns[y] ∈ ns) := Lib.hid (List.getElem_mem hylt)
                    have HG := Lib.hid hg
                    clear ca lr hcl hwf hg
                    generalize hpp : (pgTo L ns[y] k).perm = pp at *
                    generalize hnn : ns[y] = nn at *
                    have HNN := Lib.hid hnn
                    have HPP := Lib.hid hpp
                    clear hnn hpp
                    by_cases f1 : ((nn : Nat) : Int) = E / 256
                    · have f1' : (((nn : Nat) : Int) == E / 256) = true := by simpa using f1
                      by_cases f2 : bits .and .i64 pp 1 = 1
                      · have f2' : (bits .and .i64 pp 1 == 1) = true := by simpa using f2
                        have HFOUND : Hid (entryOk L = true) := Lib.hid (by
                          rw [HO2.out, List.any_eq_true]
                          exact ⟨nn, HMEM.out, by have := HDF.out; rw [HG.out] at this; rw [this, f1', f2']; rfl⟩)
                        clear f1 f2
                        go_wp2
                        go_ret3
                        exact ⟨HBW.out, ⟨fun h => absurd h HY.out, fun _ h => absurd HSO.out (by rw [h]; decide), fun _ _ h => absurd HFREE.out h, fun _ _ _ h => absurd HFOUND.out (by rw [h]; decide), fun _ _ _ _ => ⟨_, by rw [HE.out]; try rfl, by rw [HN.out, ← HALLN.out, ← HALLC.out]; exact HPROW.out.mono hww⟩⟩⟩
                      · have f2' : (bits .and .i64 pp 1 == 1) = false := by simpa using f2
                        have HNO : Hid (docFind L k E (ns.getD y 0) = false) := Lib.hid (by rw [HDF.out, f2', Bool.and_false])
                        clear f1 f2
                        go_wp2
                        go_round
                        case rel => exact ⟨y + 1, by omega, by go_num, upTo_snoc HNF.out HNO.out⟩
                        case measure => simp [intOf] <;> omega
                    · have f1' : (((nn : Nat) : Int) == E / 256) = false := by simpa using f1
                      have HNO : Hid (docFind L k E (ns.getD y 0) = false) := Lib.hid (by rw [HDF.out, f1', Bool.false_and])
                      clear f1
                      go_wp2
                      go_round
                      case rel => exact ⟨y + 1, by omega, by go_num, upTo_snoc HNF.out HNO.out⟩
                      case measure => simp [intOf] <;> omega
                  · obtain rfl : y = ns.length := by omega
                    have HO3 : Hid (entryOk L = false) := Lib.hid (by
                      rw [HO2.out, List.any_eq_false]
                      intro n hn
                      obtain ⟨z, hz, rfl⟩ := List.getElem_of_mem hn
                      have := HNF.out z hz
                      rw [List.getD_eq_getElem?_getD, List.getElem?_eq_getElem hz] at this
                      simpa using this)
                    clear HNF
                    go_wp2
                    go_ret3
                    exact ⟨HBW.out, ⟨fun h => absurd h HY.out, fun _ h => absurd HSO.out (by rw [h]; decide), fun _ _ h => absurd HFREE.out h, fun _ _ _ _ => rfl, fun _ _ _ h => absurd HO3.out (by rw [h]; decide)⟩⟩
              · have HO2 : Hid (entryOk L = false) := Lib.hid (by rw [hent.out]; simp [r])
                have q1 : (E % 4 != 0) = false := by simp [q]
                have r1 : 65536 ≤ E := by omega
                clear hent q r
                go_wp2_with (go_at_call 73; with_reducible refine Calls.mono HNUM.out ?_; rintro e wx ⟨rfl, rfl⟩)
                go_ret3
                exact ⟨HBW.out, ⟨fun h => absurd h HY.out, fun _ h => absurd HSO.out (by rw [h]; decide), fun _ _ h => absurd HFREE.out h, fun _ _ _ _ => rfl, fun _ _ _ h => absurd HO2.out (by rw [h]; decide)⟩⟩
            · have HO2 : Hid (entryOk L = false) := Lib.hid (by rw [hent.out]; simp [q])
              have q1 : (E % 4 != 0) = true := by simp [q]
              clear hent q
              go_wp2_with (go_at_call 73; with_reducible refine Calls.mono HNUM.out ?_; rintro e wx ⟨rfl, rfl⟩)
              go_ret3
              exact ⟨HBW.out, ⟨fun h => absurd h HY.out, fun _ h => absurd HSO.out (by rw [h]; decide), fun _ _ h => absurd HFREE.out h, fun _ _ _ _ => rfl, fun _ _ _ h => absurd HO2.out (by rw [h]; decide)⟩⟩

set_option maxHeartbeats 4000000 in
theorem headerR_short (p : Option Addr) (n cap : Nat) (w : World) (hn : n < 64) :
    Calls Tryz.prog 71 #[.slice p n cap] w fun e w' => e = .returned (.tuple #[.int .i64 0, .bool false]) ∧ w = w' := by
  go_enter Tryz.func71, Tryz.ntmps71
  go_wp2
  go_ret2
  exact ⟨rfl, rfl⟩
set_option maxHeartbeats 4000000 in
theorem loadR_short (p : Option Addr) (n cap : Nat) (w : World) (hn : n < 64) :
    Calls Tryz.prog 48 #[.slice p n cap] w fun e w' => e = .returned (.tuple #[.slice none 0 0, .int .u64 0, .int .i64 2]) ∧ w = w' := by
  go_enter Tryz.func48, Tryz.ntmps48
  go_wp2_with (go_at_call 71; refine Calls.mono (headerR_short p n cap _ hn) ?_; rintro e w1 ⟨rfl, rfl⟩)
  go_ret3
  exact ⟨rfl, rfl⟩
end Go.Proofs.YtkcjafnaephjiaaGreatDoor
