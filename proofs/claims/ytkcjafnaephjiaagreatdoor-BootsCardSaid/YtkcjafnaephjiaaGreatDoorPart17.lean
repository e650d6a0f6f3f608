/- (Space).lay: a segment's pages. -/
import Derived.Test.YtkcjafnaephjiaaGreatDoorPart06
import Derived.Test.YtkcjafnaephjiaaGreatDoorPart00
set_option linter.unusedVariables false
set_option linter.unusedSimpArgs false
namespace Go.Proofs.YtkcjafnaephjiaaGreatDoor
open Go.RowKit Go.Maps
set_option maxRecDepth 100000

/-- The byte of a segment's page. -/
def segByte (L : List Int) (s : Seg) (n j : Nat) : Int :=
  if s.addr ≤ 256 * n + j ∧ 256 * n + j < s.addr + s.file then L.getD (s.off + (256 * n + j - s.addr)).toNat 0 else 0
def segPage (L : List Int) (s : Seg) (n : Nat) : Pg := ⟨s.perm, (List.range 256).map (segByte L s n)⟩
def Seg.first (s : Seg) : Nat := (s.addr / 256).toNat
def Seg.last (s : Seg) : Nat := ((s.addr + s.mem - 1) / 256).toNat
/-- Pages first .. last - 1 of a segment laid over m. -/
def layTo (m : Pages) (L : List Int) (s : Seg) (last : Nat) : Pages := fun n => if s.first ≤ n ∧ n < last then some (segPage L s n) else m n

structure SegFits (L : List Int) (s : Seg) : Prop where
  perm : 0 ≤ s.perm ∧ s.perm ≤ 7
  off : 0 ≤ s.off
  addr : 0 ≤ s.addr
  file : 0 ≤ s.file
  fits : s.off + s.file ≤ L.length
  mem : 1 ≤ s.mem
  fm : s.file ≤ s.mem
  top : s.addr + s.mem ≤ 65024

theorem Sp.lookup_ok {w : World} {b : Nat} {m : Pages} (h : Sp w b m) (n : Nat) (hn : n < 9223372036854775808) :
    (Instr.lookup 132 (.map (some b)) (.int .i64 n) true).run Tryz.prog w = .ok (.tuple #[((m n).getD Pg.zero).v, .bool (m n).isSome]) w := by
  obtain ⟨kv, h1, h2, _⟩ := h
  have := h1.lookup keyedI Tryz.underlying132 (n : Int) (WalkArith.wf_i64 (by omega)) true (zeroPage w)
  simp only [if_true] at this
  rw [h2 n] at this
  rw [show Value.int .i64 (n : Int) = (keyI).kf (n : Int) from rfl, this]
  cases m n <;> rfl

theorem built_perm (perm : Int) : Tryz.prog.built 192 [(0, .int .u8 perm)] = some (Pg.cells ⟨perm, List.replicate 256 0⟩).toArray := by kernel_rfl

def rowTo (f : Nat → Int) (k : Nat) : List Int := (List.range 256).map fun j => if j < k then f j else 0
theorem rowTo_zero (f : Nat → Int) : rowTo f 0 = List.replicate 256 0 := by
  unfold rowTo
  refine List.eq_replicate_iff.2 ⟨by simp, fun b hb => ?_⟩
  obtain ⟨j, _, rfl⟩ := List.mem_map.1 hb
  simp
theorem rowTo_all (f : Nat → Int) : rowTo f 256 = (List.range 256).map f := by
  unfold rowTo
  apply List.map_congr_left
  intro j hj
  simp [List.mem_range.1 hj]
theorem Blk.page_set {w : World} {g : Nat} {perm : Int} {f : Nat → Int} {k : Nat} {t : TypeId} (h : Blk w g (Pg.cells ⟨perm, rowTo f k⟩) t) (hk : k < 256) :
    Blk (w.setCell ⟨g, 1 + k, none⟩ (.int .u8 (f k))) g (Pg.cells ⟨perm, rowTo f (k + 1)⟩) t := by
  have := h.setCell (o := 1 + k) (.int .u8 (f k))
  have e : (Pg.cells ⟨perm, rowTo f k⟩).set (1 + k) (.int .u8 (f k)) = Pg.cells ⟨perm, rowTo f (k + 1)⟩ := by
    unfold Pg.cells rowTo
    rw [Nat.add_comm 1 k, List.set_cons_succ]
    congr 1
    apply List.ext_getElem?
    intro i
    simp only [List.getElem?_set, List.getElem?_map, List.length_map, List.length_range]
    by_cases hi : i < 256
    · rw [List.getElem?_range hi]
      by_cases e : k = i
      · subst e; simp [hk]
      · rw [if_neg e]
        simp only [Option.map_some, Option.some.injEq, Value.int.injEq, true_and]
        by_cases h1 : i < k
        · rw [if_pos h1, if_pos (by omega)]
        · rw [if_neg h1, if_neg (by omega)]
    · rw [List.getElem?_eq_none (by simp; omega)]
      by_cases e : k = i
      · omega
      · rw [if_neg e]; rfl
  rwa [e] at this
theorem Blk.page_set_no {w : World} {g : Nat} {perm : Int} {f : Nat → Int} {k : Nat} {t : TypeId} (h : Blk w g (Pg.cells ⟨perm, rowTo f k⟩) t) (hk : f k = 0) :
    Blk w g (Pg.cells ⟨perm, rowTo f (k + 1)⟩) t := by
  have e : rowTo f k = rowTo f (k + 1) := by
    unfold rowTo
    apply List.map_congr_left
    intro j _
    by_cases h1 : j < k
    · rw [if_pos h1, if_pos (by omega)]
    · by_cases h2 : j = k
      · subst h2; rw [if_neg h1, if_pos (by omega), hk]
      · rw [if_neg h1, if_neg (by omega)]
  rwa [e] at h

abbrev Seg.v (s : Seg) : Value := .agg #[.int .u8 s.perm, .int .u64 s.off, .int .u64 s.addr, .int .u64 s.file, .int .u64 s.mem]

set_option maxHeartbeats 8000000 in
theorem lay_any (mb b cap : Nat) (m : Pages) (L : List Int) (perm off addr file mem : Int) (w : World) (hs : Sp w mb m) (hm : ∀ n p, m n = some p → p.wf) (hb : Bts w b 0 L) (hcap : L.length ≤ cap) (hlen : L.length ≤ 200000) (hf : SegFits L ⟨perm, off, addr, file, mem⟩) :
    Calls Tryz.prog 85 #[.map (some mb), .agg #[.int .u8 perm, .int .u64 off, .int .u64 addr, .int .u64 file, .int .u64 mem], .slice (some ⟨b, 0, none⟩) L.length cap] w fun e w' => Keep (fun k => k = mb) w w' ∧
      ((∃ n, Seg.first ⟨perm, off, addr, file, mem⟩ ≤ n ∧ n ≤ Seg.last ⟨perm, off, addr, file, mem⟩ ∧ m n ≠ none) → e = .returned (.bool false)) ∧
      ((∀ n, Seg.first ⟨perm, off, addr, file, mem⟩ ≤ n → n ≤ Seg.last ⟨perm, off, addr, file, mem⟩ → m n = none) → e = .returned (.bool true) ∧ Sp w' mb (layTo m L ⟨perm, off, addr, file, mem⟩ (Seg.last ⟨perm, off, addr, file, mem⟩ + 1))) := by
  obtain ⟨⟨hp0, hp1⟩, ho, ha, hfi, hfit, hm1, hfm, htop⟩ := hf
  simp only at hp0 hp1 ho ha hfi hfit hm1 hfm htop
  obtain ⟨s, hsg⟩ : ∃ s : Seg, s = ⟨perm, off, addr, file, mem⟩ := ⟨_, rfl⟩
  rw [← hsg]
  have hfirst : (addr / 256).toNat = s.first := by rw [hsg]; rfl
  have hlast : ((addr + mem - 1) / 256).toNat = s.last := by rw [hsg]; rfl
  have HSG := Lib.hid hsg
  have HFI := Lib.hid hfirst
  have HLA := Lib.hid hlast
  clear hsg hfirst hlast
  go_enter Tryz.func85, Tryz.ntmps85
  go_wp2
  obtain ⟨sc, hsc⟩ : ∃ sc : List Value, sc = [.int .u8 perm, .int .u64 off, .int .u64 addr, .int .u64 file, .int .u64 mem] := ⟨_, rfl⟩
  have B4 : Blk (w.alloc (.cells #[.int .u8 perm, .int .u64 off, .int .u64 addr, .int .u64 file, .int .u64 mem] 235)) w.heap.size sc 235 := by rw [hsc]; exact Blk.new w _ _
  have k1 : Bel w (w.alloc (.cells #[.int .u8 perm, .int .u64 off, .int .u64 addr, .int .u64 file, .int .u64 mem] 235)) := Below.heap_alloc' w _
  have hsz : (w.alloc (.cells #[.int .u8 perm, .int .u64 off, .int .u64 addr, .int .u64 file, .int .u64 mem] 235)).heap.size = w.heap.size + 1 := by simp
  generalize (w.alloc (.cells #[.int .u8 perm, .int .u64 off, .int .u64 addr, .int .u64 file, .int .u64 mem] 235)) = w1 at *
  have hb1 : Bts w1 b 0 L := hb.keep (Keep.of_bel (fun _ => False) k1) (fun _ h => h)
  have hs1 : Sp w1 mb m := hs.bel k1
  have hmb : mb < w.heap.size := hs.lt
  obtain ⟨g4, hg4⟩ : ∃ g4, g4 = w.heap.size := ⟨_, rfl⟩
  rw [← hg4] at B4 hsz ⊢
  have HG4 := Lib.hid hg4
  have HSZ := Lib.hid hsz
  have hne4 : g4 ≠ mb := by omega
  clear hg4 hsz
  have ecell := B4.cell
  rw [hsc] at ecell
  have e1 := ecell 1
  have e2 := ecell 2
  have e3 := ecell 3
  have e4 := ecell 4
  simp only [List.getElem?_cons_zero, List.getElem?_cons_succ] at e1 e2 e3 e4
  have HSC := Lib.hid hsc
  clear ecell hsc
  go_quiet (fail)
  have K1 : Hid (Bel w (w1.drewN nq)) := Lib.hid (bel_drewN k1 nq)
  have B4' : Blk (w1.drewN nq) g4 sc 235 := B4
  have hs2 : Sp (w1.drewN nq) mb m := hs1
  have hb2 : Bts (w1.drewN nq) b 0 L := hb1.of_cell fun _ _ => rfl
  generalize w1.drewN nq = w2 at *
  clear e1 e2 e3 e4 B4 hs1 hb1 k1
  go_wp2
  have hfl : s.first ≤ s.last := by rw [← HFI.out, ← HLA.out]; omega
  have hl254 : s.last < 254 := by rw [← HLA.out]; omega
  go_loopw [9] (fun i wr => ∃ n : Nat, s.first ≤ n ∧ n ≤ s.last + 1 ∧ i = .int .u64 n ∧ Sp wr mb (layTo m L s n) ∧ Keep (fun k => k = mb) w2 wr ∧ ∀ i, s.first ≤ i → i < n → m i = none)
    (fun i _ => s.last + 1 - (intOf i).toNat)
  case atStart => exact ⟨s.first, Nat.le_refl _, by omega, by rw [← HFI.out]; congr 1; omega, by rw [show layTo m L s s.first = m from by funext i; simp only [layTo]; rw [if_neg (by omega)]]; exact hs2, Keep.refl _ _, fun i h1 h2 => by omega⟩
  case round =>
    obtain ⟨n, hn0, hn1, rfl, hsr, hkr, hnone⟩ := hrel
    have hlast' : (addr + mem - 1) / 256 = s.last := by rw [← HLA.out]; omega
    by_cases hle : n ≤ s.last
    · have hlk := hsr.lookup_ok n (by omega)
      have hmn : layTo m L s n n = m n := by simp [layTo]
      rw [hmn] at hlk
      have b4 := B4'.keep hkr hne4
      have hg4r := b4.lt
      have hqw : ((m n).getD Pg.zero).wf := by
        cases h : m n with
        | none => exact Pg.zero_wf
        | some p => exact hm n p h
      obtain ⟨qs, hqs⟩ : ∃ qs, qs = ((m n).getD Pg.zero).cells := ⟨_, rfl⟩
      have HQL : Hid (qs.length = 257) := Lib.hid (by rw [hqs]; simp [Pg.cells, hqw.len])
      have HQO : Hid (∀ v ∈ qs, v.oneCell' = true) := Lib.hid (by rw [hqs]; exact Pg.cells_one _)
      rw [show ((m n).getD Pg.zero).v = .agg qs.toArray from by rw [hqs]; rfl] at hlk
      have hz : ∀ w, (zeroValue 192).run Tryz.prog w = .ok (.agg Pg.zero.cells.toArray) w := zeroPage
      obtain ⟨zs, hzs⟩ : ∃ zs : List Value, zs = Pg.zero.cells := ⟨_, rfl⟩
      have HZL : Hid (zs.length = 257) := Lib.hid (by rw [hzs]; simp [Pg.cells, Pg.zero])
      rw [← hzs] at hz
      obtain ⟨ps, hps⟩ : ∃ ps : List Value, ps = Pg.cells ⟨perm, List.replicate 256 0⟩ := ⟨_, rfl⟩
      have HPL : Hid (ps.length = 257) := Lib.hid (by rw [hps]; simp [Pg.cells])
      have HPO : Hid (∀ v ∈ ps, v.oneCell' = true) := Lib.hid (by rw [hps]; exact Pg.cells_one _)
      have HBP : Hid (Tryz.prog.built 192 [(0, .int .u8 perm)] = some ps.toArray) := Lib.hid (by rw [hps]; exact built_perm perm)
      have HPS := Lib.hid hps
      have HNO := Lib.hid hnone
      have HSR := Lib.hid hsr
      have HLAST := Lib.hid hlast'
      have hle' : (n : Int) ≤ (addr + mem - 1) / 256 := by omega
      clear hqs hqw hzs hps hmn hnone hsr hlast'
      cases hin : (m n).isSome with
      | true =>
        have HIN : Hid (m n ≠ none) := Lib.hid (by intro h; rw [h] at hin; cases hin)
        rw [hin] at hlk
        clear hin
        go_wp2_with (first
          | (refine wpList_store_blk rfl 192 (.tmp 10) (.tmp 36) rfl rfl wr.heap.size qs zs 192 (Blk.new wr zs _) rfl rfl (by rw [HQL.out]; kernel_rfl) (HZL.out.trans HQL.out.symm) HQO.out ?_; intro w3 B3 K3))
        go_ret
        refine ⟨?_, fun _ => rfl, fun h => absurd (h n hn0 hle) HIN.out⟩
        exact ((Keep.of_bel _ K1.out).tr hkr).tr_new (Keep.of_bel _ ((Below.heap_alloc' wr _).trans (K3.below _ (by simp) (fun k hk => by omega)))) (fun i hi => .inl hi)
      | false =>
        have HIN : Hid (m n = none) := Lib.hid (by cases h : m n with | none => rfl | some p => rw [h] at hin; cases hin)
        rw [hin] at hlk
        clear hin
        go_wp2_with (first
          | (refine wpList_store_blk rfl 192 (.tmp 10) (.tmp 36) rfl rfl wr.heap.size qs zs 192 (Blk.new wr zs _) rfl rfl (by rw [HQL.out]; kernel_rfl) (HZL.out.trans HQL.out.symm) HQO.out ?_; intro w3 B3 K3
             have b43 : Blk w3 g4 sc 235 := (b4.alloc _).keep K3 (by omega)
             have e0 := b43.cell 0
             rw [HSC.out] at e0
             simp only [List.getElem?_cons_zero] at e0)
          | (refine wpList_buildTo rfl 192 _ rfl (some 41) rfl ps.toArray (by simp only [List.map_toArray, List.map_cons, List.map_nil]; exact HBP.out) ?_)
          | (refine wpList_store_blk rfl 192 (.tmp 12) (.tmp 41) rfl rfl w3.heap.size ps zs 192 (Blk.new w3 zs _) rfl rfl (by rw [HPL.out]; kernel_rfl) (HZL.out.trans HPL.out.symm) HPO.out ?_; intro w5 B5 K5))
        have ka : Bel wr w3 := (Below.heap_alloc' wr _).trans (K3.below _ (by simp) (fun k hk => by omega))
        have kb : Bel w3 w5 := (Below.heap_alloc' w3 _).trans (K5.below _ (by simp) (fun k hk => by omega))
        have k5 : Keep (fun k => k = mb) w2 w5 := hkr.tr (Keep.of_bel _ (ka.tr kb))
        have b45 : Blk w5 g4 sc 235 := (b43.alloc _).keep K5 (by have := b43.lt; omega)
        have hb5 : Bts w5 b 0 L := hb2.keep k5 (fun h0 => hs2.ne hb2 h0)
        have hs5 : Sp w5 mb (layTo m L s n) := (((HSR.out.alloc _).keep K3 (by have := HSR.out.lt; omega)).alloc _).keep K5 (by have := ((HSR.out.alloc (.cells zs.toArray 192)).keep K3 (by have := HSR.out.lt; omega)).lt; omega)
        have hne : g4 ≠ w3.heap.size := by have := b43.lt; omega
        have hnmb : mb ≠ w3.heap.size := by have := ((HSR.out.alloc (.cells zs.toArray 192)).keep K3 (by have := HSR.out.lt; omega)).lt; omega
        have hnb : 0 < L.length → b ≠ w3.heap.size := fun h0 => by
          have h1 := (((hb2.keep hkr (fun h0 => hs2.ne hb2 h0)).keep (Keep.of_bel (fun _ => False) (Below.heap_alloc' wr (.cells zs.toArray 192))) (fun _ h => h)).keep K3 (fun h0 => by have := (hb2.keep hkr (fun h0 => hs2.ne hb2 h0)).lt h0; omega)).lt h0
          omega
        have HB5 := Lib.hid hb5
        have HS5 := Lib.hid hs5
        have HK5 := Lib.hid k5
        have HB45 := Lib.hid b45
        have HNB := Lib.hid hnb
        have HP5 : Hid (Blk w5 w3.heap.size (Pg.cells ⟨perm, rowTo (segByte L s n) 0⟩) 192) := Lib.hid (by rw [rowTo_zero, ← HPS.out]; exact B5.out)
        clear hb5 hs5 k5 b45 hnb b43 K5 B5
        have hgp : w2.heap.size ≤ w3.heap.size := Nat.le_trans hkr.size ka.size
        generalize w3.heap.size = gp at *
        go_loopw [42] (fun j wi => ∃ k : Nat, k ≤ 256 ∧ j = .int .i64 k ∧ Blk wi gp (Pg.cells ⟨perm, rowTo (segByte L s n) k⟩) 192 ∧ Keep (fun i => i = gp) w5 wi) (fun j _ => 256 - (intOf j).toNat)
        case atStart => exact ⟨0, Nat.zero_le _, rfl, HP5.out, Keep.refl _ _⟩
        case round =>
          obtain ⟨k, hk, rfl, hbl, hki⟩ := hrel
          by_cases hlt : k < 256
          · have b4i := HB45.out.keep hki hne
            have ec := b4i.cell
            rw [HSC.out] at ec
            have e1 := ec 1
            have e2 := ec 2
            have e3 := ec 3
            simp only [List.getElem?_cons_zero, List.getElem?_cons_succ] at e1 e2 e3
            have hbi : Bts wr b 0 L := HB5.out.keep hki (fun h0 e => HNB.out h0 e)
            have fz := hbl.frozen (1 + k)
            have cz : ∃ v, wr.cell? ⟨gp, 1 + k, none⟩ = some v := by
              rw [hbl.cell]
              exact ⟨_, List.getElem?_eq_getElem (by simp [Pg.cells, rowTo]; omega)⟩
            obtain ⟨vz, cz⟩ := cz
            have hgl := hbl.lt
            have HBL := Lib.hid hbl
            clear ec b4i hbl
            have HSB : Hid (segByte L s n k = if addr ≤ (n : Int) * 256 + k ∧ (n : Int) * 256 + k < addr + file then L.getD (off + ((n : Int) * 256 + k - addr)).toNat 0 else 0) := Lib.hid (by
              rw [HSG.out]; simp only [segByte]; rw [show (256 : Int) * n + k = n * 256 + k from by omega])
            by_cases c1 : addr ≤ (n : Int) * 256 + k
            · by_cases c2 : (n : Int) * 256 + k < addr + file
              · have hby := hbi.at_ (off + ((n : Int) * 256 + k - addr)).toNat (by omega)
                rw [Nat.zero_add] at hby
                have HSE := Lib.hid (HSB.out.trans (if_pos ⟨c1, c2⟩))
                generalize hx : L.getD (off + ((n : Int) * 256 + k - addr)).toNat 0 = x at *
                have HX := Lib.hid hx
                clear hx
                go_wp2
                go_roundw
                case rel => exact ⟨k + 1, by omega, by go_num, by have := HBL.out.page_set hlt; rw [HSE.out] at this; exact this, hki.tr (Keep.setCell _ _ _ _)⟩
                case measure => simp [intOf] <;> omega
              · have HSE := Lib.hid (HSB.out.trans (if_neg fun h => c2 h.2))
                go_wp2
                go_roundw
                case rel => exact ⟨k + 1, by omega, by go_num, HBL.out.page_set_no HSE.out, hki⟩
                case measure => simp [intOf] <;> omega
            · have HSE := Lib.hid (HSB.out.trans (if_neg fun h => c1 h.1))
              go_wp2
              go_roundw
              case rel => exact ⟨k + 1, by omega, by go_num, HBL.out.page_set_no HSE.out, hki⟩
              case measure => simp [intOf] <;> omega
          · obtain rfl : k = 256 := by omega
            obtain ⟨P, hP⟩ : ∃ P, P = segPage L s n := ⟨_, rfl⟩
            have hcells : Pg.cells ⟨perm, rowTo (segByte L s n) 256⟩ = P.cells := by rw [hP, rowTo_all, segPage, show s.perm = perm from by rw [HSG.out]]
            rw [hcells] at hbl
            have HBL := Lib.hid hbl
            have HPL2 : Hid (P.cells.length = 257) := Lib.hid (by rw [hP]; simp [Pg.cells, segPage])
            have hlay : layTo m L s (n + 1) = fun i => if i = n then some P else layTo m L s n i := by
              funext i
              simp only [layTo]
              by_cases e : i = n
              · subst e; rw [if_pos ⟨hn0, by omega⟩, if_pos rfl, hP]
              · rw [if_neg e]
                by_cases h1 : s.first ≤ i ∧ i < n
                · rw [if_pos h1, if_pos ⟨h1.1, by omega⟩]
                · rw [if_neg h1, if_neg (by omega)]
            have HLAY := Lib.hid hlay
            have hsp := HS5.out.keep hki hnmb
            obtain ⟨es, clock, hup, hsp4, hk4⟩ := hsp.update n (by omega) P
            rw [show P.v = .agg P.cells.toArray from rfl] at hup
            have HS4 := Lib.hid hsp4
            have HK4 := Lib.hid hk4
            generalize Go.ChangeMaps.setBlock wr mb (.map es clock) = w7 at *
            clear hsp4 hk4 hlay hcells hP hbl hsp
            go_wp2_with (refine wpList_load_mid rfl 192 (.tmp 12) rfl gp 0 rfl P.cells _ (by have := HBL.out.range 0; simpa using this) Tryz.underlying192 rfl (by rw [HPL2.out]; kernel_rfl) ?_)
            exact ⟨⟨n + 1, by omega, by omega, by go_num, by rw [HLAY.out]; exact HS4.out, (HK5.out.tr_new hki (fun i hi => .inr (by omega))).tr HK4.out,
              fun i h1 h2 => (Nat.lt_or_eq_of_le (Nat.le_of_lt_succ h2)).elim (HNO.out i h1) (fun e => e ▸ HIN.out)⟩, by simp only [intOf]; omega⟩
    · obtain rfl : n = s.last + 1 := by omega
      have HSR := Lib.hid hsr
      have HNO := Lib.hid hnone
      have hgt : (addr + mem - 1) / 256 < ((s.last + 1 : Nat) : Int) := by omega
      clear hsr hnone hlast'
      go_wp2
      go_ret
      exact ⟨(Keep.of_bel _ K1.out).tr hkr, fun ⟨i, h1, h2, h3⟩ => absurd (HNO.out i h1 (by omega)) h3, fun _ => ⟨rfl, HSR.out⟩⟩
end Go.Proofs.YtkcjafnaephjiaaGreatDoor
