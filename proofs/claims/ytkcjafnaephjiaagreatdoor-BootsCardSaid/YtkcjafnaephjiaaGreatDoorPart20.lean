/- machine.Load. -/
import Derived.Test.YtkcjafnaephjiaaGreatDoorPart16
import Derived.Test.YtkcjafnaephjiaaGreatDoorPart17
import Derived.Test.YtkcjafnaephjiaaGreatDoorPart19
set_option linter.unusedVariables false
set_option linter.unusedSimpArgs false
namespace Go.Proofs.YtkcjafnaephjiaaGreatDoor
open Go.RowKit Go.Maps
set_option maxRecDepth 100000

/-- The pages behind the first k segments. -/
def spaceTo (L : List Int) : Nat → Pages
  | 0 => fun _ => none
  | k + 1 => layTo (spaceTo L k) L (segAt L k) ((segAt L k).last + 1)
/-- No page of a segment is there already. -/
def FreeAt (L : List Int) (k : Nat) : Prop := ∀ n, (segAt L k).first ≤ n → n ≤ (segAt L k).last → spaceTo L k n = none
def entryOf (L : List Int) : Int := numAt L 24 8

theorem segFits (L : List Int) (hb : ∀ x ∈ L, 0 ≤ x ∧ x ≤ 255) (i : Nat) (hl : 64 + 56 * i + 56 ≤ L.length) (h : segOk L i = true) : SegFits L (segAt L i) := by
  simp only [segOk, Bool.and_eq_true, beq_iff_eq, decide_eq_true_eq, Bool.not_eq_true', beq_eq_false_iff_ne] at h
  obtain ⟨⟨⟨⟨⟨⟨⟨⟨⟨⟨_, h1⟩, h2⟩, _⟩, h4⟩, h5⟩, h6⟩, h7⟩, _⟩, h9⟩, h10⟩ := h
  have hu := fun k => numAt_u64 L hb k 8 (by omega)
  have hp : 0 ≤ (segAt L i).perm ∧ (segAt L i).perm ≤ 7 := by
    have e : numAt L (64 + 56 * i + 4) 4 = L.getD (64 + 56 * i + 4) 0 + 256 * numV ((L.drop (64 + 56 * i + 5)).take 3) := by
      unfold numAt
      rw [List.drop_eq_getElem_cons (by omega : 64 + 56 * i + 4 < L.length), List.take_succ_cons, numV, List.getD_eq_getElem?_getD, List.getElem?_eq_getElem (by omega)]
      rfl
    have h3 := numV_bound ((L.drop (64 + 56 * i + 5)).take 3) fun x hx => hb x (List.mem_of_mem_drop (List.mem_of_mem_take hx))
    have hx : 0 ≤ L.getD (64 + 56 * i + 4) 0 := by
      rw [List.getD_eq_getElem?_getD, List.getElem?_eq_getElem (by omega)]
      exact (hb _ (List.getElem_mem _)).1
    have : (segAt L i).perm = L.getD (64 + 56 * i + 4) 0 := rfl
    rw [this]
    omega
  have a0 : (segAt L i).off = numAt L (64 + 56 * i + 8) 8 := rfl
  have a1 : (segAt L i).addr = numAt L (64 + 56 * i + 16) 8 := rfl
  have a2 : (segAt L i).file = numAt L (64 + 56 * i + 32) 8 := rfl
  have a3 : (segAt L i).mem = numAt L (64 + 56 * i + 40) 8 := rfl
  have u0 := hu (64 + 56 * i + 8)
  have u1 := hu (64 + 56 * i + 16)
  have u2 := hu (64 + 56 * i + 32)
  have u3 := hu (64 + 56 * i + 40)
  exact ⟨hp, by omega, by omega, by omega, by omega, by omega, by omega, by omega⟩

theorem segPage_wf (L : List Int) (hb : ∀ x ∈ L, 0 ≤ x ∧ x ≤ 255) (s : Seg) (hp : 0 ≤ s.perm ∧ s.perm ≤ 7) (n : Nat) : (segPage L s n).wf := by
  refine ⟨by simp [segPage], fun x hx => ?_, hp⟩
  obtain ⟨j, _, rfl⟩ := List.mem_map.1 hx
  unfold segByte
  split
  · rw [List.getD_eq_getElem?_getD]
    cases h : L[(s.off + (256 * (n : Int) + j - s.addr)).toNat]? with
    | none => simp [IsByte]
    | some x => exact hb x (List.mem_of_getElem? h)
  · simp [IsByte]
theorem spaceTo_wf (L : List Int) (hb : ∀ x ∈ L, 0 ≤ x ∧ x ≤ 255) (N : Nat) (hN : ∀ i, i < N → SegFits L (segAt L i)) : ∀ k, k ≤ N → PagesOk (spaceTo L k)
  | 0, _ => ⟨fun _ _ => rfl, fun n p h => by cases h⟩
  | k + 1, hk => by
    have ih := spaceTo_wf L hb N hN k (by omega)
    have hf := hN k (by omega)
    have hl : (segAt L k).last < 254 := by
      unfold Seg.last
      have := hf.top; have := hf.mem; have := hf.addr
      omega
    refine ⟨fun n hn => ?_, fun n p h => ?_⟩
    · simp only [spaceTo, layTo]
      rw [if_neg (by omega)]
      exact ih.below n hn
    · simp only [spaceTo, layTo] at h
      split at h
      · injection h with h
        subst h
        exact segPage_wf L hb _ hf.perm n
      · exact ih.wf n p h
def segsOk (L : List Int) : Bool := (List.range (segN L).toNat).all (segOk L)
def entryOk (L : List Int) : Bool := numAt L 24 8 % 4 == 0 && mayB (spaceTo L (segN L).toNat) (numAt L 24 8) 1 1
/-- What machine.Load answers. -/
structure LoadRes (L : List Int) (base : Nat) (e : Ending) (w' : World) : Prop where
  header : headerOk L = false → e = .returned (.tuple #[.map none, .int .u64 0, errN 2])
  segs : headerOk L = true → segsOk L = false → e = .returned (.tuple #[.map none, .int .u64 0, errN 3])
  overlap : headerOk L = true → segsOk L = true → (¬ ∀ k, k < (segN L).toNat → FreeAt L k) → e = .returned (.tuple #[.map none, .int .u64 0, errN 4])
  entry : headerOk L = true → segsOk L = true → (∀ k, k < (segN L).toNat → FreeAt L k) → entryOk L = false → e = .returned (.tuple #[.map none, .int .u64 0, errN 5])
  ok : headerOk L = true → segsOk L = true → (∀ k, k < (segN L).toNat → FreeAt L k) → entryOk L = true → ∃ mb, e = .returned (.tuple #[.map (some mb), .int .u64 (numAt L 24 8), .nilIface]) ∧ base ≤ mb ∧ Sp w' mb (spaceTo L (segN L).toNat)

theorem Sp.new (w : World) : Sp (w.alloc (.map #[] 0)) w.heap.size (fun _ => none) :=
  ⟨[], Mp.new keyI w, fun n => rfl, fun p hp => by cases hp⟩

set_option maxHeartbeats 8000000 in
theorem loadM_any (b cap : Nat) (L : List Int) (w : World) (hb : Bts w b 0 L) (hcap : L.length ≤ cap) (hlen : L.length ≤ 200000) (hfix : FixVar w) :
    Calls Tryz.prog 62 #[.slice (some ⟨b, 0, none⟩) L.length cap] w fun e w' => Bel w w' ∧ LoadRes L w.heap.size e w' := by
  have hseg := segments_any b cap L w hb hcap hlen hfix
  cases hh : headerOk L with
  | false =>
    have hs2 := hseg.mono (fun e w' (h : Bel w w' ∧ SegRes L w.heap.size e w') => And.intro (h.2.1 hh) h.1)
    have HS := Lib.hid hs2
    have HH := Lib.hid hh
    clear hseg hs2 hh
    go_enter Tryz.func62, Tryz.ntmps62
    go_wp2_with (go_at_call 84; with_reducible refine Calls.mono HS.out ?_; rintro e w1 ⟨rfl, k1⟩)
    go_ret3
    have hx : headerOk L ≠ true := by rw [HH.out]; decide
    exact ⟨k1, ⟨fun _ => rfl, fun h => absurd h hx, fun h => absurd h hx, fun h => absurd h hx, fun h => absurd h hx⟩⟩
  | true =>
    cases hs : segsOk L with
    | false =>
      have hs2 := hseg.mono (fun e w' (h : Bel w w' ∧ SegRes L w.heap.size e w') => And.intro (h.2.2.1 hh hs) h.1)
      have HS := Lib.hid hs2
      have HH := Lib.hid hh
      have HO := Lib.hid hs
      clear hseg hs2 hh hs
      go_enter Tryz.func62, Tryz.ntmps62
      go_wp2_with (go_at_call 84; with_reducible refine Calls.mono HS.out ?_; rintro e w1 ⟨rfl, k1⟩)
      go_ret3
      have hx : segsOk L ≠ true := by rw [HO.out]; decide
      have hy : headerOk L ≠ false := by rw [HH.out]; decide
      exact ⟨k1, ⟨fun h => absurd h hy, fun _ _ => rfl, fun _ h => absurd h hx, fun _ h => absurd h hx, fun _ h => absurd h hx⟩⟩
    | true =>
      have hs2 := hseg.mono (fun e w' (h : Bel w w' ∧ SegRes L w.heap.size e w') => And.intro (h.2.2.2 hh hs) h.1)
      obtain ⟨N, hN⟩ : ∃ N, (segN L).toNat = N := ⟨_, rfl⟩
      rw [hN] at hs2
      have HS := Lib.hid hs2
      have HH := Lib.hid hh
      have HO := Lib.hid hs
      have hhead : 1 ≤ segN L ∧ segN L ≤ 8 ∧ 64 + 56 * segN L ≤ L.length := by
        have := hh
        simp only [headerOk, Bool.and_eq_true, decide_eq_true_eq] at this
        exact ⟨this.1.1.2, this.1.2, this.2⟩
      have hN8 : N ≤ 8 := by omega
      have hN1 : 1 ≤ N := by omega
      have hNL : 64 + 56 * N ≤ L.length := by omega
      have hfit : ∀ i, i < N → SegFits L (segAt L i) := fun i hi => segFits L hb.byte i (by omega) (List.all_eq_true.1 hs i (List.mem_range.2 (by omega)))
      have HFIT := Lib.hid hfit
      have HWF := Lib.hid (spaceTo_wf L hb.byte N hfit)
      have HN := Lib.hid hN
      have hmm : ∀ w, (Instr.makeMap 132 none).run Tryz.prog w = .ok (.map (some w.heap.size)) (w.alloc (.map #[] 0)) := fun w => by kernel_rfl
      clear hseg hs2 hh hs hhead hN hfit
      go_enter Tryz.func62, Tryz.ntmps62
      go_wp2_with (go_at_call 84; with_reducible refine Calls.mono HS.out ?_; rintro e w1 ⟨⟨v, rfl, hrow⟩, k1⟩
                   obtain ⟨ps, cp, rfl, hcp, hcm, hps⟩ := row_slice hrow
                   have HROW := Lib.hid hrow
                   have HPS := Lib.hid hps
                   clear hrow hps)
      have k2 : Bel w1 (w1.alloc (.map #[] 0)) := Below.heap_alloc' w1 _
      have hsn : Sp (w1.alloc (.map #[] 0)) w1.heap.size (spaceTo L 0) := Sp.new w1
      have hmb : w.heap.size ≤ w1.heap.size := k1.size
      have hgs : ∀ g, g < w1.heap.size → g ≠ w1.heap.size := fun g h => by omega
      have HGS := Lib.hid hgs
      clear hgs
      generalize w1.alloc (.map #[] 0) = w2 at *
      have HK2 := Lib.hid k2
      have hsz2 : w1.heap.size < w2.heap.size := hsn.lt
      generalize hmbe : w1.heap.size = mb at *
      have HMBE := Lib.hid hmbe
      clear hmbe
      have HKW : Hid (Bel w w2) := Lib.hid (k1.tr HK2.out)
      go_loopw [22] (fun i wr => ∃ k : Nat, k ≤ N ∧ i = .int .i64 k ∧ Sp wr mb (spaceTo L k) ∧ Keep (fun i => i = mb) w2 wr ∧ ∀ j, j < k → FreeAt L j) (fun i _ => N - (intOf i).toNat)
      case atStart => exact ⟨0, Nat.zero_le _, rfl, hsn, Keep.refl _ _, fun j hj => by omega⟩
      case round =>
        obtain ⟨k, hk, rfl, hsr, hkr, hall⟩ := hrel
        have HALL := Lib.hid hall
        have HSR := Lib.hid hsr
        clear hall hsr
        by_cases hlt : k < N
        · obtain ⟨gs, rfl, hb0, hb1, hcl, _⟩ := HPS.out.resolve_left (by omega)
          have hrange : wr.rangeAt gs (k * 5) (segAt L k).cells := fun j v hv => by
            have hj : j < 5 := by have := (List.getElem?_eq_some_iff.1 hv).1; simpa [Seg.cells] using this
            have hgl : gs < w2.heap.size := Nat.lt_of_lt_of_le hb1 (Nat.le_of_lt hsz2)
            rw [hkr.cell ⟨gs, k * 5 + j, none⟩ hgl (HGS.out gs hb1), World.cell?_of_block (a := ⟨gs, k * 5 + j, none⟩) (HK2.out.block gs (by rw [HMBE.out]; exact hb1)), hcl _ (by rw [flat_length _ 5 _ (fun _ _ => rfl)]; simp; omega), flat_at _ 5 _ (fun _ _ => rfl) k j hj]
            rw [List.getElem?_range hlt]
            exact hv
          have HR := Lib.hid hrange
          clear hrange hcl
          have hbr : Bts wr b 0 L := (hb.keep (Keep.of_bel (fun _ => False) HKW.out) (fun _ h => h)).keep hkr (fun h0 => hsn.ne (hb.keep (Keep.of_bel (fun _ => False) HKW.out) (fun _ h => h)) h0)
          have hf := HFIT.out k hlt
          have hw := HWF.out k (by omega)
          obtain ⟨s, hs⟩ : ∃ s, segAt L k = s := ⟨_, rfl⟩
          rw [hs] at HR hf
          have hlay := fun W (hW : Sp W mb (spaceTo L k)) (hB : Bts W b 0 L) => lay_any mb b cap (spaceTo L k) L s.perm s.off s.addr s.file s.mem W hW hw.wf hB hcap hlen hf
          have HSG := Lib.hid hs
          have HBR := Lib.hid hbr
          by_cases hfree : FreeAt L k
          · have HLF : Hid (∀ W, Sp W mb (spaceTo L k) → Bts W b 0 L → Calls Tryz.prog 85 #[.map (some mb), .agg s.cells.toArray, .slice (some ⟨b, 0, none⟩) L.length cap] W fun e w' => e = .returned (.bool true) ∧ (Keep (fun k => k = mb) W w' ∧ Sp w' mb (spaceTo L (k + 1)))) := Lib.hid fun W hW hB =>
              (hlay W hW hB).mono fun e w' h => by
                have h2 := h.2.2 (fun n h1 h2 => hfree n (by rw [hs]; exact h1) (by rw [hs]; exact h2))
                exact ⟨h2.1, h.1, by simp only [spaceTo]; rw [hs]; exact h2.2⟩
            have HFREE := Lib.hid hfree
            clear hlay hs hbr hw hf hfree
            go_wp2_with (first
            | (refine wpList_load_mid rfl 235 (.tmp 24) rfl gs (k * 5) rfl s.cells _ HR.out Tryz.underlying235 rfl (by kernel_rfl) ?_)
            | (refine wpList_store_blk rfl 235 (.tmp 9) (.tmp 25) rfl rfl wr.heap.size s.cells [.int .u8 0, .int .u64 0, .int .u64 0, .int .u64 0, .int .u64 0] 235 (Blk.new wr _ _) rfl rfl (by kernel_rfl) rfl (by intro v hv; simp [Seg.cells] at hv; rcases hv with rfl | rfl | rfl | rfl | rfl <;> rfl) ?_; intro w3 B3 K3)
            | (refine wpList_load_mid rfl 235 (.tmp 9) rfl wr.heap.size 0 rfl s.cells _ (by have := B3.out.range 0; simpa using this) Tryz.underlying235 rfl (by kernel_rfl) ?_)
            | (go_at_call 85
               have kc : Bel wr w3 := (Below.heap_alloc' wr _).trans (K3.below _ (by simp) (fun k hk => by omega))
               refine Calls.mono (HLF.out w3 (HSR.out.bel kc) (HBR.out.keep (Keep.of_bel (fun _ => False) kc) (fun _ h => h))) ?_
               rintro e w5 ⟨rfl, r5⟩))
            exact ⟨⟨k + 1, by omega, by go_num, r5.2, hkr.tr ((Keep.of_bel _ kc).tr r5.1), upTo_snoc HALL.out HFREE.out⟩, by simp only [intOf]; omega⟩
          · have hnf : ∃ n, s.first ≤ n ∧ n ≤ s.last ∧ spaceTo L k n ≠ none := by
              refine Classical.byContradiction fun hc => hfree fun n h1 h2 => Classical.byContradiction fun h3 => hc ⟨n, by rw [← hs]; exact h1, by rw [← hs]; exact h2, h3⟩
            have HLF : Hid (∀ W, Sp W mb (spaceTo L k) → Bts W b 0 L → Calls Tryz.prog 85 #[.map (some mb), .agg s.cells.toArray, .slice (some ⟨b, 0, none⟩) L.length cap] W fun e w' => e = .returned (.bool false) ∧ Keep (fun k => k = mb) W w') := Lib.hid fun W hW hB =>
              (hlay W hW hB).mono fun e w' h => ⟨h.2.1 hnf, h.1⟩
            have HFREE := Lib.hid hfree
            clear hlay hs hbr hw hf hfree hnf
            go_wp2_with (first
            | (refine wpList_load_mid rfl 235 (.tmp 24) rfl gs (k * 5) rfl s.cells _ HR.out Tryz.underlying235 rfl (by kernel_rfl) ?_)
            | (refine wpList_store_blk rfl 235 (.tmp 9) (.tmp 25) rfl rfl wr.heap.size s.cells [.int .u8 0, .int .u64 0, .int .u64 0, .int .u64 0, .int .u64 0] 235 (Blk.new wr _ _) rfl rfl (by kernel_rfl) rfl (by intro v hv; simp [Seg.cells] at hv; rcases hv with rfl | rfl | rfl | rfl | rfl <;> rfl) ?_; intro w3 B3 K3)
            | (refine wpList_load_mid rfl 235 (.tmp 9) rfl wr.heap.size 0 rfl s.cells _ (by have := B3.out.range 0; simpa using this) Tryz.underlying235 rfl (by kernel_rfl) ?_)
            | (go_at_call 85
               have kc : Bel wr w3 := (Below.heap_alloc' wr _).trans (K3.below _ (by simp) (fun k hk => by omega))
               refine Calls.mono (HLF.out w3 (HSR.out.bel kc) (HBR.out.keep (Keep.of_bel (fun _ => False) kc) (fun _ h => h))) ?_
               rintro e w5 ⟨rfl, r5⟩))
            go_ret3
            have hkk : Keep (fun i => i = mb) w2 w5 := hkr.tr ((Keep.of_bel _ kc).tr r5)
            have hno : ¬ ∀ k, k < (segN L).toNat → FreeAt L k := fun h => HFREE.out (h k (by rw [HN.out]; exact hlt))
            have hy : headerOk L ≠ false := by rw [HH.out]; decide
            have hz : segsOk L ≠ false := by rw [HO.out]; decide
            exact ⟨Below.trans HKW.out (hkk.below _ HKW.out.size (fun i hi => by omega)), ⟨fun h => absurd h hy, fun _ h => absurd h hz, fun _ _ _ => rfl, fun _ _ h => absurd h hno, fun _ _ h => absurd h hno⟩⟩
        · obtain rfl : k = N := by omega
          have hbr : Bts wr b 0 L := (hb.keep (Keep.of_bel (fun _ => False) HKW.out) (fun _ h => h)).keep hkr (fun h0 => hsn.ne (hb.keep (Keep.of_bel (fun _ => False) HKW.out) (fun _ h => h)) h0)
          have hfree : ∀ j, j < (segN L).toNat → FreeAt L j := by rw [HN.out]; exact HALL.out
          have hbel : Bel w wr := Below.trans HKW.out (hkr.below _ HKW.out.size (fun i hi => by omega))
          have hy : headerOk L ≠ false := by rw [HH.out]; decide
          have hz : segsOk L ≠ false := by rw [HO.out]; decide
          obtain ⟨E, hE⟩ : ∃ E, numAt L 24 8 = E := ⟨_, rfl⟩
          have hEb := numAt_u64 L hb.byte 24 8 (by omega)
          rw [hE] at hEb
          obtain ⟨hE0, hE1⟩ := hEb
          have hnum := number_at b 24 8 (cap - 24) L wr hbr (by omega) (by omega)
          rw [hE] at hnum
          have hmay := may_any mb (spaceTo L k) E 1 1 wr HSR.out hE0 hE1 (by omega) (by omega)
          have hent : entryOk L = (E % 4 == 0 && mayB (spaceTo L k) E 1 1) := by unfold entryOk; rw [HN.out, hE]
          have HNUM := Lib.hid hnum
          have HMAY := Lib.hid hmay
          have HENT := Lib.hid hent
          have HE := Lib.hid hE
          have HFR := Lib.hid hfree
          have HBEL := Lib.hid hbel
          have HCAP : 64 ≤ cap := by omega
          clear hnum hmay hent hE hfree hbel hbr
          by_cases q : E % 4 = 0
          · cases hm : mayB (spaceTo L k) E 1 1 with
            | true =>
              have HO2 : Hid (entryOk L = true) := Lib.hid (by rw [HENT.out, hm]; simp [q])
              rw [hm] at HMAY
              have q1 : (E % 4 != 0) = false := by simp [q]
              clear hm q
              go_wp2_with (first
                | (go_at_call 86; with_reducible refine Calls.mono HNUM.out ?_; rintro e wx ⟨rfl, h⟩; subst h)
                | (go_at_call 87; with_reducible refine Calls.mono HMAY.out ?_; rintro e wx ⟨rfl, h⟩; subst h))
              go_ret3
              exact ⟨HBEL.out, ⟨fun h => absurd h hy, fun _ h => absurd h hz, fun _ _ h => absurd HFR.out h, fun _ _ _ h => absurd HO2.out (by rw [h]; decide), fun _ _ _ _ => ⟨mb, by rw [HE.out]; try rfl, hmb, by rw [HN.out]; exact HSR.out⟩⟩⟩
            | false =>
              have HO2 : Hid (entryOk L = false) := Lib.hid (by rw [HENT.out, hm]; simp)
              rw [hm] at HMAY
              have q1 : (E % 4 != 0) = false := by simp [q]
              clear hm q
              go_wp2_with (first
                | (go_at_call 86; with_reducible refine Calls.mono HNUM.out ?_; rintro e wx ⟨rfl, h⟩; subst h)
                | (go_at_call 87; with_reducible refine Calls.mono HMAY.out ?_; rintro e wx ⟨rfl, h⟩; subst h))
              go_ret3
              exact ⟨HBEL.out, ⟨fun h => absurd h hy, fun _ h => absurd h hz, fun _ _ h => absurd HFR.out h, fun _ _ _ _ => rfl, fun _ _ _ h => absurd HO2.out (by rw [h]; decide)⟩⟩
          · have HO2 : Hid (entryOk L = false) := Lib.hid (by rw [HENT.out]; simp [q])
            have q1 : (E % 4 != 0) = true := by simp [q]
            clear q
            go_wp2_with (first
              | (go_at_call 86; with_reducible refine Calls.mono HNUM.out ?_; rintro e wx ⟨rfl, h⟩; subst h))
            go_ret3
            exact ⟨HBEL.out, ⟨fun h => absurd h hy, fun _ h => absurd h hz, fun _ _ h => absurd HFR.out h, fun _ _ _ _ => rfl, fun _ _ _ h => absurd HO2.out (by rw [h]; decide)⟩⟩
end Go.Proofs.YtkcjafnaephjiaaGreatDoor

/- Which segments cover a page: the document's count against the program's pages, in plain words. -/
namespace Go.Proofs.YtkcjafnaephjiaaGreatDoor
open Go.RowKit Go.Maps
set_option maxRecDepth 100000

def Seg.cov (s : Seg) (i : Nat) : Bool := decide (s.first ≤ i) && decide (i ≤ s.last)
theorem Seg.cov_iff {s : Seg} {i : Nat} : s.cov i = true ↔ s.first ≤ i ∧ i ≤ s.last := by simp [Seg.cov]
/-- How many of the first k segments cover page i. -/
def cnt (L : List Int) : Nat → Nat → Nat
  | 0, _ => 0
  | k + 1, i => cnt L k i + if (segAt L k).cov i then 1 else 0
def ovB (L : List Int) (s : Seg) (i : Nat) (old : List Int) (j : Nat) : Int :=
  if s.addr ≤ (i : Int) * 256 + j ∧ (i : Int) * 256 + j - s.addr < s.file then L.getD (s.off + ((i : Int) * 256 + j) - s.addr).toNat 0 else old.getD j 0
/-- The page i behind the first k segments. -/
def pgTo (L : List Int) (i : Nat) : Nat → Pg
  | 0 => Pg.zero
  | k + 1 => if (segAt L k).cov i then ⟨(segAt L k).perm, (List.range 256).map (ovB L (segAt L k) i (pgTo L i k).bytes)⟩ else pgTo L i k

theorem cnt_mono (L : List Int) (i : Nat) : ∀ k n, k ≤ n → cnt L k i ≤ cnt L n i := by
  intro k n h
  induction n with
  | zero => obtain rfl : k = 0 := by omega
            exact Nat.le_refl _
  | succ n ih =>
    by_cases e : k = n + 1
    · subst e; exact Nat.le_refl _
    · exact Nat.le_trans (ih (by omega)) (Nat.le_add_right _ _)
theorem cnt_le (L : List Int) (i : Nat) : ∀ k, cnt L k i ≤ k
  | 0 => Nat.le_refl _
  | k + 1 => by have := cnt_le L i k; simp only [cnt]; split <;> omega

theorem spaceTo_none (L : List Int) (i : Nat) : ∀ k, spaceTo L k i = none ↔ cnt L k i = 0
  | 0 => by simp [spaceTo, cnt]
  | k + 1 => by
    have ih := spaceTo_none L i k
    simp only [spaceTo, layTo, cnt]
    by_cases c : (segAt L k).cov i = true
    · have := Seg.cov_iff.1 c
      rw [if_pos ⟨this.1, by omega⟩, if_pos c]
      simp
    · have : ¬ ((segAt L k).first ≤ i ∧ i < (segAt L k).last + 1) := fun h => c (Seg.cov_iff.2 ⟨h.1, by omega⟩)
      rw [if_neg this, if_neg c, ih]
      omega
theorem pgTo_zero (L : List Int) (i : Nat) : ∀ k, cnt L k i = 0 → pgTo L i k = Pg.zero
  | 0, _ => rfl
  | k + 1, h => by
    simp only [cnt] at h
    by_cases c : (segAt L k).cov i = true
    · rw [if_pos c] at h; omega
    · rw [if_neg c] at h
      simp only [pgTo, if_neg c]
      exact pgTo_zero L i k (by omega)
theorem spaceTo_one (L : List Int) (i : Nat) : ∀ k, cnt L k i = 1 → spaceTo L k i = some (pgTo L i k)
  | 0, h => by simp [cnt] at h
  | k + 1, h => by
    simp only [cnt] at h
    by_cases c : (segAt L k).cov i = true
    · have hc := Seg.cov_iff.1 c
      rw [if_pos c] at h
      have hz := pgTo_zero L i k (by omega)
      simp only [spaceTo, layTo, pgTo, if_pos c]
      rw [if_pos ⟨hc.1, by omega⟩, hz]
      congr 1
      unfold segPage
      congr 1
      apply List.map_congr_left
      intro j hj
      have hj := List.mem_range.1 hj
      unfold segByte ovB
      have e1 : (256 * (i : Int) + j) = (i : Int) * 256 + j := by omega
      rw [e1]
      by_cases q : (segAt L k).addr ≤ (i : Int) * 256 + j ∧ (i : Int) * 256 + j < (segAt L k).addr + (segAt L k).file
      · rw [if_pos q, if_pos ⟨q.1, by omega⟩]
        congr 2
        omega
      · rw [if_neg q, if_neg (by omega)]
        rw [List.getD_eq_getElem?_getD, show Pg.zero.bytes = List.replicate 256 (0 : Int) from rfl, List.getElem?_replicate, if_pos hj]
        rfl
    · have : ¬ ((segAt L k).first ≤ i ∧ i < (segAt L k).last + 1) := fun h => c (Seg.cov_iff.2 ⟨h.1, by omega⟩)
      rw [if_neg c] at h
      simp only [spaceTo, layTo, pgTo, if_neg c, if_neg this]
      exact spaceTo_one L i k (by omega)
theorem free_iff (L : List Int) (N : Nat) : (∀ k, k < N → FreeAt L k) ↔ ∀ i, cnt L N i ≤ 1 := by
  constructor
  · intro h i
    have : ∀ k, k ≤ N → cnt L k i ≤ 1 := by
      intro k
      induction k with
      | zero => intro _; simp [cnt]
      | succ k ih =>
        intro hk
        have ih := ih (by omega)
        simp only [cnt]
        by_cases c : (segAt L k).cov i = true
        · have hc := Seg.cov_iff.1 c
          have := (spaceTo_none L i k).1 (h k (by omega) i hc.1 hc.2)
          rw [if_pos c]; omega
        · rw [if_neg c]; omega
    exact this N (Nat.le_refl _)
  · intro h k hk n h1 h2
    refine (spaceTo_none L n k).2 ?_
    have h3 := cnt_mono L n (k + 1) N (by omega)
    have h4 := h n
    simp only [cnt, if_pos (Seg.cov_iff.2 ⟨h1, h2⟩)] at h3
    omega

theorem pgTo_wf (L : List Int) (hb : ∀ x ∈ L, 0 ≤ x ∧ x ≤ 255) (i : Nat) : ∀ k, (∀ j, j < k → SegFits L (segAt L j)) → (pgTo L i k).wf
  | 0, _ => Pg.zero_wf
  | k + 1, h => by
    have ih := pgTo_wf L hb i k fun j hj => h j (by omega)
    have hf := h k (by omega)
    simp only [pgTo]
    by_cases c : (segAt L k).cov i = true
    · rw [if_pos c]
      refine ⟨by simp, fun x hx => ?_, hf.perm⟩
      obtain ⟨j, hj, rfl⟩ := List.mem_map.1 hx
      have hj := List.mem_range.1 hj
      unfold ovB
      split
      · rename_i q
        have h1 := hf.off
        have h2 := hf.fits
        have : (segAt L k).off + ((i : Int) * 256 + j) - (segAt L k).addr < L.length := by omega
        rw [List.getD_eq_getElem?_getD, List.getElem?_eq_getElem (by omega)]
        exact hb _ (List.getElem_mem _)
      · rw [List.getD_eq_getElem?_getD, List.getElem?_eq_getElem (by rw [ih.len]; exact hj)]
        exact ih.byte _ (List.getElem_mem _)
    · rw [if_neg c]; exact ih

theorem cnt_out (L : List Int) (i : Nat) (hi : 254 ≤ i) : ∀ k, (∀ j, j < k → SegFits L (segAt L j)) → cnt L k i = 0
  | 0, _ => rfl
  | k + 1, h => by
    have ih := cnt_out L i hi k fun j hj => h j (by omega)
    have hf := h k (by omega)
    have h1 := hf.top
    have c : ¬ (segAt L k).cov i = true := fun c => by
      have := (Seg.cov_iff.1 c).2
      unfold Seg.last at this
      omega
    simp only [cnt, ih, if_neg c]
theorem row_keep_ne {w0 w w' : World} {base G : Nat} {e : TypeId} {size : Nat} {v : Value} {n : Nat} {xs : List Value} (h : w0.ownsRow base e size v n xs) (hb : Bel w0 w) (hk : Keep (fun q => q = G) w w') (hG : w0.heap.size ≤ G) : w'.ownsRow base e size v n xs := by
  have h1 := row_bel h hb
  refine ⟨h1.1, ?_⟩
  rcases h.2 with h2 | ⟨g, cap, cur, rfl, h3, h4, h5⟩
  · exact .inl h2
  · have hg := (Array.getElem?_eq_some_iff.1 h4).1
    exact .inr ⟨g, cap, cur, rfl, h3, ((hk.block g (Nat.lt_of_lt_of_le hg hb.size) (by omega)).trans (hb.block g hg)).trans h4, h5⟩

/-- The document's pages among the first i. -/
def docNums (L : List Int) (N i : Nat) : List Nat := (List.range i).filter fun n => cnt L N n == 1
theorem docNums_succ (L : List Int) (N i : Nat) : docNums L N (i + 1) = docNums L N i ++ if cnt L N i = 1 then [i] else [] := by
  unfold docNums
  rw [List.range_succ, List.filter_append]
  by_cases h : cnt L N i = 1 <;> simp [List.filter_cons, h]
theorem docNums_length (L : List Int) (N i : Nat) : (docNums L N i).length ≤ i := by
  have := List.length_filter_le (fun n => cnt L N n == 1) (List.range i)
  simpa [docNums] using this
theorem docNums_all (L : List Int) (N : Nat) (h : ∀ i, cnt L N i ≤ 1) : docNums L N 256 = pageNums (spaceTo L N) := by
  unfold docNums pageNums
  apply List.filter_congr
  intro n _
  by_cases c : cnt L N n = 1
  · rw [spaceTo_one L n N c]; simp [c]
  · rw [(spaceTo_none L n N).2 (by have := h n; omega)]; simp [c]
def docCells (L : List Int) (N : Nat) (ns : List Nat) : List Value := ns.flatMap fun n => refCells n (pgTo L n N)
theorem docCells_all (L : List Int) (N : Nat) : docCells L N (docNums L N 256) = (docNums L N 256).flatMap fun n => refCells n ((spaceTo L N n).getD Pg.zero) := by
  unfold docCells
  rw [List.flatMap_eq_foldl, List.flatMap_eq_foldl]
  have : ∀ (ns : List Nat) (acc : List Value), (∀ n ∈ ns, cnt L N n = 1) → ns.foldl (fun acc n => acc ++ refCells n (pgTo L n N)) acc = ns.foldl (fun acc n => acc ++ refCells n ((spaceTo L N n).getD Pg.zero)) acc := by
    intro ns
    induction ns with
    | nil => intro _ _; rfl
    | cons n ns ih =>
      intro acc h
      simp only [List.foldl_cons]
      rw [spaceTo_one L n N (h n (by simp))]
      exact ih _ fun m hm => h m (by simp [hm])
  exact this _ _ fun n hn => by have := (List.mem_filter.1 hn).2; simpa using this

/-- The document's search for the page of the entry. -/
def docFind (L : List Int) (N : Nat) (E : Int) (n : Nat) : Bool := ((n : Int) == E / 256) && (bits .and .i64 (pgTo L n N).perm 1 == 1)
theorem and1 (p : Int) (h0 : 0 ≤ p) (h1 : p ≤ 7) : (bits .and .i64 p 1 == 1) = !(bits .and .u8 p 1 == 0) := by
  have : p = 0 ∨ p = 1 ∨ p = 2 ∨ p = 3 ∨ p = 4 ∨ p = 5 ∨ p = 6 ∨ p = 7 := by omega
  rcases this with rfl | rfl | rfl | rfl | rfl | rfl | rfl | rfl <;> decide
theorem entry_doc (L : List Int) (N : Nat) (hN : (segN L).toNat = N) (hf : ∀ j, j < N → SegFits L (segAt L j)) (hb : ∀ x ∈ L, 0 ≤ x ∧ x ≤ 255) (h : ∀ i, cnt L N i ≤ 1) (E : Int) (hE : numAt L 24 8 = E) (h0 : 0 ≤ E) :
    entryOk L = (decide (E % 4 = 0) && decide (E < 65536) && (docNums L N 256).any (docFind L N E)) := by
  unfold entryOk
  rw [hN, hE]
  by_cases q : E % 4 = 0
  · by_cases q2 : E < 65536
    · have hm : mayB (spaceTo L N) E 1 1 = canAt (spaceTo L N) (E / 256).toNat 1 := by
        unfold mayB
        rw [if_neg (by omega), if_neg (by omega)]
        have : lastOf E 1 = (E / 256).toNat + 1 := by unfold lastOf; omega
        rw [this, mayAll_snoc _ _ _ _ (Nat.le_refl _)]
        simp [mayAll]
      rw [hm]
      simp only [q, q2, decide_true, Bool.true_and, beq_self_eq_true]
      obtain ⟨n, hn⟩ : ∃ n, n = (E / 256).toNat := ⟨_, rfl⟩
      have hnE : (n : Int) = E / 256 := by omega
      rw [← hn]
      by_cases c : cnt L N n = 1
      · have hw := pgTo_wf L hb n N hf
        have e1 : canAt (spaceTo L N) n 1 = (bits .and .i64 (pgTo L n N).perm 1 == 1) := by
          unfold canAt Pg.can
          rw [spaceTo_one L n N c, and1 _ hw.perm.1 hw.perm.2]
          rfl
        rw [e1, Bool.eq_iff_iff, List.any_eq_true]
        constructor
        · intro h1
          exact ⟨n, List.mem_filter.2 ⟨List.mem_range.2 (by omega), by simp [c]⟩, by unfold docFind; rw [h1]; simp [hnE]⟩
        · rintro ⟨k, _, h2⟩
          unfold docFind at h2
          rw [Bool.and_eq_true] at h2
          have : k = n := by have := h2.1; simp at this; omega
          subst this
          exact h2.2
      · have e1 : canAt (spaceTo L N) n 1 = false := by
          unfold canAt Pg.can
          rw [(spaceTo_none L n N).2 (by have := h n; omega)]
          decide
        rw [e1]
        symm
        rw [List.any_eq_false]
        intro k hk h2
        unfold docFind at h2
        rw [Bool.and_eq_true] at h2
        have : k = n := by have := h2.1; simp at this; omega
        subst this
        have := (List.mem_filter.1 hk).2
        simp at this
        exact c this
    · have hm : mayB (spaceTo L N) E 1 1 = false := by
        unfold mayB
        rw [if_neg (by omega), if_pos (by omega)]
      rw [hm]
      simp [q2]
  · simp [q]
end Go.Proofs.YtkcjafnaephjiaaGreatDoor
