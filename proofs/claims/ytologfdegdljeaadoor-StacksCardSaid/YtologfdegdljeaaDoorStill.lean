/- The laws' own hands: roomy, same, still. -/
import Derived.Test.YtologfdegdljeaaDoorNum
import Derived.Test.YtologfdegdljeaaDoorPoke
import Derived.Test.YtologfdegdljeaaDoorPut
import Derived.Test.YtologfdegdljeaaDoorFill
import Derived.Laws.MakeOwn
import Derived.Deep.DeepCutAuto
namespace Go.Proofs.YtologfdegdljeaaDoor
open Go.RowKit
set_option maxRecDepth 100000

/-- A slice of bytes. -/
def BS (w : World) (p : Option Addr) (L : List Int) : Prop := (∀ x ∈ L, 0 ≤ x ∧ x ≤ 255) ∧ (0 < L.length → ∃ b o, p = some ⟨b, o, none⟩ ∧ b < w.heap.size ∧ Bts w b o L)
theorem BS.keep {w w' : World} {S : Nat → Prop} {p : Option Addr} {L : List Int} (h : BS w p L) (k : Keep S w w') (hs : ∀ b, b < w.heap.size → ¬ S b) : BS w' p L :=
  ⟨h.1, fun h0 => by
    obtain ⟨b, o, h1, h2, h3⟩ := h.2 h0
    exact ⟨b, o, h1, Nat.lt_of_lt_of_le h2 k.size, h3.keep k (fun _ => hs b h2)⟩⟩
theorem BS.bel {w w' : World} {p : Option Addr} {L : List Int} (h : BS w p L) (k : Bel w w') : BS w' p L := h.keep (Keep.of_bel (fun _ => False) k) (fun _ _ h => h)

theorem byteInfo : (Tryd.prog.info? 5).map (fun i => (i.zero, i.size, i.bytes)) = some (some (.int .u8 0), 1, 1) := by kernel_rfl
theorem make_bytes (n : Nat) (hn : n ≤ 1000000) : ∃ zs : List Value, zs.length = n ∧ ∀ (x : Int) (w : World), x = n → (Instr.makeSlice 51 (.int .i64 x) (.int .i64 x)).run Tryd.prog w = .ok (.slice (some ⟨w.heap.size, 0, none⟩) n n) (w.alloc (.cells zs.toArray 5)) := by
  obtain ⟨i, hi, h1, h2, h3⟩ := info_parts byteInfo
  refine ⟨(madeCells (Value.int .u8 0).cells (n * i.size)).toList, by rw [h2]; simp [size_madeCells], fun x w hx => ?_⟩
  subst hx
  have := run_makeSlice (P := Tryd.prog) (w := w) 51 5 i (.int .u8 0) Tryd.underlying51 hi h1 .i64 .i64 n n (by omega) (by omega) (by rw [h2]; omega) (by rw [h3]; omega) (by omega)
  simpa using this

set_option maxHeartbeats 4000000 in
theorem roomy_any (p : Option Addr) (cap : Nat) (L : List Int) (w : World) (hr : BS w p L) (hlen : L.length ≤ 200000) :
    Calls Tryd.prog 15 #[.slice p L.length cap] w fun e w' => ∃ g, e = .returned (.slice (some ⟨g, 0, none⟩) L.length (L.length + 2)) ∧ w.heap.size ≤ g ∧ Blk w' g ((L ++ [71, 72]).map (Value.int .u8)) 5 ∧ Bel w w' := by
  obtain ⟨zs, hzl, hmk⟩ := make_bytes (L.length + 2) (by omega)
  have hmk2 := fun W => hmk ((L.length : Int) + 2) W (by omega)
  obtain ⟨news, hnews⟩ : ∃ news : List Value, news = L.map (Value.int .u8) := ⟨_, rfl⟩
  have hnl : news.length = L.length := by rw [hnews]; simp
  have HZL := Lib.hid hzl
  have HNL := Lib.hid hnl
  have HNO : Hid (∀ v ∈ news, v.oneCell' = true) := Lib.hid (by rw [hnews]; intro v hv; obtain ⟨x, _, rfl⟩ := List.mem_map.1 hv; rfl)
  have HSRC : Hid (∀ W, Bel w W → 0 < news.length → ∃ ad, p = some ad ∧ ∀ j v, news[j]? = some v → W.cell? (ad.add j) = some v) := Lib.hid fun W hW h0 => by
    obtain ⟨b, o, h1, h2, h3⟩ := (hr.bel hW).2 (by omega)
    refine ⟨_, h1, fun j v hj => ?_⟩
    have hjl := (List.getElem?_eq_some_iff.1 hj).1
    rw [Addr.add_mid, h3.cell j (by omega), ← hj, hnews, List.getElem?_map]
  have HNW := Lib.hid hnews
  clear hmk hzl hnl hnews
  go_enter Tryd.func15, Tryd.ntmps15
  go_upto_region 3 with fail
  have k1 : Bel w (w.alloc (.cells zs.toArray 5)) := Below.heap_alloc' w _
  have B1 := Blk.new w zs 5
  generalize w.alloc (.cells zs.toArray 5) = w1 at *
  have K1 := Lib.hid k1
  have HB1 := Lib.hid B1
  have hg := k1.size
  obtain ⟨g, hge⟩ : ∃ g, g = w.heap.size := ⟨_, rfl⟩
  rw [← hge] at HB1
  have HGE := Lib.hid hge
  rw [← hge]
  clear k1 B1 hge hmk2
  go_upto_region 4 with (refine wpList_copy_splice rfl (.tmp 10) (.tmp 11) 51 51 rfl 5 Tryd.underlying51 (by kernel_rfl) _ _ _ _ _ _ rfl rfl g 0 zs 5 HB1.out news (by rw [HNL.out]; exact (Nat.min_eq_left (by omega)).symm) (fun h0 => ⟨rfl, HSRC.out _ K1.out h0⟩) (by rw [HNL.out, HZL.out]; omega) HNO.out g w1 (Below.refl _ _) (Nat.le_refl _) ?_; intro w2 B2 K2)
  obtain ⟨a, b, c, hz1, hz2⟩ : ∃ a b c, zs = a ++ [b, c] ∧ a.length = L.length := by
    obtain ⟨a, z, h1, h2, h3⟩ := split_at zs L.length 2 HZL.out
    match z, h3 with
    | [b, c], _ => exact ⟨a, b, c, h1, h2⟩
  have hsp : splice zs 0 news = news ++ [b, c] := by
    unfold splice
    rw [hz1, Nat.zero_add, HNL.out, ← hz2, List.drop_left]
    simp
  have B3 : Blk w2 g (news ++ [b, c]) 5 := by have := B2.out; rw [hsp] at this; exact this
  have c0 := B3.cell L.length
  have c1 := B3.cell (L.length + 1)
  rw [List.getElem?_append_right (by rw [HNL.out]; omega), HNL.out] at c0 c1
  simp only [Nat.sub_self, List.getElem?_cons_zero, Nat.add_sub_cancel_left, List.getElem?_cons_succ] at c0 c1
  have f0 := B3.frozen
  have hl2 := B3.lt
  have HB3 := Lib.hid B3
  have HK2 : Hid (Bel w w2) := Lib.hid (by have := K2; rw [HGE.out] at this; exact Below.trans K1.out this)
  have hgw : w.heap.size ≤ g := by rw [HGE.out]; exact Nat.le_refl _
  clear B2 K2 hz1 hz2 hsp B3 HB1
  go_wp2
  go_ret
  refine ⟨g, rfl, hgw, ?_, (HK2.out.store (p := ⟨g, L.length, none⟩) hgw _).store (p := ⟨g, L.length + 1, none⟩) hgw _⟩
  have := (HB3.out.setCell (o := L.length) (.int .u8 71)).setCell (o := L.length + 1) (.int .u8 72)
  have e : ((news ++ [b, c]).set L.length (.int .u8 71)).set (L.length + 1) (.int .u8 72) = (L ++ [71, 72]).map (Value.int .u8) := by
    rw [← HNL.out, List.set_append_right _ _ (Nat.le_refl _), List.set_append_right _ _ (by omega), HNW.out]
    simp
  rw [e] at this
  exact this

set_option maxHeartbeats 4000000 in
theorem same_bytes (p q : Option Addr) (c d : Nat) (L : List Int) (w : World) (hp : BS w p L) (hq : BS w q L) (hlen : L.length ≤ 1000000) :
    Calls Tryd.prog 28 #[.slice p L.length c, .slice q L.length d] w fun e w' => e = .returned (.bool true) ∧ ∃ n, w' = w.drewN n := by
  have HP := Lib.hid hp
  have HQ := Lib.hid hq
  clear hp hq
  go_enter Tryd.func28, Tryd.ntmps28
  go_wp2
  go_loopw [5] (fun i wr => ∃ k nn : Nat, k ≤ L.length ∧ i = .int .i64 k ∧ wr = w.drewN nn) (fun i _ => L.length - (intOf i).toNat)
  case atStart => exact ⟨0, 0, Nat.zero_le _, rfl, rfl⟩
  case round =>
    obtain ⟨k, nn, hk, rfl, rfl⟩ := hrel
    by_cases hlt : k < L.length
    · obtain ⟨b1, o1, rfl, _, h1⟩ := HP.out.2 (by omega)
      obtain ⟨b2, o2, rfl, _, h2⟩ := HQ.out.2 (by omega)
      have a1 : w.cell? ⟨b1, o1 + k, none⟩ = some (.int .u8 (L.getD k 0)) := h1.at_ k hlt
      have a2 : w.cell? ⟨b2, o2 + k, none⟩ = some (.int .u8 (L.getD k 0)) := h2.at_ k hlt
      clear h1 h2
      generalize L.getD k 0 = x at *
      have hlt1 : (k : Int) < (L.length : Int) := by omega
      have hk0 : (0 : Int) ≤ (k : Int) := by omega
      go_wp2
      go_quiet (fail)
      go_wp2
      go_roundw
      case rel => exact ⟨k + 1, nn + nq, by omega, by go_num, by simp [World.drewN_drewN]⟩
      case measure => simp [intOf] <;> omega
    · obtain rfl : k = L.length := by omega
      go_wp2
      go_ret
      exact ⟨rfl, nn, rfl⟩

set_option maxHeartbeats 4000000 in
theorem still_any (g : Nat) (p : Option Addr) (cap : Nat) (L : List Int) (w : World) (hB : Blk w g ((L ++ [71, 72]).map (Value.int .u8)) 5) (hr : BS w p L) (hlen : L.length ≤ 200000) :
    Calls Tryd.prog 17 #[.slice (some ⟨g, 0, none⟩) L.length (L.length + 2), .slice p L.length cap] w fun e w' => e = .returned (.bool true) ∧ Keep (fun k => k = g) w w' := by
  have hg := hB.lt
  have hbs : BS w (some ⟨g, 0, none⟩) L := ⟨hr.1, fun h0 => ⟨g, 0, rfl, hg, ⟨fun i hi => by
    rw [Nat.zero_add, hB.cell, List.getElem?_map, List.getElem?_append_left hi], hr.1⟩⟩⟩
  have hsm := same_bytes (some ⟨g, 0, none⟩) p (L.length + 2) cap L w hbs hr (by omega)
  have HSM := Lib.hid hsm
  have c0 : w.cell? ⟨g, L.length, none⟩ = some (.int .u8 71) := by rw [hB.cell]; simp
  have c1 : w.cell? ⟨g, L.length + 1, none⟩ = some (.int .u8 72) := by rw [hB.cell]; simp
  have HB := Lib.hid hB
  clear hbs hsm hB hr
  go_enter Tryd.func17, Tryd.ntmps17
  go_wp2_with (go_at_call 28; refine Calls.mono HSM.out ?_; rintro e w1 ⟨rfl, n, rfl⟩)
  go_loopw [8] (fun i wr => ∃ (k : Nat) (l : List Int), k ≤ L.length + 2 ∧ i = .int .i64 k ∧ l.length = L.length + 2 ∧ Blk wr g (l.map (Value.int .u8)) 5 ∧ Keep (fun k => k = g) w wr) (fun i _ => L.length + 2 - (intOf i).toNat)
  case atStart => exact ⟨0, L ++ [71, 72], Nat.zero_le _, rfl, by simp, HB.out, ⟨rfl, rfl, rfl, Nat.le_refl _, fun _ _ _ => rfl⟩⟩
  case round =>
    obtain ⟨k, l, hk, rfl, hl, hb, hkr⟩ := hrel
    by_cases hlt : k < L.length + 2
    · have cc : wr.cell? ⟨g, k, none⟩ = some (.int .u8 (l.getD k 0)) := by
        rw [hb.cell, List.getElem?_map, List.getD_eq_getElem?_getD, List.getElem?_eq_getElem (by omega)]; rfl
      have cf := hb.frozen k
      have hgl := hb.lt
      have HL := Lib.hid hl
      have HBB := Lib.hid hb
      have HKR := Lib.hid hkr
      clear hl hb hkr
      generalize l.getD k 0 = x at *
      go_wp2
      go_roundw
      case rel => exact ⟨k + 1, l.set k (bits .xor .u8 x 85), by omega, by go_num, by rw [List.length_set]; exact HL.out, by have := HBB.out.setCell (o := k) (.int .u8 (bits .xor .u8 x 85)); rw [List.map_set]; exact this, HKR.out.tr (Keep.setCell _ _ _ _)⟩
      case measure => simp [intOf] <;> omega
    · obtain rfl : k = L.length + 2 := by omega
      have HKR := Lib.hid hkr
      clear hkr hb hl
      go_wp2
      go_ret
      exact ⟨rfl, HKR.out⟩
end Go.Proofs.YtologfdegdljeaaDoor
