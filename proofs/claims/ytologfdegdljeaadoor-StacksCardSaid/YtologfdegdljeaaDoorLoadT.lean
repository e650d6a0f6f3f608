/- tinyos.Load: what machine.Load answers, its pages told; num. -/
import Derived.Test.YtologfdegdljeaaDoorLoadM
namespace Go.Proofs.YtologfdegdljeaaDoor
open Go.RowKit Go.Maps
set_option maxRecDepth 100000

theorem FixVar.keep {S : Nat → Prop} {w w' : World} (h : FixVar w) (hb : Keep S w w') (hs : ¬ S 1) : FixVar w' :=
  ⟨fun j v hv => (World.cell?_of_block (a := ⟨_, 0 + j, none⟩) (hb.block _ h.2 hs)).trans (h.1 j v hv), Nat.lt_of_lt_of_le h.2 hb.size⟩

set_option maxHeartbeats 4000000 in
theorem loadT_err (args : Value) (n : Int) (w : World) (h : ∀ W, Bel w W → Calls Tryd.prog 27 #[args] W fun e w' => e = .returned (.tuple #[.map none, .int .u64 0, errN n]) ∧ Bel W w') :
    Calls Tryd.prog 16 #[args] w fun e w' => e = .returned (.tuple #[.agg #[.int .u64 0, .slice none 0 0], errN n]) ∧ Bel w w' := by
  have H := Lib.hid h
  clear h
  go_enter Tryd.func16, Tryd.ntmps16
  go_upto_region 1 with fail
  have k1 : Bel w (w.alloc (.cells #[.int .u64 0, .slice none 0 0] 54)) := Below.heap_alloc' w _
  have B1 := Blk.new w [.int .u64 0, .slice none 0 0] 54
  generalize w.alloc (.cells #[.int .u64 0, .slice none 0 0] 54) = w1 at *
  have HB1 := Lib.hid B1
  have hg := B1.lt
  have K1 := Lib.hid k1
  have HM := Lib.hid (H.out w1 k1)
  have hge : w.heap.size ≤ w.heap.size := Nat.le_refl _
  generalize hgg : w.heap.size = g at *
  have HG := Lib.hid hgg
  clear k1 B1 H hgg hge
  go_upto_region 2 with (go_at_call 27; with_reducible refine Calls.mono HM.out ?_; rintro e w2 ⟨rfl, k2⟩)
  have B2 := HB1.out.bel k2
  have c := B2.cell
  have f := B2.frozen
  have hl := B2.lt
  have K2 := Lib.hid (K1.out.tr k2)
  have hgw : w.heap.size ≤ g := by rw [HG.out]; exact Nat.le_refl _
  clear k2 B2
  go_wp2
  refine bodyPost_ret (v := .tuple #[.agg #[.int .u64 0, .slice none 0 0], errN n]) (by simp [results, Tryd.results16, go_sem, c]) rfl ⟨rfl, ?_⟩
  first
    | exact K2.out
    | exact (K2.out.store (p := ⟨g, 0, none⟩) hgw _).store (p := ⟨g, 1, none⟩) hgw _

set_option maxHeartbeats 4000000 in
theorem loadT_ok (args : Value) (E : Int) (m : Pages) (w : World) (hm : PagesOk m) (h : ∀ W, Bel w W → Calls Tryd.prog 27 #[args] W fun e w' => (∃ mb, e = .returned (.tuple #[.map (some mb), .int .u64 E, .nilIface]) ∧ Sp w' mb m) ∧ Bel W w') :
    Calls Tryd.prog 16 #[args] w fun e w' => ∃ v, e = .returned (.tuple #[.agg #[.int .u64 E, v], .nilIface]) ∧ w'.ownsRow w.heap.size 80 258 v (pageNums m).length (pagesCells m (pageNums m)) ∧ Bel w w' := by
  have H := Lib.hid h
  clear h
  go_enter Tryd.func16, Tryd.ntmps16
  go_upto_region 1 with fail
  have k1 : Bel w (w.alloc (.cells #[.int .u64 0, .slice none 0 0] 54)) := Below.heap_alloc' w _
  have B1 := Blk.new w [.int .u64 0, .slice none 0 0] 54
  generalize w.alloc (.cells #[.int .u64 0, .slice none 0 0] 54) = w1 at *
  have HB1 := Lib.hid B1
  have hg := B1.lt
  have K1 := Lib.hid k1
  have HM := Lib.hid (H.out w1 k1)
  generalize hgg : w.heap.size = g at *
  have HG := Lib.hid hgg
  clear k1 B1 H hgg
  go_upto_region 4 with (go_at_call 27; with_reducible refine Calls.mono HM.out ?_; rintro e w2 ⟨⟨mb, rfl, hs⟩, k2⟩)
  have B2 := HB1.out.bel k2
  have K2 := Lib.hid (K1.out.tr k2)
  have hgw : w.heap.size ≤ g := by rw [HG.out]; exact Nat.le_refl _
  have HP := Lib.hid (pages_any mb m w2 hs hm)
  have HB2 := Lib.hid B2
  have hl := B2.lt
  clear k2 B2 hs
  go_wp2_with (go_at_call 24; with_reducible refine Calls.mono HP.out ?_; rintro e w3 ⟨v, rfl, hr, k3⟩
               have HR := Lib.hid hr
               obtain ⟨p, cap, rfl, _, _, _⟩ := row_slice hr
               have B3 := HB2.out.bel k3
               have c := B3.cell
               have f := B3.frozen
               have hl3 := B3.lt
               have K3 := Lib.hid (K2.out.tr k3)
               clear k3 B3 hr)
  refine bodyPost_ret (v := .tuple #[.agg #[.int .u64 E, .slice p (pageNums m).length cap], .nilIface]) (by simp [results, Tryd.results16, go_sem, c]) rfl ⟨_, rfl, ?_, (K3.out.store (p := ⟨g, 0, none⟩) hgw _).store (p := ⟨g, 1, none⟩) hgw _⟩
  exact (row_keep HR.out ((Keep.setCell w3 g 0 _).tr (Keep.setCell _ g 1 _)) (fun q hq e => by omega)).mono K2.out.size

set_option maxHeartbeats 4000000 in
theorem num_any (n : Int) (w : World) : Calls Tryd.prog 9 #[.int .i64 n] w fun e w' => e = .returned (.int .i64 n) ∧ w = w' := by
  go_enter Tryd.func9, Tryd.ntmps9
  go_wp2
  go_ret
  exact ⟨rfl, rfl⟩
end Go.Proofs.YtologfdegdljeaaDoor
