/- The laws' own executable. -/
import Derived.Test.YtkcjafnaephjiaaGreatDoorPart25
import Derived.Test.YtkcjafnaephjiaaGreatDoorPart01
import Derived.Test.YtkcjafnaephjiaaGreatDoorPart39
import Derived.Test.YtkcjafnaephjiaaGreatDoorPart40
import Derived.Test.YtkcjafnaephjiaaGreatDoorPart41
import Derived.Test.YtkcjafnaephjiaaGreatDoorPart47
set_option linter.unusedVariables false
set_option linter.unusedSimpArgs false
namespace Go.Proofs.YtkcjafnaephjiaaGreatDoor
open Go.RowKit
set_option maxRecDepth 100000

theorem madeCells_one (z : Value) (n : Nat) : madeCells #[z] n = (List.replicate n z).toArray := zeroCells_one z n ▸ by simp [madeCells, Builtin.zeroCells]
theorem make_zeros (n : Nat) (hn : n ≤ 1000000) (x : Int) (w : World) (hx : x = n) : (Instr.makeSlice 32 (.int .i64 x) (.int .i64 x)).run Tryz.prog w = .ok (.slice (some ⟨w.heap.size, 0, none⟩) n n) (w.alloc (.cells (List.replicate n (Value.int .u8 0)).toArray 5)) := by
  obtain ⟨i, hi, h1, h2, h3⟩ := info_parts byteInfo
  subst hx
  have := run_makeSlice (P := Tryz.prog) (w := w) 32 5 i (.int .u8 0) Tryz.underlying32 hi h1 .i64 .i64 n n (by omega) (by omega) (by rw [h2]; omega) (by rw [h3]; omega) (by omega)
  rw [h2, Nat.mul_one, show (Value.int .u8 0).cells = #[Value.int .u8 0] from rfl, madeCells_one] at this
  exact this
def tinyBase : List Int := [127, 69, 76, 70, 2, 1, 1] ++ List.replicate 253 0
/-- The bytes of tiny. -/
def tinyL : List Int := (((((((((((((((tinyBase).set 16 2).set 18 243).set 20 1).set 25 1).set 32 64).set 52 64).set 54 56).set 56 1).set 64 1).set 68 5).set 73 1).set 81 1).set 96 4).set 104 4).set 256 22
set_option maxHeartbeats 16000000 in
theorem tiny_any (w : World) : Calls Tryz.prog 11 #[] w fun e w' => (∃ g, e = .returned (.slice (some ⟨g, 0, none⟩) 260 260) ∧ w.heap.size ≤ g ∧ Blk w' g (tinyL.map (Value.int .u8)) 5) ∧ Bel w w' := by
  obtain ⟨zs, hzs⟩ : ∃ zs, List.replicate 260 (Value.int .u8 0) = zs := ⟨_, rfl⟩
  have hmk := fun W => make_zeros 260 (by omega) 260 W rfl
  rw [hzs] at hmk
  have HZ := Lib.hid hzs
  clear hzs
  go_enter Tryz.func11, Tryz.ntmps11
  go_upto_region 2 with fail
  have k1 : Bel w (w.alloc (.cells zs.toArray 5)) := Bel.start w _
  have B1 := Blk.new w zs 5
  generalize w.alloc (.cells zs.toArray 5) = w1 at *
  obtain ⟨g, hg⟩ : ∃ g, w.heap.size = g := ⟨_, rfl⟩
  rw [hg] at B1 ⊢
  have hgw : w.heap.size ≤ g := by omega
  have HB1 := Lib.hid B1
  have HK1 := Lib.hid k1
  clear hg B1 k1 hmk
  go_upto_region 3 with (refine wpList_copy_str rfl (.tmp 3) (.const (.string ⟨#[127, 69, 76, 70, 2, 1, 1]⟩)) 32 9 rfl 5 Tryz.underlying32 (by kernel_rfl) g 0 260 260 ⟨#[127, 69, 76, 70, 2, 1, 1]⟩ rfl rfl zs 5 HB1.out (by decide) (by rw [← HZ.out]; decide) ?_; intro w2 B2' K2)
  have B2 : Blk w2 g (tinyBase.map (Value.int .u8)) 5 := by
    have := B2'.out
    rw [← HZ.out] at this
    exact this
  have c16 : w2.cell? ⟨g, 16, none⟩ = some (.int .u8 0) := by rw [B2.cell]; rfl
  have c18 : w2.cell? ⟨g, 18, none⟩ = some (.int .u8 0) := by rw [B2.cell]; rfl
  have c20 : w2.cell? ⟨g, 20, none⟩ = some (.int .u8 0) := by rw [B2.cell]; rfl
  have c25 : w2.cell? ⟨g, 25, none⟩ = some (.int .u8 0) := by rw [B2.cell]; rfl
  have c32 : w2.cell? ⟨g, 32, none⟩ = some (.int .u8 0) := by rw [B2.cell]; rfl
  have c52 : w2.cell? ⟨g, 52, none⟩ = some (.int .u8 0) := by rw [B2.cell]; rfl
  have c54 : w2.cell? ⟨g, 54, none⟩ = some (.int .u8 0) := by rw [B2.cell]; rfl
  have c56 : w2.cell? ⟨g, 56, none⟩ = some (.int .u8 0) := by rw [B2.cell]; rfl
  have c64 : w2.cell? ⟨g, 64, none⟩ = some (.int .u8 0) := by rw [B2.cell]; rfl
  have c68 : w2.cell? ⟨g, 68, none⟩ = some (.int .u8 0) := by rw [B2.cell]; rfl
  have c73 : w2.cell? ⟨g, 73, none⟩ = some (.int .u8 0) := by rw [B2.cell]; rfl
  have c81 : w2.cell? ⟨g, 81, none⟩ = some (.int .u8 0) := by rw [B2.cell]; rfl
  have c96 : w2.cell? ⟨g, 96, none⟩ = some (.int .u8 0) := by rw [B2.cell]; rfl
  have c104 : w2.cell? ⟨g, 104, none⟩ = some (.int .u8 0) := by rw [B2.cell]; rfl
  have c256 : w2.cell? ⟨g, 256, none⟩ = some (.int .u8 0) := by rw [B2.cell]; rfl
  have f2 := B2.frozen
  have hl := B2.lt
  have HB2 := Lib.hid B2
  have HK2 : Hid (Bel w w2) := Lib.hid (Below.trans HK1.out (K2.below _ HK1.out.size (fun q hq => by have hq : q = g := hq; omega)))
  clear B2 B2' K2
  go_wp2
  go_ret
  refine ⟨⟨g, rfl, hgw, ?_⟩, (((((((((((((((HK2.out).store (p := ⟨g, 16, none⟩) hgw _).store (p := ⟨g, 18, none⟩) hgw _).store (p := ⟨g, 20, none⟩) hgw _).store (p := ⟨g, 25, none⟩) hgw _).store (p := ⟨g, 32, none⟩) hgw _).store (p := ⟨g, 52, none⟩) hgw _).store (p := ⟨g, 54, none⟩) hgw _).store (p := ⟨g, 56, none⟩) hgw _).store (p := ⟨g, 64, none⟩) hgw _).store (p := ⟨g, 68, none⟩) hgw _).store (p := ⟨g, 73, none⟩) hgw _).store (p := ⟨g, 81, none⟩) hgw _).store (p := ⟨g, 96, none⟩) hgw _).store (p := ⟨g, 104, none⟩) hgw _).store (p := ⟨g, 256, none⟩) hgw _⟩
  have B := (((((((((((((((HB2.out).setCell (o := 16) (.int .u8 2)).setCell (o := 18) (.int .u8 243)).setCell (o := 20) (.int .u8 1)).setCell (o := 25) (.int .u8 1)).setCell (o := 32) (.int .u8 64)).setCell (o := 52) (.int .u8 64)).setCell (o := 54) (.int .u8 56)).setCell (o := 56) (.int .u8 1)).setCell (o := 64) (.int .u8 1)).setCell (o := 68) (.int .u8 5)).setCell (o := 73) (.int .u8 1)).setCell (o := 81) (.int .u8 1)).setCell (o := 96) (.int .u8 4)).setCell (o := 104) (.int .u8 4)).setCell (o := 256) (.int .u8 22)
  unfold tinyL
  simp only [List.map_set]
  exact B
end Go.Proofs.YtkcjafnaephjiaaGreatDoor

/- Boot of the laws' own executable alone: no error. Plain. -/
namespace Go.Proofs.YtkcjafnaephjiaaGreatDoor
open Go.RowKit Go.Maps Go.Shelf
set_option maxRecDepth 100000

def livesLims : Lims := ⟨2, 10, 2, 3, 1000⟩
def initB : ByteArray := ⟨#[47, 105, 110, 105, 116]⟩
def livesF (p : Option Addr) (cap : Nat) : List FileA := [⟨initB, false, p, cap, tinyL⟩]
def livesN : List Nd := [rootNd, ⟨1, ⟨#[105, 110, 105, 116]⟩, false, tinyL, emptyB⟩]
theorem tiny_header : headerOk tinyL = true := by kernel_rfl
theorem tiny_segs : segsOk tinyL = true := by kernel_rfl
theorem tiny_n : (segN tinyL).toNat = 1 := by kernel_rfl
theorem tiny_entry : entryOk tinyL = true := by kernel_rfl
theorem tiny_load : loadE tinyL = 0 := by
  unfold loadE
  rw [tiny_header, tiny_segs, tiny_n, tiny_entry]
  rw [if_neg (by simp), if_neg (by simp), if_pos (fun k hk => ?_), if_pos rfl]
  obtain rfl : k = 0 := by omega
  intro n _ _
  rfl
theorem lives_files (p : Option Addr) (cap : Nat) : filesF 3 1000 [rootNd] (livesF p cap) = (0, livesN) := by kernel_rfl
theorem lives_walk : (docWalk livesN initP).2.2.2 = 0 ∧ (docWalk livesN initP).2.2.1 = 2 := ⟨by kernel_rfl, by kernel_rfl⟩
theorem tiny_pages : (pageNums (spaceL tinyL)).length = 1 := by kernel_rfl
theorem lives_exec : execE livesN initP true 0 0 10 = 0 := by
  unfold execE
  rw [lives_walk.1, lives_walk.2]
  rw [if_neg (by simp), if_neg (by simp)]
  simp only [livesN, Nat.reduceSub, List.getElem?_cons_succ, List.getElem?_cons_zero]
  rw [if_neg (by simp), tiny_load, if_neg (by simp), if_neg (by simp), tiny_pages, if_neg (by simp)]
theorem lives_boot (p : Option Addr) (cap : Nat) : bootE livesLims (livesF p cap) = 0 := by
  unfold bootE
  rw [show livesLims.okA = true from by kernel_rfl, show livesLims.okB = true from by kernel_rfl, show livesLims.d.toNat = 3 from rfl, show livesLims.e.toNat = 1000 from rfl, show livesLims.b.toNat = 10 from rfl, lives_files]
  rw [if_neg (by simp), if_neg (by simp), if_neg (by decide), if_neg (by simp)]
  exact lives_exec
end Go.Proofs.YtkcjafnaephjiaaGreatDoor

/- The law's lives: a kernel boots at all. -/
namespace Go.Proofs.YtkcjafnaephjiaaGreatDoor
open Go.RowKit Go.Maps Go.Shelf
set_option maxRecDepth 100000

theorem livesFP (g b : Nat) (W : World) (hb : Blk W b [.string initB, .bool false, .slice (some ⟨g, 0, none⟩) 260 260] 44) (hg : Blk W g (tinyL.map (Value.int .u8)) 5) : FListP W (livesF (some ⟨g, 0, none⟩) 260) (.slice (some ⟨b, 0, none⟩) 1 1) := by
  have hlen : tinyL.length = 260 := by kernel_rfl
  have hby : ∀ x ∈ tinyL, 0 ≤ x ∧ x ≤ 255 := by
    have : tinyL.all (fun x => decide (0 ≤ x ∧ x ≤ 255)) = true := by kernel_rfl
    intro x hx
    exact of_decide_eq_true (List.all_eq_true.1 this x hx)
  refine ⟨by simp [livesF], ⟨_, _, rfl, fun i f hf => ?_⟩, fun f hf => ?_⟩
  · have hi : i = 0 := by have := (List.getElem?_eq_some_iff.1 hf).1; simp [livesF] at this; omega
    subst hi
    cases hf
    refine ⟨b, rfl, fun j u hj => ?_⟩
    rw [Nat.zero_mul, Nat.zero_add, hb.cell, ← hlen]
    exact hj
  · have hf' : f = ⟨initB, false, some ⟨g, 0, none⟩, 260, tinyL⟩ := List.mem_singleton.1 hf
    subst hf'
    refine ⟨⟨hby, fun _ => ⟨g, 0, rfl, hg.lt, ⟨fun i hi => ?_, hby⟩⟩⟩, by show tinyL.length ≤ 260; omega, by show tinyL.length ≤ 200000; omega, by show initB.size ≤ 1000000; decide, fun b' o hb => ?_⟩
    · rw [Nat.zero_add, hg.cell, List.getElem?_map]
    · cases hb
      exact hg.lt
theorem livesBoot (g b : Nat) (w1 W : World) (k : Bel w1 W) (hb : Blk W b [.string initB, .bool false, .slice (some ⟨g, 0, none⟩) 260 260] 44) (hg : Blk W g (tinyL.map (Value.int .u8)) 5) (hmx : MaxVar w1) (hfix : FixVar w1) :
    Calls Tryz.prog 10 #[.agg #[.int .i64 2, .int .i64 10, .int .i64 2, .int .i64 3, .int .i64 1000], .slice (some ⟨b, 0, none⟩) 1 1] W fun e w' => ∃ tk, e = .returned (.tuple #[.pointer (some ⟨tk, 0, none⟩), .nilIface]) ∧ Bel W w' := by
  refine Calls.mono (bootT_any livesLims (livesF (some ⟨g, 0, none⟩) 260) (.slice (some ⟨b, 0, none⟩) 1 1) W (fun W' hW => livesFP g b W' (hb.bel hW) (hg.bel hW)) (hmx.bel k) (hfix.bel k)) ?_
  rintro e w' ⟨h1, _, h3⟩
  obtain ⟨tk, kb, rfl, _⟩ := h3 (lives_boot _ _)
  exact ⟨tk, rfl, h1⟩
set_option maxHeartbeats 4000000 in
theorem lives_any (w : World) (hmx : MaxVar w) (hfix : FixVar w) : Calls Tryz.prog 4 #[] w fun e w' => e = .returned (.bool true) ∧ Bel w w' := by
  have HV := Lib.hid (And.intro hmx hfix)
  clear hmx hfix
  go_enter Tryz.func4, Tryz.ntmps4
  go_wp2_with (first
    | (go_at_call 11; ((with_reducible refine Calls.mono (tiny_any _) ?_); rintro e w1 ⟨⟨g, rfl, hg, hB⟩, hk⟩; have H1 := Lib.hid (And.intro hB hk); clear hg hB hk))
    | (go_at_call 10; ((with_reducible refine Calls.mono (livesBoot g w1.heap.size w _ (H1.out.2.ac _) (Blk.new w1 _ _) (H1.out.1.alloc _) HV.out.1 HV.out.2) ?_); rintro e w3 ⟨tk, rfl, hk⟩; have HK3 := Lib.hid ((H1.out.2.ac _).tr hk); clear hk))
    | (go_at_call 12; ((with_reducible refine Calls.mono (tell_nil _) ?_); rintro e w4 ⟨rfl, hk⟩; have HK4 := Lib.hid (HK3.out.tr hk); clear hk)))
  go_ret
  exact ⟨rfl, HK4.out⟩
end Go.Proofs.YtkcjafnaephjiaaGreatDoor

/- The law Boots: walked. -/
namespace Go.Proofs.YtkcjafnaephjiaaGreatDoor
open Go.RowKit Go.Maps Go.Shelf
set_option maxRecDepth 100000

/-- The console, read. -/
theorem consoleJ (tk kb : Nat) (a b c : Int) (mi mb : Nat) (F : List FileA) (w : World) (B : Nat) (ht : Blk w tk [.pointer (some ⟨kb, 0, none⟩)] 96) (hP : BootPKs w B kb a b c mi mb F) :
    Calls Tryz.prog 9 #[.pointer (some ⟨tk, 0, none⟩)] w fun e w' => e = .returned (.slice none 0 0) ∧ Keep (fun q => B ≤ q) w w' := by
  obtain ⟨pm, tb, ob, cb, pb, sb, A, T, h1, h2, h3, h4, h5, h6, h7, h8, h9, h10, _⟩ := hP
  refine tConsole_any tk kb (fun _ _ => True) _ _ w ht ((consoleP_any kb _ _ _ _ _ pm tb ob cb _ _ _ _ _ _ w h1 h4).mono ?_)
  rintro e w' ⟨rfl, _, hk⟩
  exact ⟨rfl, hk.mono fun q hq => by subst hq; exact h10⟩
set_option maxHeartbeats 8000000 in
theorem boots_any (l : Lims) (F : List FileA) (p : Option Addr) (cap : Nat) (w : World) (hr : ∀ (i : Nat) (f : FileA), F[i]? = some f → ∃ g o, p = some ⟨g, o, none⟩ ∧ w.rangeAt g (o + i * 3) [.string f.path, .bool f.dir, .slice f.p f.byt.length f.cap]) (hl : F.length ≤ 140737488351232)
    (hs : ∀ f ∈ F, BS w f.p f.byt ∧ f.byt.length ≤ 140737488351232 ∧ f.path.size ≤ 140737488351232 ∧ f.byt.length ≤ f.cap ∧ (0 < f.byt.length → ∀ b o, f.p = some ⟨b, o, none⟩ → b < w.heap.size)) (hmx : MaxVar w) (hfix : FixVar w) (hev : ErrVar w) :
    Calls Tryz.prog 3 #[.agg #[.int .i64 l.a, .int .i64 l.b, .int .i64 l.c, .int .i64 l.d, .int .i64 l.e, .slice p F.length cap]] w fun e w' => e = .returned (.bool true) ∧ Bel w w' := by
  have hr2 : ∀ W, Bel w W → ∀ (i : Nat) (f : FileA), F[i]? = some f → ∃ g o, p = some ⟨g, o, none⟩ ∧ W.rangeAt g (o + i * 3) [.string f.path, .bool f.dir, .slice f.p f.byt.length f.cap] := fun W hW i f hf => by
    obtain ⟨g, o, h1, h2⟩ := hr i f hf
    exact ⟨g, o, h1, fun j u hj => cell_bel hW (h2 j u hj)⟩
  have hsm := fun W (hW : Bel w W) => small_any l.a l.b l.c l.d l.e F p cap W (hr2 W hW) hl (fun f hf => ⟨(hs f hf).2.2.1, (hs f hf).2.1⟩)
  have HLV := Lib.hid fun W (hW : Bel w W) => lives_any W (hmx.bel hW) (hfix.bel hW)
  have HX : ∀ (w3 : World) (xb : Nat), Blk w3 xb [.int .i64 l.a, .int .i64 l.b, .int .i64 l.c, .int .i64 l.d, .int .i64 l.e, .slice p F.length cap] 26 → w3.cell? ⟨xb, 0, none⟩ = some (.int .i64 l.a) ∧ w3.cell? ⟨xb, 1, none⟩ = some (.int .i64 l.b) ∧ w3.cell? ⟨xb, 2, none⟩ = some (.int .i64 l.c) ∧ w3.cell? ⟨xb, 3, none⟩ = some (.int .i64 l.d) ∧ w3.cell? ⟨xb, 4, none⟩ = some (.int .i64 l.e) ∧ w3.cell? ⟨xb, 5, none⟩ = some (.slice p F.length cap) := fun _ _ h => ⟨h.cell 0, h.cell 1, h.cell 2, h.cell 3, h.cell 4, h.cell 5⟩
  have HXX := Lib.hid HX
  clear HX
  cases hsf : smallF F with
  | false =>
    rw [hsf] at hsm
    have HSM := Lib.hid hsm
    clear hr hr2 hl hs hmx hfix hev hsm hsf
    go_enter Tryz.func3, Tryz.ntmps3
    have BX := Blk.new w [.int .i64 l.a, .int .i64 l.b, .int .i64 l.c, .int .i64 l.d, .int .i64 l.e, .slice p F.length cap] 26
    have kx : Bel w (w.alloc (.cells #[.int .i64 l.a, .int .i64 l.b, .int .i64 l.c, .int .i64 l.d, .int .i64 l.e, .slice p F.length cap] 26)) := Bel.start _ _
    change Blk (w.alloc (.cells #[.int .i64 l.a, .int .i64 l.b, .int .i64 l.c, .int .i64 l.d, .int .i64 l.e, .slice p F.length cap] 26)) w.heap.size _ _ at BX
    go_upto_region 1 with fail
    generalize w.alloc (.cells #[.int .i64 l.a, .int .i64 l.b, .int .i64 l.c, .int .i64 l.d, .int .i64 l.e, .slice p F.length cap] 26) = w2 at *
    generalize w.heap.size = xb at *
    have HBX := Lib.hid BX
    have HK : Hid (Bel w w2) := Lib.hid kx
    clear BX kx
    go_upto_region 2 with (go_at_call 4; ((with_reducible refine Calls.mono (HLV.out _ HK.out) ?_); rintro e w3 ⟨rfl, hk⟩; have H3 := Lib.hid hk; clear hk))
    obtain ⟨x0, x1, x2, x3, x4, x5⟩ := HXX.out _ _ (HBX.out.bel H3.out)
    go_upto_region 3 with (go_at_call 5; ((with_reducible refine Calls.mono (HSM.out _ (HK.out.tr H3.out)) ?_); rintro e w4 ⟨rfl, hk⟩; have H4 := Lib.hid hk; clear hk))
    go_wp2_with fail
    go_ret
    exact ⟨rfl, (HK.out.tr H3.out).tr H4.out⟩
  | true =>
    rw [hsf] at hsm
    have HSM := Lib.hid hsm
    obtain ⟨hl1, hz⟩ : F.length ≤ 100 ∧ sizeF F ≤ 200000 := of_decide_eq_true hsf
    have hsz : ∀ f ∈ F, f.path.size + f.byt.length ≤ 200000 := fun f hf => by
      have h1 : f.path.size + f.byt.length ≤ sizeF F := le_sum_mem (List.mem_map.2 ⟨f, hf, rfl⟩)
      omega
    have hlb := fun W (hW : Bel w W) => lawBoot_any l F p cap W (hr2 W hW) hl1 (fun f hf => ⟨(hs f hf).1.bel hW, by have := hsz f hf; omega, by have := hsz f hf; omega, (hs f hf).2.2.2.1, fun h0 b o hb => Nat.lt_of_lt_of_le ((hs f hf).2.2.2.2 h0 b o hb) hW.size⟩) (hmx.bel hW) (hfix.bel hW) (hev.bel hW)
    have HL1 := Lib.hid hl1
    by_cases h0 : bootE l F = 0
    · have HLB := Lib.hid fun W hW => (hlb W hW).mono fun e w' k => And.intro k.1 (k.2.2 h0)
      have H0 := Lib.hid h0
      clear hr hr2 hl hs hmx hfix hev hsm hsf hl1 hz hsz hlb h0
      go_enter Tryz.func3, Tryz.ntmps3
      have BX := Blk.new w [.int .i64 l.a, .int .i64 l.b, .int .i64 l.c, .int .i64 l.d, .int .i64 l.e, .slice p F.length cap] 26
      have kx : Bel w (w.alloc (.cells #[.int .i64 l.a, .int .i64 l.b, .int .i64 l.c, .int .i64 l.d, .int .i64 l.e, .slice p F.length cap] 26)) := Bel.start _ _
      change Blk (w.alloc (.cells #[.int .i64 l.a, .int .i64 l.b, .int .i64 l.c, .int .i64 l.d, .int .i64 l.e, .slice p F.length cap] 26)) w.heap.size _ _ at BX
      go_upto_region 1 with fail
      generalize w.alloc (.cells #[.int .i64 l.a, .int .i64 l.b, .int .i64 l.c, .int .i64 l.d, .int .i64 l.e, .slice p F.length cap] 26) = w2 at *
      generalize hxb : w.heap.size = xb at *
      have HXB := Lib.hid hxb
      have HBX := Lib.hid BX
      have HK : Hid (Bel w w2) := Lib.hid kx
      clear BX kx hxb
      go_upto_region 2 with (go_at_call 4; ((with_reducible refine Calls.mono (HLV.out _ HK.out) ?_); rintro e w3 ⟨rfl, hk⟩; have H3 := Lib.hid (HK.out.tr hk); have HB3 := Lib.hid (HBX.out.bel hk); clear hk))
      obtain ⟨x0, x1, x2, x3, x4, x5⟩ := HXX.out _ _ HB3.out
      go_upto_region 3 with (go_at_call 5; ((with_reducible refine Calls.mono (HSM.out _ H3.out) ?_); rintro e w4 ⟨rfl, hk⟩; have H4 := Lib.hid (H3.out.tr hk); have HB4 := Lib.hid (HB3.out.bel hk); clear hk))
      clear x0 x1 x2 x3 x4 x5
      obtain ⟨x0, x1, x2, x3, x4, x5⟩ := HXX.out _ _ HB4.out
      go_upto_region 6 with (go_at_call 6; ((with_reducible refine Calls.mono (HLB.out _ H4.out) ?_); rintro e w5 ⟨k5, wb, tk, kb, rb, rfl, hwb, htk, hpk, hdk⟩; have H5 := Lib.hid (And.intro k5 (And.intro hwb (And.intro htk (And.intro hpk hdk)))); clear k5 hwb htk hpk hdk))
      have HPR := Lib.hid (procsJ wb tk kb rb _ _ _ l F w5 H5.out.2.1 H5.out.2.2.1 H5.out.2.2.2.1.plain H5.out.2.2.2.2 H0.out)
      have HFI := Lib.hid fun W (hW : Bel w5 W) => filesJ wb tk kb rb _ _ _ l F W (H5.out.2.1.bel hW) (H5.out.2.2.1.bel hW) (H5.out.2.2.2.1.plain.bel hW) (H5.out.2.2.2.2.bel hW) HL1.out
      have HCO := Lib.hid fun W (hW : Bel w5 W) => consoleJ tk kb _ _ _ _ _ F W _ (H5.out.2.2.1.bel hW) (H5.out.2.2.2.1.bel hW)
      clear x0 x1 x2 x3 x4 x5
      go_upto_region 9 with (go_at_call 7; ((with_reducible refine Calls.mono HPR.out ?_); rintro e w6 ⟨rfl, hk⟩; have H6 := Lib.hid hk; clear hk))
      go_upto_region 10 with (go_at_call 8; ((with_reducible refine Calls.mono (HFI.out _ H6.out) ?_); rintro e w7 ⟨rfl, hk⟩; have H7 := Lib.hid (H6.out.tr hk); clear hk))
      have c0 : w7.cell? ⟨wb, 0, none⟩ = some (.pointer (some ⟨tk, 0, none⟩)) := (H5.out.2.1.bel H7.out).cell 0
      go_wp2_with (go_at_call 9; ((with_reducible refine Calls.mono (HCO.out _ H7.out) ?_); rintro e w8 ⟨rfl, hk⟩; have H8 := Lib.hid hk; clear hk))
      go_ret
      have hb7 : Bel w w7 := (H4.out.tr H5.out.1).tr H7.out
      exact ⟨rfl, Below.trans hb7 (H8.out.below _ hb7.size fun q hq => Nat.le_trans H4.out.size hq)⟩
    · have HLB := Lib.hid fun W hW => (hlb W hW).mono fun e w' k => And.intro k.1 (k.2.1 h0)
      obtain ⟨ec, hec⟩ : ∃ ec : Nat, bootE l F = ec := ⟨_, rfl⟩
      rw [hec] at HLB h0
      have hne : ((ec : Int) != 0) = true := bne_iff_ne.2 (by omega)
      clear hr hr2 hl hs hmx hfix hev hsm hsf hl1 hz hsz hlb h0 hec
      go_enter Tryz.func3, Tryz.ntmps3
      have BX := Blk.new w [.int .i64 l.a, .int .i64 l.b, .int .i64 l.c, .int .i64 l.d, .int .i64 l.e, .slice p F.length cap] 26
      have kx : Bel w (w.alloc (.cells #[.int .i64 l.a, .int .i64 l.b, .int .i64 l.c, .int .i64 l.d, .int .i64 l.e, .slice p F.length cap] 26)) := Bel.start _ _
      change Blk (w.alloc (.cells #[.int .i64 l.a, .int .i64 l.b, .int .i64 l.c, .int .i64 l.d, .int .i64 l.e, .slice p F.length cap] 26)) w.heap.size _ _ at BX
      go_upto_region 1 with fail
      generalize w.alloc (.cells #[.int .i64 l.a, .int .i64 l.b, .int .i64 l.c, .int .i64 l.d, .int .i64 l.e, .slice p F.length cap] 26) = w2 at *
      generalize w.heap.size = xb at *
      have HBX := Lib.hid BX
      have HK : Hid (Bel w w2) := Lib.hid kx
      clear BX kx
      go_upto_region 2 with (go_at_call 4; ((with_reducible refine Calls.mono (HLV.out _ HK.out) ?_); rintro e w3 ⟨rfl, hk⟩; have H3 := Lib.hid (HK.out.tr hk); have HB3 := Lib.hid (HBX.out.bel hk); clear hk))
      obtain ⟨x0, x1, x2, x3, x4, x5⟩ := HXX.out _ _ HB3.out
      go_upto_region 3 with (go_at_call 5; ((with_reducible refine Calls.mono (HSM.out _ H3.out) ?_); rintro e w4 ⟨rfl, hk⟩; have H4 := Lib.hid (H3.out.tr hk); have HB4 := Lib.hid (HB3.out.bel hk); clear hk))
      clear x0 x1 x2 x3 x4 x5
      obtain ⟨x0, x1, x2, x3, x4, x5⟩ := HXX.out _ _ HB4.out
      go_upto_region 6 with (go_at_call 6; ((with_reducible refine Calls.mono (HLB.out _ H4.out) ?_); rintro e w5 ⟨k5, wb, rfl⟩; have H5 := Lib.hid k5; clear k5))
      go_wp2_with fail
      go_ret
      exact ⟨rfl, H4.out.tr H5.out⟩
end Go.Proofs.YtkcjafnaephjiaaGreatDoor
