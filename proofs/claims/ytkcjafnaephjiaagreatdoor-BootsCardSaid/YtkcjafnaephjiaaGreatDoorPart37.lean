/- tinyos.Boot; both sides at any limits. -/
import Derived.Test.YtkcjafnaephjiaaGreatDoorPart35
import Derived.Test.YtkcjafnaephjiaaGreatDoorPart36
import Derived.Test.YtkcjafnaephjiaaGreatDoorPart24
import Derived.Test.YtkcjafnaephjiaaGreatDoorPart11
import Derived.Test.YtkcjafnaephjiaaGreatDoorPart12
namespace Go.Proofs.YtkcjafnaephjiaaGreatDoor
open Go.RowKit
set_option maxRecDepth 100000

theorem bootP_any (l : Lims) (F : List FileA) (v : Value) (w : World) (hF : FListP w F v) (hmx : MaxVar w) (hfix : FixVar w) :
    Calls Tryz.prog 26 #[.agg (limC l).toArray, v] w fun e w' => Bel w w' ∧ (bootE l F ≠ 0 → e = .returned (.tuple #[.pointer none, errN (bootE l F : Nat)])) ∧ (bootE l F = 0 → ∃ kb, e = .returned (.tuple #[.pointer (some ⟨kb, 0, none⟩), .nilIface]) ∧ w.heap.size ≤ kb ∧ BootPKs w' w.heap.size kb l.a l.b l.c l.d.toNat l.e.toNat F) := by
  by_cases hA : l.okA = true
  · by_cases hB : l.okB = true
    · by_cases hd : l.d = 0
      · have he : bootE l F = 12 := by unfold bootE; rw [if_neg (by rw [hA]; simp), if_neg (by rw [hB]; simp), if_pos hd]
        refine (bootP_c l v w hA hB hd).mono ?_
        rintro e w' ⟨rfl, k⟩
        exact ⟨k, fun _ => by rw [he]; rfl, fun h => by rw [he] at h; cases h⟩
      · obtain ⟨a, b, c, d, e⟩ := l
        have hB' := hB
        simp only [Lims.okB, decide_eq_true_eq] at hB'
        obtain ⟨mi, rfl⟩ := Int.eq_ofNat_of_zero_le hB'.2.2.1
        obtain ⟨mb, rfl⟩ := Int.eq_ofNat_of_zero_le hB'.2.2.2.2.1
        exact bootP_main a b c mi mb F v w hF hA hB (fun h => hd (by show ((mi : Nat) : Int) = 0; omega)) hmx hfix
    · have hB' : l.okB = false := by simpa using hB
      have he : bootE l F = 6 := by unfold bootE; rw [if_neg (by rw [hA]; simp), if_pos hB']
      refine (bootP_b l v w hA hB').mono ?_
      rintro e w' ⟨rfl, k⟩
      exact ⟨k, fun _ => by rw [he]; rfl, fun h => by rw [he] at h; cases h⟩
  · have hA' : l.okA = false := by simpa using hA
    have he : bootE l F = 6 := by unfold bootE; rw [if_pos hA']
    refine (bootP_a l v w hA').mono ?_
    rintro e w' ⟨rfl, k⟩
    exact ⟨k, fun _ => by rw [he]; rfl, fun h => by rw [he] at h; cases h⟩
theorem bootD_any (l : Lims) (F : List FileA) (v1 v2 v3 : Value) (w : World) (hF : FLists w F v1 v2 v3) :
    Calls Tryz.prog 16 #[.agg (limC l).toArray, v1, v2, v3] w fun e w' => BootDRes w l F e w' := by
  by_cases hA : l.okA = true
  · by_cases hB : l.okB = true
    · by_cases hd : l.d = 0
      · have he : bootE l F = 12 := by unfold bootE; rw [if_neg (by rw [hA]; simp), if_neg (by rw [hB]; simp), if_pos hd]
        refine (bootD_c l v1 v2 v3 w hA hB hd).mono ?_
        rintro e w' ⟨rfl, k⟩
        exact ⟨k, fun _ => by rw [he]; rfl, fun h => by rw [he] at h; cases h⟩
      · exact bootD_main l F v1 v2 v3 w hF hA hB hd
    · have hB' : l.okB = false := by simpa using hB
      have he : bootE l F = 6 := by unfold bootE; rw [if_neg (by rw [hA]; simp), if_pos hB']
      refine (bootD_b l v1 v2 v3 w hA hB').mono ?_
      rintro e w' ⟨rfl, k⟩
      exact ⟨k, fun _ => by rw [he]; rfl, fun h => by rw [he] at h; cases h⟩
  · have hA' : l.okA = false := by simpa using hA
    have he : bootE l F = 6 := by unfold bootE; rw [if_pos hA']
    refine (bootD_a l v1 v2 v3 w hA').mono ?_
    rintro e w' ⟨rfl, k⟩
    exact ⟨k, fun _ => by rw [he]; rfl, fun h => by rw [he] at h; cases h⟩
def BootTRes (w : World) (l : Lims) (F : List FileA) (e : Ending) (w' : World) : Prop :=
  Bel w w' ∧ (bootE l F ≠ 0 → e = .returned (.tuple #[.pointer none, errN (bootE l F : Nat)])) ∧ (bootE l F = 0 → ∃ tk kb, e = .returned (.tuple #[.pointer (some ⟨tk, 0, none⟩), .nilIface]) ∧ w.heap.size ≤ tk ∧ w.heap.size ≤ kb ∧ Blk w' tk [.pointer (some ⟨kb, 0, none⟩)] 96 ∧ BootPKs w' w.heap.size kb l.a l.b l.c l.d.toNat l.e.toNat F)
theorem BootPK.bel {w w' : World} {kb : Nat} {a b c : Int} {mi mb : Nat} {F : List FileA} (h : BootPK w kb a b c mi mb F) (k : Bel w w') : BootPK w' kb a b c mi mb F := by
  obtain ⟨pm, tb, ob, cb, pb, sb, A, T, h1, h2, h3, h4, h5, h6, h7, h8⟩ := h
  exact ⟨pm, tb, ob, cb, pb, sb, A, T, h1.bel k, h2.bel k, h3.bel k, h4.bel k, h5.bel k, h6, h7.bel k, h8.bel k⟩
theorem BootPKs.bel {w w' : World} {B kb : Nat} {a b c : Int} {mi mb : Nat} {F : List FileA} (h : BootPKs w B kb a b c mi mb F) (k : Bel w w') : BootPKs w' B kb a b c mi mb F := by
  obtain ⟨pm, tb, ob, cb, pb, sb, A, T, h1, h2, h3, h4, h5, h6, h7, h8, h9, h10, h11⟩ := h
  exact ⟨pm, tb, ob, cb, pb, sb, A, T, h1.bel k, h2.bel k, h3.bel k, h4.bel k, h5.bel k, h6, h7.bel k, h8.bel k, h9, h10, h11⟩
theorem BootPKs.base {w : World} {B B' kb : Nat} {a b c : Int} {mi mb : Nat} {F : List FileA} (h : BootPKs w B kb a b c mi mb F) (k : B' ≤ B) : BootPKs w B' kb a b c mi mb F := by
  obtain ⟨pm, tb, ob, cb, pb, sb, A, T, h1, h2, h3, h4, h5, h6, h7, h8, h9, h10, h11⟩ := h
  exact ⟨pm, tb, ob, cb, pb, sb, A, T, h1, h2, h3, h4, h5, h6, h7, h8, fun q hq => Nat.le_trans k (h9 q hq), Nat.le_trans k h10, Nat.le_trans k h11⟩
theorem BootPKs.plain {w : World} {B kb : Nat} {a b c : Int} {mi mb : Nat} {F : List FileA} (h : BootPKs w B kb a b c mi mb F) : BootPK w kb a b c mi mb F := by
  obtain ⟨pm, tb, ob, cb, pb, sb, A, T, h1, h2, h3, h4, h5, h6, h7, h8, _⟩ := h
  exact ⟨pm, tb, ob, cb, pb, sb, A, T, h1, h2, h3, h4, h5, h6, h7, h8⟩
theorem BootPKs.lt {w : World} {B kb : Nat} {a b c : Int} {mi mb : Nat} {F : List FileA} (h : BootPKs w B kb a b c mi mb F) : kb < w.heap.size := by
  obtain ⟨pm, tb, ob, cb, pb, sb, A, T, h1, _⟩ := h
  exact h1.lt
/-- Writes into bytes that lay there ahead of it. -/
theorem BootPKs.keep {S : Nat → Prop} {w w' : World} {B kb : Nat} {a b c : Int} {mi mb : Nat} {F : List FileA} (h : BootPKs w B kb a b c mi mb F) (k : Keep S w w') (hs : ∀ q, S q → q < B ∧ ∃ cs, Blk w q cs 5) : BootPKs w' B kb a b c mi mb F := by
  obtain ⟨pm, tb, ob, cb, pb, sb, A, T, h1, h2, h3, h4, h5, h6, h7, h8, h9, h10, h11⟩ := h
  have nb : ∀ {q : Nat} {cs : List Value} {t : TypeId}, Blk w q cs t → t ≠ 5 → ¬ S q := fun hb ht hq => by
    obtain ⟨_, cs', hb'⟩ := hs _ hq
    exact hb.ne hb' ht rfl
  exact ⟨pm, tb, ob, cb, pb, sb, A, T, h1.keep k (nb h1 (by decide)), h2.of_block (k.block _ h2.lt fun hq => by
      obtain ⟨_, cs', hb'⟩ := hs _ hq
      exact hb'.ne_map h2 rfl), h3.keep k (nb h3 (by decide)), h4.keep k (nb h4 (by decide)), h5.keep k (fun q hq hS => by
      have h1 := h9 q hq
      have h2 := (hs q hS).1
      omega), h6, h7.keep k (nb h7 (by decide)), h8.of_block (k.block _ h8.lt fun hq => by
      obtain ⟨_, cs', hb'⟩ := hs _ hq
      obtain ⟨kv, hm, _⟩ := h8
      exact hb'.ne_map hm rfl), h9, h10, h11⟩
set_option maxHeartbeats 8000000 in
theorem bootT_any (l : Lims) (F : List FileA) (v : Value) (w : World) (hF : ∀ W, Bel w W → FListP W F v) (hmx : MaxVar w) (hfix : FixVar w) :
    Calls Tryz.prog 10 #[.agg (limC l).toArray, v] w fun e w' => BootTRes w l F e w' := by
  have hb := fun W (hW : Bel w W) => bootP_any l F v W (hF W hW) (hmx.bel hW) (hfix.bel hW)
  by_cases h0 : bootE l F = 0
  · have HB := Lib.hid fun W hW => (hb W hW).mono fun e w' k => And.intro k.1 (k.2.2 h0)
    have H0 := Lib.hid h0
    obtain ⟨a, b, c, d, e⟩ := l
    simp only [limC] at HB ⊢
    clear hb h0
    go_enter Tryz.func10, Tryz.ntmps10
    go_wp2_with (go_at_call 26; ((with_reducible refine Calls.mono (HB.out _ (Bel.start w _)) ?_); rintro e2 w1 ⟨k1, kb, rfl, hkb, hk⟩; have H1 := Lib.hid (And.intro k1 (And.intro hkb hk)); clear k1 hkb hk))
    go_ret2
    have k := (Bel.start w (.cells #[.int .i64 a, .int .i64 b, .int .i64 c, .int .i64 d, .int .i64 e] 23)).tr H1.out.1
    have hkb := H1.out.2.1
    refine ⟨k.ac _, fun h => absurd H0.out h, fun _ => ⟨w1.heap.size, kb, rfl, k.size, by simp at hkb; omega, Blk.new w1 _ _, (H1.out.2.2.bel (Bel.start w1 _)).base (by simp)⟩⟩
  · have HB := Lib.hid fun W hW => (hb W hW).mono fun e w' k => And.intro k.1 (k.2.1 h0)
    obtain ⟨ec, hec⟩ : ∃ ec : Nat, bootE l F = ec := ⟨_, rfl⟩
    rw [hec] at HB h0
    have hcb : ((ec : Int) == 0) = false := beq_eq_false_iff_ne.2 (by omega)
    have HEC := Lib.hid hec
    have H0 := Lib.hid h0
    obtain ⟨a, b, c, d, e⟩ := l
    simp only [limC] at HB ⊢
    clear hb h0 hec
    go_enter Tryz.func10, Tryz.ntmps10
    go_wp2_with (go_at_call 26; ((with_reducible refine Calls.mono (HB.out _ (Bel.start w _)) ?_); rintro e2 w1 ⟨k1, rfl⟩; have H1 := Lib.hid k1; clear k1))
    go_ret2
    exact ⟨(Bel.start w _).tr H1.out, fun _ => by rw [HEC.out]; rfl, fun h => absurd (HEC.out.symm.trans h) H0.out⟩
end Go.Proofs.YtkcjafnaephjiaaGreatDoor

/- Boot's answer looks at the files' paths, kinds and bytes alone. Plain. -/
namespace Go.Proofs.YtkcjafnaephjiaaGreatDoor
open Go.RowKit Go.Maps
set_option maxRecDepth 100000

def FileA.said (f : FileA) : ByteArray × Bool × List Int := (f.path, f.dir, f.byt)
theorem filesF_same (mi mb : Nat) : ∀ (N : List Nd) (F G : List FileA), F.map FileA.said = G.map FileA.said → filesF mi mb N F = filesF mi mb N G := fun N F => by
  induction F generalizing N with
  | nil =>
    intro G h
    cases G with
    | nil => rfl
    | cons g G => cases h
  | cons f F ih =>
    intro G h
    cases G with
    | nil => cases h
    | cons g G =>
      rw [List.map_cons, List.map_cons] at h
      injection h with h1 h2
      unfold FileA.said at h1
      injection h1 with h3 h4
      injection h4 with h5 h6
      unfold filesF
      rw [h3, h5, h6, ih _ G h2]
theorem bootE_same (l : Lims) (F G : List FileA) (h : F.map FileA.said = G.map FileA.said) : bootE l F = bootE l G := by
  unfold bootE
  rw [filesF_same _ _ _ F G h]
theorem BootDK.same {w : World} {kb : Nat} {l : Lims} {F G : List FileA} (h : BootDK w kb l F) (e : F.map FileA.said = G.map FileA.said) : BootDK w kb l G := by
  obtain ⟨iv, L, s, pb, pc, cells, v, h1, h2, h3⟩ := h
  exact ⟨iv, L, s, pb, pc, cells, v, h1, h2.trans (by rw [filesF_same _ _ _ F G e]), h3⟩
theorem BootPK.same {w : World} {kb : Nat} {a b c : Int} {mi mb : Nat} {F G : List FileA} (h : BootPK w kb a b c mi mb F) (e : F.map FileA.said = G.map FileA.said) : BootPK w kb a b c mi mb G := by
  obtain ⟨pm, tb, ob, cb, pb, sb, A, T, h1, h2, h3, h4, h5, h6, h7⟩ := h
  exact ⟨pm, tb, ob, cb, pb, sb, A, T, h1, h2, h3, h4, h5, h6.trans (by rw [filesF_same _ _ _ F G e]), h7⟩
theorem BootPKs.same {w : World} {B kb : Nat} {a b c : Int} {mi mb : Nat} {F G : List FileA} (h : BootPKs w B kb a b c mi mb F) (e : F.map FileA.said = G.map FileA.said) : BootPKs w B kb a b c mi mb G := by
  obtain ⟨pm, tb, ob, cb, pb, sb, A, T, h1, h2, h3, h4, h5, h6, h7⟩ := h
  exact ⟨pm, tb, ob, cb, pb, sb, A, T, h1, h2, h3, h4, h5, h6.trans (by rw [filesF_same _ _ _ F G e]), h7⟩
theorem BootDK.bel {w w' : World} {kb : Nat} {l : Lims} {F : List FileA} (h : BootDK w kb l F) (k : Bel w w') : BootDK w' kb l F := by
  obtain ⟨iv, L, s, pb, pc, cells, v, h1, h2, h3, h4, h5, hb, hpc, htk, hr⟩ := h
  exact ⟨iv, L, s, pb, pc, cells, v, h1.bel k, h2, h3, h4, h5, hb.bel k, hpc, htk, row_bel hr k⟩
end Go.Proofs.YtkcjafnaephjiaaGreatDoor

/- The laws' own executable. -/
namespace Go.Proofs.YtkcjafnaephjiaaGreatDoor
open Go.RowKit
set_option maxRecDepth 100000

theorem madeCells_one (z : Value) (n : Nat) : madeCells #[z] n = (List.replicate n z).toArray := zeroCells_one z n ▸ by simp [madeCells, Builtin.zeroCells]
theorem make_zeros (n : Nat) (hn : n ≤ 1000000) (x : Int) (w : World) (hx : x = n) : (Instr.makeSlice 32 (.int .i64 x) (.int .i64 x)).run Tryz.prog w = .ok (.slice (some ⟨w.heap.size, 0, none⟩) n n) (w.alloc (.cells (List.replicate n (Value.int .u8 0)).toArray 5)) := by
  obtain ⟨i, hi, h1, h2, h3⟩ := info_parts byteInfo
  subst hx
  have := run_makeSlice (P := Tryz.prog) (w := w) 32 5 i (.int .u8 0) Tryz.underlying32 hi h1 .i64 .i64 n n (by omega) (by omega) (by rw [h2]; omega) (by rw [h3]; omega) (by omega)
  rw [h2, Nat.mul_one, show (Value.int .u8 0).cells = #[Value.int .u8 0] from rfl, madeCells_one] at this
  exact this
def tinyBase : List Int := [127, 69, 76, 70, 2, 1, 1] ++ List.replicate 253 0
/-- The bytes of tiny. -/
def tinyL : List Int := (((((((((((((((tinyBase).set 16 2).set 18 243).set 20 1).set 25 1).set 32 64).set 52 64).set 54 56).set 56 1).set 64 1).set 68 5).set 73 1).set 81 1).set 96 4).set 104 4).set 256 22
set_option maxHeartbeats 16000000 in
theorem tiny_any (w : World) : Calls Tryz.prog 11 #[] w fun e w' => (∃ g, e = .returned (.slice (some ⟨g, 0, none⟩) 260 260) ∧ w.heap.size ≤ g ∧ Blk w' g (tinyL.map (Value.int .u8)) 5) ∧ Bel w w' := by
  obtain ⟨zs, hzs⟩ : ∃ zs, List.replicate 260 (Value.int .u8 0) = zs := ⟨_, rfl⟩
  have hmk := fun W => make_zeros 260 (by omega) 260 W rfl
  rw [hzs] at hmk
  have HZ := Lib.hid hzs
  clear hzs
  go_enter Tryz.func11, Tryz.ntmps11
  go_upto_region 2 with fail
  have k1 : Bel w (w.alloc (.cells zs.toArray 5)) := Bel.start w _
  have B1 := Blk.new w zs 5
  generalize w.alloc (.cells zs.toArray 5) = w1 at *
  obtain ⟨g, hg⟩ : ∃ g, w.heap.size = g := ⟨_, rfl⟩
  rw [hg] at B1 ⊢
  have hgw : w.heap.size ≤ g := by omega
  have HB1 := Lib.hid B1
  have HK1 := Lib.hid k1
  clear hg B1 k1 hmk
  go_upto_region 3 with (refine wpList_copy_str rfl (.tmp 3) (.const (.string ⟨#[127, 69, 76, 70, 2, 1, 1]⟩)) 32 9 rfl 5 Tryz.underlying32 (by kernel_rfl) g 0 260 260 ⟨#[127, 69, 76, 70, 2, 1, 1]⟩ rfl rfl zs 5 HB1.out (by decide) (by rw [← HZ.out]; decide) ?_; intro w2 B2' K2)
  have B2 : Blk w2 g (tinyBase.map (Value.int .u8)) 5 := by
    have := B2'.out
    rw [← HZ.out] at this
    exact this
  have c16 : w2.cell? ⟨g, 16, none⟩ = some (.int .u8 0) := by rw [B2.cell]; rfl
  have c18 : w2.cell? ⟨g, 18, none⟩ = some (.int .u8 0) := by rw [B2.cell]; rfl
  have c20 : w2.cell? ⟨g, 20, none⟩ = some (.int .u8 0) := by rw [B2.cell]; rfl
  have c25 : w2.cell? ⟨g, 25, none⟩ = some (.int .u8 0) := by rw [B2.cell]; rfl
  have c32 : w2.cell? ⟨g, 32, none⟩ = some (.int .u8 0) := by rw [B2.cell]; rfl
  have c52 : w2.cell? ⟨g, 52, none⟩ = some (.int .u8 0) := by rw [B2.cell]; rfl
  have c54 : w2.cell? ⟨g, 54, none⟩ = some (.int .u8 0) := by rw [B2.cell]; rfl
  have c56 : w2.cell? ⟨g, 56, none⟩ = some (.int .u8 0) := by rw [B2.cell]; rfl
  have c64 : w2.cell? ⟨g, 64, none⟩ = some (.int .u8 0) := by rw [B2.cell]; rfl
  have c68 : w2.cell? ⟨g, 68, none⟩ = some (.int .u8 0) := by rw [B2.cell]; rfl
  have c73 : w2.cell? ⟨g, 73, none⟩ = some (.int .u8 0) := by rw [B2.cell]; rfl
  have c81 : w2.cell? ⟨g, 81, none⟩ = some (.int .u8 0) := by rw [B2.cell]; rfl
  have c96 : w2.cell? ⟨g, 96, none⟩ = some (.int .u8 0) := by rw [B2.cell]; rfl
  have c104 : w2.cell? ⟨g, 104, none⟩ = some (.int .u8 0) := by rw [B2.cell]; rfl
  have c256 : w2.cell? ⟨g, 256, none⟩ = some (.int .u8 0) := by rw [B2.cell]; rfl
  have f2 := B2.frozen
  have hl := B2.lt
  have HB2 := Lib.hid B2
  have HK2 : Hid (Bel w w2) := Lib.hid (Below.trans HK1.out (K2.below _ HK1.out.size (fun q hq => by have hq : q = g := hq; omega)))
  clear B2 B2' K2
  go_wp2
  go_ret
  refine ⟨⟨g, rfl, hgw, ?_⟩, (((((((((((((((HK2.out).store (p := ⟨g, 16, none⟩) hgw _).store (p := ⟨g, 18, none⟩) hgw _).store (p := ⟨g, 20, none⟩) hgw _).store (p := ⟨g, 25, none⟩) hgw _).store (p := ⟨g, 32, none⟩) hgw _).store (p := ⟨g, 52, none⟩) hgw _).store (p := ⟨g, 54, none⟩) hgw _).store (p := ⟨g, 56, none⟩) hgw _).store (p := ⟨g, 64, none⟩) hgw _).store (p := ⟨g, 68, none⟩) hgw _).store (p := ⟨g, 73, none⟩) hgw _).store (p := ⟨g, 81, none⟩) hgw _).store (p := ⟨g, 96, none⟩) hgw _).store (p := ⟨g, 104, none⟩) hgw _).store (p := ⟨g, 256, none⟩) hgw _⟩
  have B := (((((((((((((((HB2.out).setCell (o := 16) (.int .u8 2)).setCell (o := 18) (.int .u8 243)).setCell (o := 20) (.int .u8 1)).setCell (o := 25) (.int .u8 1)).setCell (o := 32) (.int .u8 64)).setCell (o := 52) (.int .u8 64)).setCell (o := 54) (.int .u8 56)).setCell (o := 56) (.int .u8 1)).setCell (o := 64) (.int .u8 1)).setCell (o := 68) (.int .u8 5)).setCell (o := 73) (.int .u8 1)).setCell (o := 81) (.int .u8 1)).setCell (o := 96) (.int .u8 4)).setCell (o := 104) (.int .u8 4)).setCell (o := 256) (.int .u8 22)
  unfold tinyL
  simp only [List.map_set]
  exact B
end Go.Proofs.YtkcjafnaephjiaaGreatDoor

/- Boot of the laws' own executable alone: no error. Plain. -/
namespace Go.Proofs.YtkcjafnaephjiaaGreatDoor
open Go.RowKit Go.Maps Go.Shelf
set_option maxRecDepth 100000

def livesLims : Lims := ⟨2, 10, 2, 3, 1000⟩
def initB : ByteArray := ⟨#[47, 105, 110, 105, 116]⟩
def livesF (p : Option Addr) (cap : Nat) : List FileA := [⟨initB, false, p, cap, tinyL⟩]
def livesN : List Nd := [rootNd, ⟨1, ⟨#[105, 110, 105, 116]⟩, false, tinyL, emptyB⟩]
theorem tiny_header : headerOk tinyL = true := by kernel_rfl
theorem tiny_segs : segsOk tinyL = true := by kernel_rfl
theorem tiny_n : (segN tinyL).toNat = 1 := by kernel_rfl
theorem tiny_entry : entryOk tinyL = true := by kernel_rfl
theorem tiny_load : loadE tinyL = 0 := by
  unfold loadE
  rw [tiny_header, tiny_segs, tiny_n, tiny_entry]
  rw [if_neg (by simp), if_neg (by simp), if_pos (fun k hk => ?_), if_pos rfl]
  obtain rfl : k = 0 := by omega
  intro n _ _
  rfl
theorem lives_files (p : Option Addr) (cap : Nat) : filesF 3 1000 [rootNd] (livesF p cap) = (0, livesN) := by kernel_rfl
theorem lives_walk : (docWalk livesN initP).2.2.2 = 0 ∧ (docWalk livesN initP).2.2.1 = 2 := ⟨by kernel_rfl, by kernel_rfl⟩
theorem tiny_pages : (pageNums (spaceL tinyL)).length = 1 := by kernel_rfl
theorem lives_exec : execE livesN initP true 0 0 10 = 0 := by
  unfold execE
  rw [lives_walk.1, lives_walk.2]
  rw [if_neg (by simp), if_neg (by simp)]
  simp only [livesN, Nat.reduceSub, List.getElem?_cons_succ, List.getElem?_cons_zero]
  rw [if_neg (by simp), tiny_load, if_neg (by simp), if_neg (by simp), tiny_pages, if_neg (by simp)]
theorem lives_boot (p : Option Addr) (cap : Nat) : bootE livesLims (livesF p cap) = 0 := by
  unfold bootE
  rw [show livesLims.okA = true from by kernel_rfl, show livesLims.okB = true from by kernel_rfl, show livesLims.d.toNat = 3 from rfl, show livesLims.e.toNat = 1000 from rfl, show livesLims.b.toNat = 10 from rfl, lives_files]
  rw [if_neg (by simp), if_neg (by simp), if_neg (by decide), if_neg (by simp)]
  exact lives_exec
end Go.Proofs.YtkcjafnaephjiaaGreatDoor

/- The law's small, with no script. -/
namespace Go.Proofs.YtkcjafnaephjiaaGreatDoor
open Go.RowKit Go.Maps Go.Shelf
set_option maxRecDepth 100000

def sizeF (F : List FileA) : Nat := (F.map fun f => f.path.size + f.byt.length).sum
def smallF (F : List FileA) : Bool := decide (F.length ≤ 100 ∧ sizeF F ≤ 200000)
theorem sizeF_take {F : List FileA} {k : Nat} {f : FileA} (h : F[k]? = some f) : sizeF (F.take (k + 1)) = sizeF (F.take k) + (f.path.size + f.byt.length) := by
  unfold sizeF
  rw [List.take_add_one, h]
  simp
set_option maxHeartbeats 4000000 in
theorem small_any (a b c d e : Int) (F : List FileA) (p : Option Addr) (cap : Nat) (w : World) (hr : ∀ (i : Nat) (f : FileA), F[i]? = some f → ∃ g o, p = some ⟨g, o, none⟩ ∧ w.rangeAt g (o + i * 3) [.string f.path, .bool f.dir, .slice f.p f.byt.length f.cap]) (hl : F.length ≤ 140737488351232) (hs : ∀ f ∈ F, f.path.size ≤ 140737488351232 ∧ f.byt.length ≤ 140737488351232) :
    Calls Tryz.prog 5 #[.agg #[.int .i64 a, .int .i64 b, .int .i64 c, .int .i64 d, .int .i64 e, .slice p F.length cap], .slice none 0 0] w fun e w' => e = .returned (.bool (smallF F)) ∧ Bel w w' := by
  have HR := Lib.hid hr
  have HS := Lib.hid hs
  clear hr hs
  by_cases h1 : F.length ≤ 100
  · have hd : decide ((100 : Int) < F.length) = false := by simp; omega
    go_enter Tryz.func5, Tryz.ntmps5
    have BX := Blk.new w [.int .i64 a, .int .i64 b, .int .i64 c, .int .i64 d, .int .i64 e, .slice p F.length cap] 26
    have kx : Bel w (w.alloc (.cells #[.int .i64 a, .int .i64 b, .int .i64 c, .int .i64 d, .int .i64 e, .slice p F.length cap] 26)) := Bel.start _ _
    change Blk (w.alloc (.cells #[.int .i64 a, .int .i64 b, .int .i64 c, .int .i64 d, .int .i64 e, .slice p F.length cap] 26)) w.heap.size _ _ at BX
    go_upto_region 3 with fail
    generalize w.alloc (.cells #[.int .i64 a, .int .i64 b, .int .i64 c, .int .i64 d, .int .i64 e, .slice p F.length cap] 26) = w2 at *
    generalize hxb : w.heap.size = xb at *
    have x5 : w2.cell? ⟨xb, 5, none⟩ = some (.slice p F.length cap) := BX.cell 5
    have HK : Hid (Bel w w2) := Lib.hid kx
    clear kx BX
    go_wp2_with fail
    go_loopw [5, 6] (fun n i wr => ∃ k q : Nat, k ≤ F.length ∧ i = .int .i64 k ∧ n = .int .i64 (sizeF (F.take k) : Nat) ∧ sizeF (F.take k) ≤ 281474976702464 * k ∧ wr = w2.drewN q) (fun _ i _ => F.length - (intOf i).toNat)
    case atStart => exact ⟨0, 0, Nat.zero_le _, rfl, rfl, Nat.le_refl _, rfl⟩
    case round =>
      obtain ⟨k, q, hk, rfl, rfl, hb, rfl⟩ := hrel
      by_cases hlt : k < F.length
      · have hf := List.getElem?_eq_getElem hlt
        obtain ⟨f, hff⟩ : ∃ f, F[k] = f := ⟨_, rfl⟩
        rw [hff] at hf
        obtain ⟨g, o, rfl, hran⟩ := HR.out k f hf
        obtain ⟨hs1, hs2⟩ := HS.out f (List.mem_iff_getElem?.2 ⟨k, hf⟩)
        have r0 : w2.cell? ⟨g, o + k * 3, none⟩ = some (.string f.path) := cell_bel HK.out (hran 0 _ rfl)
        have r2 : w2.cell? ⟨g, o + k * 3 + 2, none⟩ = some (.slice f.p f.byt.length f.cap) := cell_bel HK.out (hran 2 _ rfl)
        have hst := sizeF_take hf
        have hw1 : IntKind.i64.wrap (((sizeF (F.take k) : Nat) : Int) + (f.path.size : Int)) = ((sizeF (F.take k) : Nat) : Int) + (f.path.size : Int) := by rw [IntKind.wrap_i64]; omega
        have hw2 : IntKind.i64.wrap (((sizeF (F.take k) : Nat) : Int) + (f.path.size : Int) + (f.byt.length : Int)) = ((sizeF (F.take k) : Nat) : Int) + (f.path.size : Int) + (f.byt.length : Int) := by rw [IntKind.wrap_i64]; omega
        clear hran
        go_upto_region 7 with fail
        go_quiet (fail)
        go_wp2_with fail
        go_roundw
        case rel => exact ⟨k + 1, q + nq, by omega, by go_num, by rw [hst]; go_num, by omega, by simp [World.drewN_drewN]⟩
        case measure => simp [intOf] <;> omega
      · obtain rfl : k = F.length := by omega
        rw [List.take_length] at hb ⊢
        have hsm : smallF F = decide (((sizeF F : Nat) : Int) ≤ 200000) := by
          unfold smallF
          apply decide_eq_decide.2
          constructor
          · intro h; omega
          · intro h; exact ⟨h1, by omega⟩
        have HQ : Hid (Bel w (w2.drewN q)) := Lib.hid (bel_drewN HK.out q)
        go_wp2_with fail
        refine wp_loop_rounds 1 ?_
        rw [rounds_succ]
        go_wp2_with fail
        go_ret
        exact ⟨by rw [hsm]; rfl, HQ.out⟩
  · have hd : decide ((100 : Int) < F.length) = true := by simp; omega
    go_enter Tryz.func5, Tryz.ntmps5
    go_wp2_with fail
    go_ret
    refine ⟨?_, Bel.start _ _⟩
    rw [show smallF F = false from decide_eq_false fun h => h1 h.1]
    rfl
end Go.Proofs.YtkcjafnaephjiaaGreatDoor

/- The law's boot: what its first loop lays. Plain. -/
namespace Go.Proofs.YtkcjafnaephjiaaGreatDoor
open Go.RowKit Go.Maps Go.Shelf
set_option maxRecDepth 100000

/-- A row is kept when a row of another element's type grows. -/
theorem row_apart {w w' : World} {base base2 : Nat} {e e2 : TypeId} {size size2 : Nat} {v v2 : Value} {n n2 : Nat} {xs ys : List Value} (h : w.ownsRow base e size v n xs) (h2 : w.ownsRow base2 e2 size2 v2 n2 ys) (hne : e ≠ e2) (k : Keep (fun q => v2.ownBlock = some q) w w') : w'.ownsRow base e size v n xs := by
  refine ⟨h.1, ?_⟩
  rcases h.2 with h3 | ⟨g, cap, cur, rfl, h3, h4, h5⟩
  · exact .inl h3
  · have hb : Blk w g cur.toList e := h4
    refine .inr ⟨g, cap, cur, rfl, h3, (k.block g hb.lt fun hq => ?_).trans h4, h5⟩
    obtain ⟨_, c2, hb2⟩ := row_blk h2 hq
    exact hb.ne hb2 hne rfl
theorem blk_apart {w w' : World} {base2 : Nat} {e e2 : TypeId} {size2 : Nat} {v2 : Value} {n2 : Nat} {ys cs : List Value} {g : Nat} (h : Blk w g cs e) (h2 : w.ownsRow base2 e2 size2 v2 n2 ys) (hne : e ≠ e2) (k : Keep (fun q => v2.ownBlock = some q) w w') : Blk w' g cs e :=
  h.keep k fun hq => by
    obtain ⟨_, c2, hb2⟩ := row_blk h2 hq
    exact h.ne hb2 hne rfl
def FileA.cells (f : FileA) : List Value := [.string f.path, .bool f.dir, .slice f.p f.byt.length f.cap]
/-- The roomy copies. -/
structure Roomy (W : World) (base : Nat) (G : List FileA) : Prop where
  row : ∀ (i : Nat) (g : FileA), G[i]? = some g → ∃ b, g.p = some ⟨b, 0, none⟩ ∧ g.cap = g.byt.length + 2 ∧ base ≤ b ∧ Blk W b ((g.byt ++ [71, 72]).map (Value.int .u8)) 5
  dist : ∀ (i j : Nat) (g h : FileA) (b c : Nat), i < j → G[i]? = some g → G[j]? = some h → g.p = some ⟨b, 0, none⟩ → h.p = some ⟨c, 0, none⟩ → b < c
structure LoopB (w0 : World) (F : List FileA) (k : Nat) (v5 v6 v7 v8 : Value) (W : World) : Prop where
  bel : Bel w0 W
  r5 : W.ownsRow w0.heap.size 9 1 v5 k ((F.take k).map fun f => .string f.path)
  r6 : W.ownsRow w0.heap.size 4 1 v6 k ((F.take k).map fun f => .bool f.dir)
  r7 : W.ownsRow w0.heap.size 32 1 v7 k ((F.take k).map fun f => .slice f.p f.byt.length f.cap)
  r8 : ∃ G : List FileA, G.map FileA.said = (F.take k).map FileA.said ∧ W.ownsRow w0.heap.size 44 3 v8 k (G.flatMap FileA.cells) ∧ Roomy W w0.heap.size G
end Go.Proofs.YtkcjafnaephjiaaGreatDoor
