/- tinyos.Boot; both sides at any limits. -/
import Derived.Test.YtkcjafnaephjiaaGreatDoorPart37
import Derived.Test.YtkcjafnaephjiaaGreatDoorPart38
import Derived.Test.YtkcjafnaephjiaaGreatDoorPart04
set_option linter.unusedVariables false
set_option linter.unusedSimpArgs false
namespace Go.Proofs.YtkcjafnaephjiaaGreatDoor
open Go.RowKit
set_option maxRecDepth 100000

theorem bootP_any (l : Lims) (F : List FileA) (v : Value) (w : World) (hF : FListP w F v) (hmx : MaxVar w) (hfix : FixVar w) :
    Calls Tryz.prog 26 #[.agg (limC l).toArray, v] w fun e w' => Bel w w' ∧ (bootE l F ≠ 0 → e = .returned (.tuple #[.pointer none, errN (bootE l F : Nat)])) ∧ (bootE l F = 0 → ∃ kb, e = .returned (.tuple #[.pointer (some ⟨kb, 0, none⟩), .nilIface]) ∧ w.heap.size ≤ kb ∧ BootPKs w' w.heap.size kb l.a l.b l.c l.d.toNat l.e.toNat F) := by
  by_cases hA : l.okA = true
  · by_cases hB : l.okB = true
    · by_cases hd : l.d = 0
      · have he : bootE l F = 12 := by unfold bootE; rw [if_neg (by rw [hA]; simp), if_neg (by rw [hB]; simp), if_pos hd]
        refine (bootP_c l v w hA hB hd).mono ?_
        rintro e w' ⟨rfl, k⟩
        exact ⟨k, fun _ => by rw [he]; rfl, fun h => by rw [he] at h; cases h⟩
      · obtain ⟨a, b, c, d, e⟩ := l
        have hB' := hB
        simp only [Lims.okB, decide_eq_true_eq] at hB'
        obtain ⟨mi, rfl⟩ := Int.eq_ofNat_of_zero_le hB'.2.2.1
        obtain ⟨mb, rfl⟩ := Int.eq_ofNat_of_zero_le hB'.2.2.2.2.1
        exact bootP_main a b c mi mb F v w hF hA hB (fun h => hd (by show ((mi : Nat) : Int) = 0; omega)) hmx hfix
    · have hB' : l.okB = false := by simpa using hB
      have he : bootE l F = 6 := by unfold bootE; rw [if_neg (by rw [hA]; simp), if_pos hB']
      refine (bootP_b l v w hA hB').mono ?_
      rintro e w' ⟨rfl, k⟩
      exact ⟨k, fun _ => by rw [he]; rfl, fun h => by rw [he] at h; cases h⟩
  · have hA' : l.okA = false := by simpa using hA
    have he : bootE l F = 6 := by unfold bootE; rw [if_pos hA']
    refine (bootP_a l v w hA').mono ?_
    rintro e w' ⟨rfl, k⟩
    exact ⟨k, fun _ => by rw [he]; rfl, fun h => by rw [he] at h; cases h⟩
theorem bootD_any (l : Lims) (F : List FileA) (v1 v2 v3 : Value) (w : World) (hF : FLists w F v1 v2 v3) :
    Calls Tryz.prog 16 #[.agg (limC l).toArray, v1, v2, v3] w fun e w' => BootDRes w l F e w' := by
  by_cases hA : l.okA = true
  · by_cases hB : l.okB = true
    · by_cases hd : l.d = 0
      · have he : bootE l F = 12 := by unfold bootE; rw [if_neg (by rw [hA]; simp), if_neg (by rw [hB]; simp), if_pos hd]
        refine (bootD_c l v1 v2 v3 w hA hB hd).mono ?_
        rintro e w' ⟨rfl, k⟩
        exact ⟨k, fun _ => by rw [he]; rfl, fun h => by rw [he] at h; cases h⟩
      · exact bootD_main l F v1 v2 v3 w hF hA hB hd
    · have hB' : l.okB = false := by simpa using hB
      have he : bootE l F = 6 := by unfold bootE; rw [if_neg (by rw [hA]; simp), if_pos hB']
      refine (bootD_b l v1 v2 v3 w hA hB').mono ?_
      rintro e w' ⟨rfl, k⟩
      exact ⟨k, fun _ => by rw [he]; rfl, fun h => by rw [he] at h; cases h⟩
  · have hA' : l.okA = false := by simpa using hA
    have he : bootE l F = 6 := by unfold bootE; rw [if_pos hA']
    refine (bootD_a l v1 v2 v3 w hA').mono ?_
    rintro e w' ⟨rfl, k⟩
    exact ⟨k, fun _ => by rw [he]; rfl, fun h => by rw [he] at h; cases h⟩
def BootTRes (w : World) (l : Lims) (F : List FileA) (e : Ending) (w' : World) : Prop :=
  Bel w w' ∧ (bootE l F ≠ 0 → e = .returned (.tuple #[.pointer none, errN (bootE l F : Nat)])) ∧ (bootE l F = 0 → ∃ tk kb, e = .returned (.tuple #[.pointer (some ⟨tk, 0, none⟩), .nilIface]) ∧ w.heap.size ≤ tk ∧ w.heap.size ≤ kb ∧ Blk w' tk [.pointer (some ⟨kb, 0, none⟩)] 96 ∧ BootPKs w' w.heap.size kb l.a l.b l.c l.d.toNat l.e.toNat F)
theorem BootPK.bel {w w' : World} {kb : Nat} {a b c : Int} {mi mb : Nat} {F : List FileA} (h : BootPK w kb a b c mi mb F) (k : Bel w w') : BootPK w' kb a b c mi mb F := by
  obtain ⟨pm, tb, ob, cb, pb, sb, A, T, h1, h2, h3, h4, h5, h6, h7, h8⟩ := h
  exact ⟨pm, tb, ob, cb, pb, sb, A, T, h1.bel k, h2.bel k, h3.bel k, h4.bel k, h5.bel k, h6, h7.bel k, h8.bel k⟩
theorem BootPKs.bel {w w' : World} {B kb : Nat} {a b c : Int} {mi mb : Nat} {F : List FileA} (h : BootPKs w B kb a b c mi mb F) (k : Bel w w') : BootPKs w' B kb a b c mi mb F := by
  obtain ⟨pm, tb, ob, cb, pb, sb, A, T, h1, h2, h3, h4, h5, h6, h7, h8, h9, h10, h11⟩ := h
  exact ⟨pm, tb, ob, cb, pb, sb, A, T, h1.bel k, h2.bel k, h3.bel k, h4.bel k, h5.bel k, h6, h7.bel k, h8.bel k, h9, h10, h11⟩
theorem BootPKs.base {w : World} {B B' kb : Nat} {a b c : Int} {mi mb : Nat} {F : List FileA} (h : BootPKs w B kb a b c mi mb F) (k : B' ≤ B) : BootPKs w B' kb a b c mi mb F := by
  obtain ⟨pm, tb, ob, cb, pb, sb, A, T, h1, h2, h3, h4, h5, h6, h7, h8, h9, h10, h11⟩ := h
  exact ⟨pm, tb, ob, cb, pb, sb, A, T, h1, h2, h3, h4, h5, h6, h7, h8, fun q hq => Nat.le_trans k (h9 q hq), Nat.le_trans k h10, Nat.le_trans k h11⟩
theorem BootPKs.plain {w : World} {B kb : Nat} {a b c : Int} {mi mb : Nat} {F : List FileA} (h : BootPKs w B kb a b c mi mb F) : BootPK w kb a b c mi mb F := by
  obtain ⟨pm, tb, ob, cb, pb, sb, A, T, h1, h2, h3, h4, h5, h6, h7, h8, _⟩ := h
  exact ⟨pm, tb, ob, cb, pb, sb, A, T, h1, h2, h3, h4, h5, h6, h7, h8⟩
theorem BootPKs.lt {w : World} {B kb : Nat} {a b c : Int} {mi mb : Nat} {F : List FileA} (h : BootPKs w B kb a b c mi mb F) : kb < w.heap.size := by
  obtain ⟨pm, tb, ob, cb, pb, sb, A, T, h1, _⟩ := h
  exact h1.lt
/-- Writes into bytes that lay there ahead of it. -/
theorem BootPKs.keep {S : Nat → Prop} {w w' : World} {B kb : Nat} {a b c : Int} {mi mb : Nat} {F : List FileA} (h : BootPKs w B kb a b c mi mb F) (k : Keep S w w') (hs : ∀ q, S q → q < B ∧ ∃ cs, Blk w q cs 5) : BootPKs w' B kb a b c mi mb F := by
  obtain ⟨pm, tb, ob, cb, pb, sb, A, T, h1, h2, h3, h4, h5, h6, h7, h8, h9, h10, h11⟩ := h
  have nb : ∀ {q : Nat} {cs : List Value} {t : TypeId}, Blk w q cs t → t ≠ 5 → ¬ S q := fun hb ht hq => by
    obtain ⟨_, cs', hb'⟩ := hs _ hq
    exact hb.ne hb' ht rfl
  exact ⟨pm, tb, ob, cb, pb, sb, A, T, h1.keep k (nb h1 (by decide)), h2.of_block (k.block _ h2.lt fun hq => by
      obtain ⟨_, cs', hb'⟩ := hs _ hq
      exact hb'.ne_map h2 rfl), h3.keep k (nb h3 (by decide)), h4.keep k (nb h4 (by decide)), h5.keep k (fun q hq hS => by
      have h1 := h9 q hq
      have h2 := (hs q hS).1
      omega), h6, h7.keep k (nb h7 (by decide)), h8.of_block (k.block _ h8.lt fun hq => by
      obtain ⟨_, cs', hb'⟩ := hs _ hq
      obtain ⟨kv, hm, _⟩ := h8
      exact hb'.ne_map hm rfl), h9, h10, h11⟩
set_option maxHeartbeats 8000000 in
theorem bootT_any (l : Lims) (F : List FileA) (v : Value) (w : World) (hF : ∀ W, Bel w W → FListP W F v) (hmx : MaxVar w) (hfix : FixVar w) :
    Calls Tryz.prog 10 #[.agg (limC l).toArray, v] w fun e w' => BootTRes w l F e w' := by
  have hb := fun W (hW : Bel w W) => bootP_any l F v W (hF W hW) (hmx.bel hW) (hfix.bel hW)
  by_cases h0 : bootE l F = 0
  · have HB := Lib.hid fun W hW => (hb W hW).mono fun e w' k => And.intro k.1 (k.2.2 h0)
    have H0 := Lib.hid h0
    obtain ⟨a, b, c, d, e⟩ := l
    simp only [limC] at HB ⊢
    clear hb h0
    go_enter Tryz.func10, Tryz.ntmps10
    go_wp2_with (go_at_call 26; ((with_reducible refine Calls.mono (HB.out _ (Bel.start w _)) ?_); rintro e2 w1 ⟨k1, kb, rfl, hkb, hk⟩; have H1 := Lib.hid (And.intro k1 (And.intro hkb hk)); clear k1 hkb hk))
    go_ret2
    have k := (Bel.start w (.cells #[.int .i64 a, .int .i64 b, .int .i64 c, .int .i64 d, .int .i64 e] 23)).tr H1.out.1
    have hkb := H1.out.2.1
    refine ⟨k.ac _, fun h => absurd H0.out h, fun _ => ⟨w1.heap.size, kb, rfl, k.size, by simp at hkb; omega, Blk.new w1 _ _, (H1.out.2.2.bel (Bel.start w1 _)).base (by simp)⟩⟩
  · have HB := Lib.hid fun W hW => (hb W hW).mono fun e w' k => And.intro k.1 (k.2.1 h0)
    obtain ⟨ec, hec⟩ : ∃ ec : Nat, bootE l F = ec := ⟨_, rfl⟩
    rw [hec] at HB h0
    have hcb : ((ec : Int) == 0) = false := beq_eq_false_iff_ne.2 (by omega)
    have HEC := Lib.hid hec
    have H0 := Lib.hid h0
    obtain ⟨a, b, c, d, e⟩ := l
    simp only [limC] at HB ⊢
    clear hb h0 hec
    go_enter Tryz.func10, Tryz.ntmps10
    go_wp2_with (go_at_call 26; ((with_reducible refine Calls.mono (HB.out _ (Bel.start w _)) ?_); rintro e2 w1 ⟨k1, rfl⟩; have H1 := Lib.hid k1; clear k1))
    go_ret2
    exact ⟨(Bel.start w _).tr H1.out, fun _ => by rw [HEC.out]; rfl, fun h => absurd (HEC.out.symm.trans h) H0.out⟩
end Go.Proofs.YtkcjafnaephjiaaGreatDoor

/- Boot's answer looks at the files' paths, kinds and bytes alone. Plain. -/
namespace Go.Proofs.YtkcjafnaephjiaaGreatDoor
open Go.RowKit Go.Maps
set_option maxRecDepth 100000

def FileA.said (f : FileA) : ByteArray × Bool × List Int := (f.path, f.dir, f.byt)
theorem filesF_same (mi mb : Nat) : ∀ (N : List Nd) (F G : List FileA), F.map FileA.said = G.map FileA.said → filesF mi mb N F = filesF mi mb N G := fun N F => by
  induction F generalizing N with
  | nil =>
    intro G h
    cases G with
    | nil => rfl
    | cons g G => cases h
  | cons f F ih =>
    intro G h
    cases G with
    | nil => cases h
    | cons g G =>
      rw [List.map_cons, List.map_cons] at h
      injection h with h1 h2
      unfold FileA.said at h1
      injection h1 with h3 h4
      injection h4 with h5 h6
      unfold filesF
      rw [h3, h5, h6, ih _ G h2]
theorem bootE_same (l : Lims) (F G : List FileA) (h : F.map FileA.said = G.map FileA.said) : bootE l F = bootE l G := by
  unfold bootE
  rw [filesF_same _ _ _ F G h]
theorem BootDK.same {w : World} {kb : Nat} {l : Lims} {F G : List FileA} (h : BootDK w kb l F) (e : F.map FileA.said = G.map FileA.said) : BootDK w kb l G := by
  obtain ⟨iv, L, s, pb, pc, cells, v, h1, h2, h3⟩ := h
  exact ⟨iv, L, s, pb, pc, cells, v, h1, h2.trans (by rw [filesF_same _ _ _ F G e]), h3⟩
theorem BootPK.same {w : World} {kb : Nat} {a b c : Int} {mi mb : Nat} {F G : List FileA} (h : BootPK w kb a b c mi mb F) (e : F.map FileA.said = G.map FileA.said) : BootPK w kb a b c mi mb G := by
  obtain ⟨pm, tb, ob, cb, pb, sb, A, T, h1, h2, h3, h4, h5, h6, h7⟩ := h
  exact ⟨pm, tb, ob, cb, pb, sb, A, T, h1, h2, h3, h4, h5, h6.trans (by rw [filesF_same _ _ _ F G e]), h7⟩
theorem BootPKs.same {w : World} {B kb : Nat} {a b c : Int} {mi mb : Nat} {F G : List FileA} (h : BootPKs w B kb a b c mi mb F) (e : F.map FileA.said = G.map FileA.said) : BootPKs w B kb a b c mi mb G := by
  obtain ⟨pm, tb, ob, cb, pb, sb, A, T, h1, h2, h3, h4, h5, h6, h7⟩ := h
  exact ⟨pm, tb, ob, cb, pb, sb, A, T, h1, h2, h3, h4, h5, h6.trans (by rw [filesF_same _ _ _ F G e]), h7⟩
theorem BootDK.bel {w w' : World} {kb : Nat} {l : Lims} {F : List FileA} (h : BootDK w kb l F) (k : Bel w w') : BootDK w' kb l F := by
  obtain ⟨iv, L, s, pb, pc, cells, v, h1, h2, h3, h4, h5, hb, hpc, htk, hr⟩ := h
  exact ⟨iv, L, s, pb, pc, cells, v, h1.bel k, h2, h3, h4, h5, hb.bel k, hpc, htk, row_bel hr k⟩
end Go.Proofs.YtkcjafnaephjiaaGreatDoor

/- api.Tell and num of what both Boots answer. -/
namespace Go.Proofs.YtkcjafnaephjiaaGreatDoor
open Go.RowKit Go.Maps Go.Shelf
set_option maxRecDepth 100000

theorem tell_errN (n : Int) (w : World) (hg : ErrVar w) : Calls Tryz.prog 12 #[errN n] w fun e w' => e = .returned (.int .i64 n) ∧ Bel w w' := tell_hit _ _ n w (asHit_errno n w) hg
set_option maxHeartbeats 4000000 in
theorem num_same (n : Int) (w : World) : Calls Tryz.prog 17 #[.int .i64 n] w fun e w' => e = .returned (.int .i64 n) ∧ w = w' := by
  go_enter Tryz.func17, Tryz.ntmps17
  go_wp2
  go_ret
  exact ⟨rfl, rfl⟩
end Go.Proofs.YtkcjafnaephjiaaGreatDoor
