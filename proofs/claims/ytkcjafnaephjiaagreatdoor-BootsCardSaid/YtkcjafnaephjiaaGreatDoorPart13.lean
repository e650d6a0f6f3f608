/- The program's Grow; a node's bytes set. -/
import Derived.Deep.RegionWith
import Derived.Deep.RegionLaw
import Derived.Test.YtkcjafnaephjiaaGreatDoorPart09
import Derived.Test.YtkcjafnaephjiaaGreatDoorPart01
import Derived.Test.YtkcjafnaephjiaaGreatDoorPart12
set_option linter.unusedVariables false
set_option linter.unusedSimpArgs false
namespace Go.Proofs.YtkcjafnaephjiaaGreatDoor
open Go.RowKit Go.MapKept Go.Maps
set_option maxRecDepth 100000

def Pn.setB (x : Pn) (bv : Value) (L : List Int) : Pn := { x with bv := bv, byt := L }
theorem kidsF_set (A : Adr) (d : Nat) : ∀ (i k : Nat) (T : List Pn) (x : Pn) (bv : Value) (L : List Int), T[k]? = some x → kidsF A d i (T.set k (x.setB bv L)) = kidsF A d i T
  | _, _, [], _, _, _, h => by simp at h
  | i, 0, n :: T, x, bv, L, h => by
    simp at h
    subst h
    rfl
  | i, k + 1, n :: T, x, bv, L, h => by
    have ih := kidsF_set A d (i + 1) k T x bv L (by simpa using h)
    simp only [List.set_cons_succ, kidsF, ih]
theorem PTree.setB {w w' : World} {A : Adr} {T : List Pn} {S : Nat → Prop} (h : PTree w A T) (i : Nat) (x : Pn) (hx : T[i]? = some x) (bv : Value) (L : List Int)
    (hnode : Blk w' (A.nb (i + 1)) ((x.setB bv L).cells A (i + 1)) 173) (hrw : Rw w' bv L) (hnew : ∀ g, bv.ownBlock = some g → w.heap.size ≤ g ∨ x.bv.ownBlock = some g)
    (hk : Keep S w w') (hS : ∀ q, TFoot A T q → S q → q = A.nb (i + 1) ∨ x.bv.ownBlock = some q) : PTree w' A (T.set i (x.setB bv L)) := by
  have hil : i < T.length := (List.getElem?_eq_some_iff.1 hx).1
  have hlt : ∀ (j : Nat) (m : Pn), (T.set i (x.setB bv L))[j]? = some m → j = i ∧ m = x.setB bv L ∨ j ≠ i ∧ T[j]? = some m := by
    intro j m hj
    by_cases e : j = i
    · subst e
      rw [List.getElem?_set_self hil] at hj
      exact .inl ⟨rfl, (Option.some.inj hj).symm⟩
    · rw [List.getElem?_set_ne (fun h => e h.symm)] at hj
      exact .inr ⟨e, hj⟩
  have hmap : ∀ (j : Nat) (m : Pn), (T.set i (x.setB bv L))[j]? = some m → ∃ m0, T[j]? = some m0 ∧ m.par = m0.par ∧ m.dir = m0.dir ∧ m.gone = m0.gone ∧ m.name = m0.name := by
    intro j m hj
    rcases hlt j m hj with ⟨rfl, rfl⟩ | ⟨_, h2⟩
    · exact ⟨x, hx, rfl, rfl, rfl, rfl⟩
    · exact ⟨m, h2, rfl, rfl, rfl, rfl⟩
  have hback : ∀ (j : Nat) (m : Pn), T[j]? = some m → ∃ m1, (T.set i (x.setB bv L))[j]? = some m1 ∧ m1.dir = m.dir ∧ m1.par = m.par ∧ m1.gone = m.gone := by
    intro j m hj
    by_cases e : j = i
    · subst e
      rw [hx] at hj
      cases hj
      exact ⟨x.setB bv L, List.getElem?_set_self hil, rfl, rfl, rfl⟩
    · exact ⟨m, by rw [List.getElem?_set_ne (fun h => e h.symm)]; exact hj, rfl, rfl, rfl⟩
  have hfl : ∀ q, TFoot A T q → q < w.heap.size := fun q hq => h.foot_lt hq
  have hbn : ∀ (j : Nat) (m : Pn), T[j]? = some m → ∀ g, m.bv.ownBlock = some g → g ≠ A.nb (i + 1) := fun j m hj g hg => by
    obtain ⟨_, cur, hb⟩ := (h.byts j m hj).lt hg
    exact hb.ne (h.node i x hx) (by decide)
  have hmn : ∀ (j : Nat) (m : Pn), T[j]? = some m → m.dir = true → A.mb (j + 1) ≠ A.nb (i + 1) ∧ ∀ g, x.bv.ownBlock = some g → A.mb (j + 1) ≠ g := fun j m hj hd =>
    ⟨fun e => (h.node i x hx).ne_map (h.kids j m hj hd) e.symm, fun g hg e => by
      obtain ⟨_, cur, hb⟩ := (h.byts i x hx).lt hg
      exact hb.ne_map (h.kids j m hj hd) e.symm⟩
  refine ⟨?_, ?_, ?_, ?_, ?_, ?_, ?_, ?_, ?_, ?_, ?_, by simpa using h.few⟩
  · intro j m hj
    rcases hlt j m hj with ⟨rfl, rfl⟩ | ⟨hne, h2⟩
    · exact hnode
    · refine (h.node j m h2).keep hk fun hs => ?_
      rcases hS _ ⟨j, m, h2, .inl rfl⟩ hs with e | e
      · exact hne (h.inj j i (List.getElem?_eq_some_iff.1 h2).1 hil e)
      · obtain ⟨_, cur, hb⟩ := (h.byts i x hx).lt e
        exact hb.ne (h.node j m h2) (by decide) rfl
  · intro j m hj hd
    obtain ⟨m0, h1, _, h2, _⟩ := hmap j m hj
    have hd0 : m0.dir = true := by rw [← h2]; exact hd
    show Mp keyS w' _ (kidsF A (j + 1) 0 _)
    rw [kidsF_set A (j + 1) 0 i T x bv L hx]
    refine (h.kids j m0 h1 hd0).of_block (hk.block _ (h.kids j m0 h1 hd0).lt fun hs => ?_)
    rcases hS _ ⟨j, m0, h1, .inr (.inl ⟨hd0, rfl⟩)⟩ hs with e | e
    · exact (hmn j m0 h1 hd0).1 e
    · exact (hmn j m0 h1 hd0).2 _ e rfl
  · intro j m hj
    rcases hlt j m hj with ⟨rfl, rfl⟩ | ⟨hne, h2⟩
    · exact hrw
    · refine (h.byts j m h2).keep hk fun g hg hs => ?_
      rcases hS _ ⟨j, m, h2, .inr (.inr hg)⟩ hs with e | e
      · exact hbn j m h2 g hg e
      · exact hne (h.sep j i m x g h2 hx hg e)
  · intro a b ha hb
    simp at ha hb
    exact h.inj a b ha hb
  · intro a b m n ha hb hda hdb he
    obtain ⟨m0, h1, _, h2, _⟩ := hmap a m ha
    obtain ⟨n0, h3, _, h4, _⟩ := hmap b n hb
    exact h.minj a b m0 n0 h1 h3 (h2 ▸ hda) (h4 ▸ hdb) he
  · intro a b m n g ha hb hm hn
    rcases hlt a m ha with ⟨rfl, rfl⟩ | ⟨hne, h2⟩ <;> rcases hlt b n hb with ⟨rfl, rfl⟩ | ⟨hne', h2'⟩
    · rfl
    · rcases hnew g hm with h5 | h5
      · have := ((h.byts b n h2').lt hn).1
        omega
      · exact h.sep a b x n g hx h2' h5 hn
    · rcases hnew g hn with h5 | h5
      · have := ((h.byts a m h2).lt hm).1
        omega
      · exact h.sep a b m x g h2 hx hm h5
    · exact h.sep a b m n g h2 h2' hm hn
  · intro a m ha
    obtain ⟨m0, h1, h2, _⟩ := hmap a m ha
    rw [h2]; exact h.par a m0 h1
  · intro a m ha h0
    obtain ⟨m0, h1, h2, _⟩ := hmap a m ha
    rw [h2] at h0 ⊢
    obtain ⟨p, hp1, hp2⟩ := h.pdir a m0 h1 h0
    obtain ⟨p1, hp3, hp4, _⟩ := hback _ p hp1
    exact ⟨p1, hp3, hp4 ▸ hp2⟩
  · obtain ⟨r, h1, h2, h3, h4⟩ := h.root
    obtain ⟨r1, h5, h6, h7, h8⟩ := hback 0 r h1
    exact ⟨r1, h5, h7 ▸ h2, h6 ▸ h3, h8 ▸ h4⟩
  · intro a m ha h0 h1
    obtain ⟨m0, h2, h3, _, h5, _⟩ := hmap a m ha
    rw [h5]; exact h.top a m0 h2 (h3 ▸ h0) h1
  · intro a m ha h0 h1
    obtain ⟨m0, h2, _, _, h5, h6⟩ := hmap a m ha
    rw [h6]; exact h.name a m0 h2 (h5 ▸ h0) h1
theorem nds_set (T : List Pn) (i : Nat) (x : Pn) (bv : Value) (L : List Int) : nds (T.set i (x.setB bv L)) = (nds T).set i { x.nd with byt := L } := by
  unfold nds; rw [List.map_set]; rfl
theorem sumB_set (N : List Nd) (i : Nat) (x y : Nd) (hx : N[i]? = some x) : sumB (N.set i y) + x.byt.length = sumB N + y.byt.length := by
  unfold sumB
  induction N generalizing i with
  | nil => simp at hx
  | cons n N ih =>
    cases i with
    | zero => simp at hx; subst hx; simp; omega
    | succ i => simp at hx ih ⊢; have := ih i hx; omega
theorem u8Info : (Tryz.prog.info? 5).map (fun i => (i.zero, i.size, i.bytes)) = some (some (.int .u8 0), 1, 1) := by kernel_rfl

def GrowRes (w : World) (tb : Nat) (A : Adr) (T : List Pn) (mi mb i : Nat) (x : Pn) (L : List Int) (w' : World) : Prop := ∃ bv, PStep w tb A T mi mb ((nds T).set i { x.nd with byt := L }) A (T.set i (x.setB bv L)) w'
theorem foot_set {tb : Nat} {A : Adr} {T : List Pn} {i : Nat} {x : Pn} {bv : Value} {L : List Int} (hx : T[i]? = some x) {B : Nat} (hnew : ∀ g, bv.ownBlock = some g → B ≤ g ∨ x.bv.ownBlock = some g) : ∀ q, Foot tb A (T.set i (x.setB bv L)) q → Foot tb A T q ∨ B ≤ q := by
  have hil : i < T.length := (List.getElem?_eq_some_iff.1 hx).1
  rintro q (rfl | ⟨j, m, hj, hq⟩)
  · exact .inl (.inl rfl)
  · by_cases e : j = i
    · subst e
      rw [List.getElem?_set_self hil] at hj
      cases hj
      rcases hq with h1 | ⟨h1, h2⟩ | h1
      · exact .inl (.inr ⟨j, x, hx, .inl h1⟩)
      · exact .inl (.inr ⟨j, x, hx, .inr (.inl ⟨h1, h2⟩)⟩)
      · rcases hnew q h1 with h2 | h2
        · exact .inr h2
        · exact .inl (.inr ⟨j, x, hx, .inr (.inr h2)⟩)
    · rw [List.getElem?_set_ne (fun h => e h.symm)] at hj
      exact .inl (.inr ⟨j, m, hj, hq⟩)

theorem grow_done {w w1 w2 : World} {tb : Nat} {A : Adr} {T : List Pn} {mi mb i : Nat} {x : Pn} {more g cp k : Nat} (h : PT w tb A T mi mb) (hx : T[i]? = some x) (hm : sumB (nds T) + more ≤ mb)
    (hT1 : Blk w1 tb ((TN.cells A ⟨T.length, sumB (nds T), mi, mb⟩).set 2 (.int .i64 ((sumB (nds T) : Nat) + (more : Int)))) 175) (k1 : Keep (fun q => q = tb) w w1) (hg : w1.heap.size = g) (k2 : Bel w1 w2)
    (B2 : Blk w2 g (x.byt.map (Value.int .u8) ++ List.replicate (more + k) (.int .u8 0)) 5) (h0 : 0 < more) (hcp2 : cp ≤ maxLen) (hcp : cp = x.byt.length + more + k) :
    GrowRes w tb A T mi mb i x (x.byt ++ List.replicate more 0) (w2.setCell ⟨A.nb (i + 1), 3, none⟩ (.slice (some ⟨g, 0, none⟩) (x.byt.length + more) cp)) := by
  have hgw : w.heap.size ≤ g := by rw [← hg]; exact k1.size
  have hnode := h.tree.node i x hx
  have hne : A.nb (i + 1) ≠ tb := hnode.ne h.block (by decide)
  have hnd2 := (hnode.keep k1 hne).bel k2
  have hfoot : ∀ q, TFoot A T q → q ≠ tb := fun q hq e => by
    subst e
    obtain ⟨j, m, hj, h1 | ⟨hd, h1⟩ | h1⟩ := hq
    · exact (h.block.ne (h.tree.node j m hj) (by decide)) h1
    · exact (h.block.ne_map (h.tree.kids j m hj hd)) h1
    · obtain ⟨_, cur, hb⟩ := (h.tree.byts j m hj).lt h1
      exact (h.block.ne hb (by decide)) rfl
  have hK : Keep (fun q => q = tb ∨ q = A.nb (i + 1)) w (w2.setCell ⟨A.nb (i + 1), 3, none⟩ (.slice (some ⟨g, 0, none⟩) (x.byt.length + more) cp)) :=
    ((k1.mono fun _ h => .inl h).tr (Keep.of_bel _ k2)).tr ((Keep.setCell w2 (A.nb (i + 1)) 3 _).mono fun _ h => .inr h)
  have hnds := nds_set T i x (.slice (some ⟨g, 0, none⟩) (x.byt.length + more) cp) (x.byt ++ List.replicate more 0)
  have hxn : (nds T)[i]? = some x.nd := by unfold nds; rw [List.getElem?_map, hx]; rfl
  have hsum : sumB (nds (T.set i (x.setB (.slice (some ⟨g, 0, none⟩) (x.byt.length + more) cp) (x.byt ++ List.replicate more 0)))) = sumB (nds T) + more := by
    rw [hnds]
    have := sumB_set (nds T) i x.nd { x.nd with byt := x.byt ++ List.replicate more 0 } hxn
    simp [Pn.nd] at this ⊢
    omega
  have hgn : g ≠ A.nb (i + 1) := fun e => by have := hnode.lt; omega
  have hrw : Rw (w2.setCell ⟨A.nb (i + 1), 3, none⟩ (.slice (some ⟨g, 0, none⟩) (x.byt.length + more) cp)) (.slice (some ⟨g, 0, none⟩) (x.byt.length + more) cp) (x.byt ++ List.replicate more 0) := by
    refine ⟨fun y hy => ?_, .inr ⟨g, cp, _, by simp, B2.setCell_other (a := ⟨A.nb (i + 1), 3, none⟩) hgn _, by simp; omega, by simp; omega, hcp2, ?_⟩⟩
    · rcases List.mem_append.1 hy with hy | hy
      · exact (h.tree.byts i x hx).1 y hy
      · have := List.eq_of_mem_replicate hy; omega
    · rw [List.length_append, List.length_replicate, List.map_append, List.map_replicate, List.take_append, List.take_of_length_le (by simp), List.take_replicate]
      simp
  refine ⟨_, ⟨h.tree.setB i x hx _ _ ?_ hrw ?_ hK ?_, ?_, by simpa using h.few, by rw [hsum]; exact hm, h.mi, h.mb⟩, hnds, hK.mono ?_, foot_set hx ?_⟩
  · exact hnd2.setCell (o := 3) _
  · intro g' hg'; cases hg'; exact .inl hgw
  · rintro q hq (rfl | rfl)
    · exact absurd rfl (hfoot _ hq)
    · exact .inl rfl
  · rw [hsum]
    have := (hT1.bel k2).setCell_other (a := ⟨A.nb (i + 1), 3, none⟩) (fun e => hne e.symm) (.slice (some ⟨g, 0, none⟩) (x.byt.length + more) cp)
    rw [List.length_set]
    exact this
  · rintro q (rfl | rfl)
    · exact .inl rfl
    · exact .inr ⟨i, x, hx, .inl rfl⟩
  · intro g' hg'; cases hg'; exact .inl hgw

set_option maxHeartbeats 16000000 in
theorem grow_any (tb : Nat) (A : Adr) (T : List Pn) (mi mb : Nat) (i : Nat) (x : Pn) (more : Nat) (w : World) (h : PT w tb A T mi mb) (hx : T[i]? = some x) (h0 : 0 < more) (hm : sumB (nds T) + more ≤ mb) :
    Calls Tryz.prog 61 #[.pointer (some ⟨tb, 0, none⟩), .pointer (some ⟨A.nb (i + 1), 0, none⟩), .int .i64 more] w fun e w' => e = .returned (.tuple #[]) ∧ GrowRes w tb A T mi mb i x (x.byt ++ List.replicate more 0) w' := by
  have hb := h.mb
  have hsm := h.small
  have c2 : w.cell? ⟨tb, 2, none⟩ = some (.int .i64 ((sumB (nds T) : Nat) : Int)) := h.block.cell 2
  have f2 := h.block.frozen
  have hlt := h.block.lt
  have hnode := h.tree.node i x hx
  have hbyt := h.tree.byts i x hx
  obtain ⟨p, cap, hbv, hlc, hcm, hpn⟩ := hbyt.slice
  have c3 : w.cell? ⟨A.nb (i + 1), 3, none⟩ = some (.slice p x.byt.length cap) := by rw [← hbv]; exact hnode.cell 3
  have f3 := hnode.frozen
  have hnl := hnode.lt
  have hne : A.nb (i + 1) ≠ tb := hnode.ne h.block (by decide)
  have hls : x.byt.length ≤ sumB (nds T) := by
    have := sumB_set (nds T) i x.nd { x.nd with byt := [] } (by unfold nds; rw [List.getElem?_map, hx]; rfl)
    simp [Pn.nd] at this
    omega
  have HPT := Lib.hid h
  have HX := Lib.hid hx
  have HND := Lib.hid hnode
  have HBT := Lib.hid hbyt
  have HBV := Lib.hid hbv
  have HPN := Lib.hid hpn
  have HNE := Lib.hid hne
  have HH := Lib.hid hm
  generalize htot : sumB (nds T) = total at *
  have HTOT := Lib.hid htot
  clear htot
  generalize hnbe : A.nb (i + 1) = nb at *
  have HNB := Lib.hid hnbe
  clear h hx hnode hbyt hbv hpn hnbe
  go_enter Tryz.func61, Tryz.ntmps61
  go_upto_region 1 with fail
  have BT := HPT.out.block.setCell (o := 2) (.int .i64 ((total : Int) + (more : Int)))
  have k1 : Keep (fun q => q = tb) w (w.setCell ⟨tb, 2, none⟩ (.int .i64 ((total : Int) + (more : Int)))) := Keep.setCell w tb 2 _
  generalize w.setCell ⟨tb, 2, none⟩ (.int .i64 ((total : Int) + (more : Int))) = w1 at *
  have HND1 := Lib.hid (HND.out.keep k1 HNE.out)
  have HBT1 : Hid (Rw w1 x.bv x.byt) := Lib.hid (HBT.out.keep k1 fun g hg e => by
    obtain ⟨_, cur, hb⟩ := HBT.out.lt hg
    exact hb.ne HPT.out.block (by decide) e)
  have HTB1 := Lib.hid BT
  have HK1 := Lib.hid k1
  have c3 : w1.cell? ⟨nb, 3, none⟩ = some (.slice p x.byt.length cap) := by rw [← HBV.out]; exact HND1.out.cell 3
  have f3 : ∀ o, w1.frozen? ⟨nb, o, none⟩ = false := HND1.out.frozen
  have hnl : nb < w1.heap.size := HND1.out.lt
  clear BT k1 f2 c2
  obtain ⟨inf, hi1, hi2, hi3, hi4⟩ := info_parts u8Info
  have HI1 := Lib.hid hi1
  have HI2 := Lib.hid hi2
  have HI3 := Lib.hid hi3
  have HI4 := Lib.hid hi4
  clear hi1 hi2 hi3 hi4
  have HB1 : Hid (∀ b, p = some b → ∀ j v, (x.byt.map (Value.int .u8))[j]? = some v → w1.cell? (b.add j) = some v) := Lib.hid (fun b hb j v hj => by
    obtain ⟨g, rfl, hg⟩ := HBT1.out.cells (by rw [HBV.out, hb])
    rw [show (⟨g, 0, none⟩ : Addr).add j = ⟨g, j, none⟩ from by unfold Addr.add; split <;> simp_all]
    exact hg j v hj)
  have HPZ : Hid (p = none → x.byt.length = 0) := Lib.hid fun e => by simp [(HPN.out e).1]
  have HML : Hid ((x.byt.map (Value.int .u8)).length = x.byt.length) := Lib.hid (by simp)
  go_region_law (refine step_append_zeros rfl (.tmp 29) (.tmp 30) 32 3 5 rfl inf (.int .u8 0) Tryz.underlying32 Tryz.underlying3 HI1.out HI2.out rfl HI3.out HI4.out p x.byt.length x.byt.length (x.byt.map (Value.int .u8)) rfl HPZ.out HML.out HB1.out more rfl h0 (by omega) (by omega) ?_; intro w2 cp k B2 K2 hcp1 hcp2 hcp3; have c3 : w2.cell? ⟨nb, 3, none⟩ = some (.slice p x.byt.length cap) := cell_bel K2 c3; have f3 : ∀ o, w2.frozen? ⟨nb, o, none⟩ = false := fun o => (HND1.out.bel ((Bel.drew (Bel.refl w1)).tr K2)).frozen o; have hnl2 : nb < w2.heap.size := (HND1.out.bel ((Bel.drew (Bel.refl w1)).tr K2)).lt; have HB2 := Lib.hid B2.out; have HK2 : Hid (Bel w1 w2) := Lib.hid ((Bel.drew (Bel.refl w1)).tr K2); have HCP := Lib.hid hcp3; clear B2 K2 hcp3)
  all_goals go_wp2
  all_goals go_end0
  all_goals (refine ⟨rfl, ?_⟩; rw [← HNB.out]; refine grow_done (w1 := w1) HPT.out HX.out (by rw [HTOT.out]; exact HH.out) ?_ HK1.out rfl HK2.out HB2.out h0 hcp2 HCP.out; rw [HTOT.out]; exact HTB1.out)
end Go.Proofs.YtkcjafnaephjiaaGreatDoor
