/- Boot's files, in plain words: what a file does to the tree; the tree's state. -/
import Derived.Test.YtkcjafnaephjiaaGreatDoorPart09
import Derived.Laws.ResultCell
import Derived.Deep.RegionHeld3
import Derived.Deep.DeepCutAuto
import Derived.StillTailTactics
import Derived.Test.YtkcjafnaephjiaaGreatDoorPart03
import Derived.Test.YtkcjafnaephjiaaGreatDoorPart06
namespace Go.Proofs.YtkcjafnaephjiaaGreatDoor
open Go.RowKit Go.MapKept Go.Maps
set_option maxRecDepth 100000

def Nd.sk (n : Nd) : Nd := { n with bv := emptyB }
def sks (L : List Nd) : List Nd := L.map Nd.sk
def sumB (N : List Nd) : Nat := (N.map fun n => n.byt.length).sum
theorem childF_sk (d : Nat) (s : ByteArray) : ∀ (i : Nat) (L : List Nd), childF d s i (sks L) = childF d s i L
  | _, [] => rfl
  | i, n :: L => by
    have ih := childF_sk d s (i + 1) L
    unfold sks at *
    simp only [List.map_cons, childF, ih]
    rfl
theorem child_sk (L : List Nd) (d : Nat) (s : ByteArray) : child (sks L) d s = child L d s := childF_sk d s 0 L
theorem isDir_sk (L : List Nd) (n : Nat) : isDir (sks L) n = isDir L n := by
  unfold isDir sks
  rw [List.getElem?_map]
  cases L[n - 1]? <;> rfl
theorem walkF_sk (L : List Nd) : ∀ (l : List (List UInt8)) (d : Nat), walkF (sks L) d l = walkF L d l
  | [], _ => rfl
  | [x], d => by simp only [walkF, child_sk]
  | x :: y :: t, d => by
    have ih := walkF_sk L (y :: t) (child L d ⟨x.toArray⟩)
    simp only [walkF, child_sk, isDir_sk, ih]
theorem docWalk_sk (L : List Nd) (s : List UInt8) : docWalk (sks L) s = docWalk L s := by
  unfold docWalk
  cases pathOf s with
  | none => rfl
  | some l => exact walkF_sk L l 1

theorem childF_get (d : Nat) (s : ByteArray) : ∀ (i : Nat) (L : List Nd), childF d s i L ≠ 0 → ∃ n, L[childF d s i L - 1 - i]? = some n ∧ n.par = d ∧ n.name = s ∧ i < childF d s i L
  | _, [], h => absurd rfl h
  | i, n :: L, h => by
    by_cases hc : n.par = d ∧ n.name = s
    · refine ⟨n, ?_, hc.1, hc.2, ?_⟩ <;> rw [childF, if_pos hc]
      · simp
      · omega
    · rw [childF, if_neg hc] at h ⊢
      obtain ⟨m, h1, h2, h3, h4⟩ := childF_get d s (i + 1) L h
      refine ⟨m, ?_, h2, h3, by omega⟩
      rw [show childF d s (i + 1) L - 1 - i = (childF d s (i + 1) L - 1 - (i + 1)) + 1 from by omega, List.getElem?_cons_succ]
      exact h1
/-- Where a walk that finds no error ends. -/
theorem walkF_spec (L : List Nd) : ∀ (l : List (List UInt8)) (d : Nat), l ≠ [] → d ≠ 0 → isDir L d = true → (walkF L d l).2.2.2 = 0 →
    (walkF L d l).1 ≠ 0 ∧ isDir L (walkF L d l).1 = true ∧ (walkF L d l).2.2.1 = child L (walkF L d l).1 (walkF L d l).2.1 ∧ ∃ x ∈ l, (walkF L d l).2.1 = ⟨x.toArray⟩
  | [], _, h, _, _, _ => absurd rfl h
  | [x], d, _, hd, hi, _ => ⟨hd, hi, rfl, x, by simp, rfl⟩
  | x :: y :: t, d, _, hd, hi, he => by
    simp only [walkF] at he ⊢
    by_cases h0 : child L d ⟨x.toArray⟩ = 0
    · rw [if_pos h0] at he; cases he
    · rw [if_neg h0] at he ⊢
      cases hc : isDir L (child L d ⟨x.toArray⟩) with
      | false => rw [hc] at he; cases he
      | true =>
        rw [hc] at he
        simp only [if_true] at he ⊢
        obtain ⟨h1, h2, h3, z, h4, h5⟩ := walkF_spec L (y :: t) _ (by simp) h0 hc he
        exact ⟨h1, h2, h3, z, by simp only [List.mem_cons] at h4 ⊢; exact .inr h4, h5⟩
theorem isDir_lt {L : List Nd} {n : Nat} (h : isDir L n = true) : ∃ x, L[n - 1]? = some x ∧ x.dir = true := by
  unfold isDir at h
  cases hx : L[n - 1]? with
  | none => rw [hx] at h; cases h
  | some x => rw [hx] at h; exact ⟨x, rfl, h⟩
theorem docWalk_new {L : List Nd} {s : List UInt8} (hr : isDir L 1 = true) (he : (docWalk L s).2.2.2 = 0) (hn : (docWalk L s).2.2.1 = 0) :
    (docWalk L s).1 ≠ 0 ∧ isDir L (docWalk L s).1 = true ∧ child L (docWalk L s).1 (docWalk L s).2.1 = 0 ∧ nameOk (docWalk L s).2.1.data.toList = true ∧ (47 : UInt8) ∉ (docWalk L s).2.1.data.toList := by
  unfold docWalk at *
  cases hp : pathOf s with
  | none => rw [hp] at he; cases he
  | some l =>
    rw [hp] at he hn
    simp only at he hn ⊢
    have hne : l ≠ [] := by
      rintro rfl
      cases hn
    obtain ⟨h1, h2, h3, x, h4, h5⟩ := walkF_spec L l 1 hne (by decide) hr he
    refine ⟨h1, h2, by rw [← h3]; exact hn, ?_⟩
    rw [h5]
    simp only [List.toList_toArray]
    cases s with
    | nil => cases hp
    | cons b r =>
      rw [pathOf_cons] at hp
      split at hp
      · split at hp
        · cases hp; cases h4
        · split at hp
          · cases hp
            rename_i ha
            exact ⟨List.all_eq_true.1 ha x h4, splitOn_no 47 r x h4⟩
          · cases hp
      · cases hp
theorem docWalk_old {L : List Nd} {s : List UInt8} (hr : isDir L 1 = true) (he : (docWalk L s).2.2.2 = 0) : (docWalk L s).2.2.1 ≤ L.length := by
  have h1 : 1 ≤ L.length := by
    obtain ⟨x, hx, _⟩ := isDir_lt hr
    have := (List.getElem?_eq_some_iff.1 hx).1
    omega
  unfold docWalk at *
  cases hp : pathOf s with
  | none => simp
  | some l =>
    rw [hp] at he
    simp only at he ⊢
    by_cases hne : l = []
    · subst hne; exact h1
    · obtain ⟨_, _, h3, _⟩ := walkF_spec L l 1 hne (by decide) hr he
      rw [h3]; exact child_le _ _ _

/-- A file's bytes are laid over what is there. -/
def putB (mb : Nat) (N : List Nd) (n : Nat) (b : List Int) : Nat × List Nd :=
  match N[n - 1]? with
  | none => (11, N)
  | some x => if x.dir then (11, N) else if 0 < b.length ∧ mb < sumB N + (b.length - x.byt.length) then (12, N) else (0, N.set (n - 1) { x with byt := b ++ x.byt.drop b.length })
def mkF (mi : Nat) (N : List Nd) (path : List UInt8) : Nat × List Nd :=
  if (docWalk N path).2.2.2 ≠ 0 then ((docWalk N path).2.2.2, N) else if (docWalk N path).2.2.1 ≠ 0 then (10, N) else if mi ≤ N.length then (12, N)
  else (0, N ++ [⟨(docWalk N path).1, (docWalk N path).2.1, true, [], emptyB⟩])
/-- What one of Boot's files does: the error (0: none), the tree behind it. -/
def fileF (mi mb : Nat) (N : List Nd) (path : List UInt8) (is : Bool) (b : List Int) : Nat × List Nd :=
  if is then mkF mi N path
  else if (docWalk N path).2.2.2 ≠ 0 then ((docWalk N path).2.2.2, N)
  else if (docWalk N path).2.2.1 = 0 then
    if mi ≤ N.length then (12, N) else putB mb (N ++ [⟨(docWalk N path).1, (docWalk N path).2.1, false, [], emptyB⟩]) (N.length + 1) b
  else putB mb N (docWalk N path).2.2.1 b

/-- The program's tree with its numbers. -/
structure PT (w : World) (tb : Nat) (A : Adr) (T : List Pn) (mi mb : Nat) : Prop where
  tree : PTree w A T
  block : Blk w tb ((⟨T.length, sumB (nds T), mi, mb⟩ : TN).cells A) 175
  few : T.length ≤ mi
  small : sumB (nds T) ≤ mb
  mi : mi ≤ 100000
  mb : mb ≤ 100000
def Foot (tb : Nat) (A : Adr) (T : List Pn) (q : Nat) : Prop := q = tb ∨ TFoot A T q
theorem PT.ok {w : World} {tb : Nat} {A : Adr} {T : List Pn} {mi mb : Nat} (h : PT w tb A T mi mb) : (⟨T.length, sumB (nds T), mi, mb⟩ : TN).ok :=
  ⟨by have := h.few; have := h.mi; show T.length ≤ _; omega, by have := h.small; have := h.mb; show sumB (nds T) ≤ _; omega, by have := h.mi; show -10000000 ≤ ((mi : Nat) : Int) ∧ ((mi : Nat) : Int) ≤ 10000000; omega, by have := h.mb; show -10000000 ≤ ((mb : Nat) : Int) ∧ ((mb : Nat) : Int) ≤ 10000000; omega⟩
theorem PT.foot_lt {w : World} {tb : Nat} {A : Adr} {T : List Pn} {mi mb : Nat} (h : PT w tb A T mi mb) {q : Nat} (hq : Foot tb A T q) : q < w.heap.size := by
  rcases hq with rfl | hq
  · exact h.block.lt
  · exact h.tree.foot_lt hq
theorem PT.keep {S : Nat → Prop} {w w' : World} {tb : Nat} {A : Adr} {T : List Pn} {mi mb : Nat} (h : PT w tb A T mi mb) (k : Keep S w w') (hs : ∀ q, Foot tb A T q → ¬ S q) : PT w' tb A T mi mb :=
  ⟨h.tree.keep k fun q hq => hs q (.inr hq), h.block.keep k (hs _ (.inl rfl)), h.few, h.small, h.mi, h.mb⟩
theorem PT.bel {w w' : World} {tb : Nat} {A : Adr} {T : List Pn} {mi mb : Nat} (h : PT w tb A T mi mb) (k : Bel w w') : PT w' tb A T mi mb := h.keep (Keep.of_bel (fun _ => False) k) (fun _ _ h => h)
theorem PTree.isRoot {w : World} {A : Adr} {T : List Pn} (h : PTree w A T) : isDir (nds T) 1 = true := by
  obtain ⟨r, h0, _, h1, _⟩ := h.root
  rw [nd_dir T 0 r h0]; exact h1
theorem nds_app (T U : List Pn) : nds (T ++ U) = nds T ++ nds U := by simp [nds]
theorem sumB_app (N M : List Nd) : sumB (N ++ M) = sumB N + sumB M := by simp [sumB]
/-- Behind a step: the tree is N', in blocks that were its own or are new. -/
structure PStep (w : World) (tb : Nat) (A : Adr) (T : List Pn) (mi mb : Nat) (N' : List Nd) (A' : Adr) (T' : List Pn) (w' : World) : Prop where
  pt : PT w' tb A' T' mi mb
  nds : nds T' = N'
  keep : Keep (Foot tb A T) w w'
  foot : ∀ q, Foot tb A' T' q → Foot tb A T q ∨ w.heap.size ≤ q
theorem PStep.refl {w w' : World} {tb : Nat} {A : Adr} {T : List Pn} {mi mb : Nat} (h : PT w tb A T mi mb) (k : Bel w w') : PStep w tb A T mi mb (Go.Proofs.YtkcjafnaephjiaaGreatDoor.nds T) A T w' := ⟨h.bel k, rfl, Keep.of_bel _ k, fun _ h => .inl h⟩
theorem PStep.tr {w w1 w2 : World} {tb : Nat} {A A1 A2 : Adr} {T T1 T2 : List Pn} {mi mb : Nat} {N1 N2 : List Nd} (h : PStep w tb A T mi mb N1 A1 T1 w1) (k : PStep w1 tb A1 T1 mi mb N2 A2 T2 w2) : PStep w tb A T mi mb N2 A2 T2 w2 :=
  ⟨k.pt, k.nds, h.keep.tr_new k.keep h.foot, fun q hq => by
    rcases k.foot q hq with h1 | h1
    · exact h.foot q h1
    · exact .inr (Nat.le_trans h.keep.size h1)⟩
theorem Made.step {w w' : World} {A : Adr} {T : List Pn} {tb d nb mb mi mx : Nat} {nm : ByteArray} {is : Bool} (h : PT w tb A T mi mx) (D : Pn) (hD : T[d]? = some D) (hDd : D.dir = true) (hroom : T.length < mi)
    (k : Made A T ⟨T.length, sumB (nds T), mi, mx⟩ tb (d + 1) nm is w nb mb w') : PStep w tb A T mi mx (nds T ++ [⟨d + 1, nm, is, [], emptyB⟩]) (A.add (T.length + 1) nb mb) (T ++ [newPn (d + 1) nm is]) w' := by
  have hn : nds (T ++ [newPn (d + 1) nm is]) = nds T ++ [⟨d + 1, nm, is, [], emptyB⟩] := by rw [nds_app]; rfl
  have hs : sumB (nds (T ++ [newPn (d + 1) nm is])) = sumB (nds T) := by rw [hn, sumB_app]; rfl
  refine ⟨⟨k.tree, ?_, by simp; omega, by rw [hs]; exact h.small, h.mi, h.mb⟩, hn, ?_, ?_⟩
  · rw [hs]
    have := k.block
    simpa using this
  · exact k.keep.mono fun q hq => by
      rcases hq with rfl | rfl
      · exact .inl rfl
      · exact .inr ⟨d, D, hD, .inr (.inl ⟨hDd, rfl⟩)⟩
  · rintro q (rfl | ⟨i, m, hi, hq⟩)
    · exact .inl (.inl rfl)
    · by_cases h1 : i < T.length
      · rw [List.getElem?_append_left h1] at hi
        rw [Adr.add_nb _ _ _ _ _ (by omega), Adr.add_mb _ _ _ _ _ (by omega)] at hq
        exact .inl (.inr ⟨i, m, hi, hq⟩)
      · rw [List.getElem?_append_right (by omega)] at hi
        have h2 := (List.getElem?_eq_some_iff.1 hi).1
        simp at h2
        have e : i = T.length := by omega
        subst e
        simp at hi
        subst hi
        right
        rcases hq with rfl | ⟨_, rfl⟩ | hq
        · simp [Adr.add]; exact k.nbge
        · simp [Adr.add]; exact k.mbge
        · cases hq
end Go.Proofs.YtkcjafnaephjiaaGreatDoor

/- The document's Used. -/
namespace Go.Proofs.YtkcjafnaephjiaaGreatDoor
open Go.RowKit
set_option maxRecDepth 100000

def usedC (a b c d e : Nat) : List Value := [.int .i64 a, .int .i64 b, .int .i64 c, .int .i64 d, .int .i64 e]
def byts (L : List Nd) : List Nat := L.map fun n => n.byt.length
theorem take_sum : ∀ (l : List Nat) (k : Nat) (h : k < l.length), (l.take (k + 1)).sum = (l.take k).sum + l[k]
  | x :: l, 0, _ => by simp
  | x :: l, k + 1, h => by
    have := take_sum l k (by simpa using h)
    simp only [List.take_succ_cons, List.sum_cons, List.getElem_cons_succ] at this ⊢
    omega
theorem take_sum_le : ∀ (l : List Nat) (k : Nat), (l.take k).sum ≤ l.sum
  | [], k => by simp
  | x :: l, 0 => by simp
  | x :: l, k + 1 => by have := take_sum_le l k; simp; omega

set_option maxHeartbeats 8000000 in
theorem used_any (kb g cap : Nat) (L : List Nd) (w : World) (ht : TreeAt w kb g cap L) (PL : List Nat) (pp po : Option Addr) (pc no oc : Nat)
    (hp : w.cell? ⟨kb, 5, none⟩ = some (.slice pp PL.length pc)) (hpc : PL.length ≤ pc) (hP : ∀ i n, PL[i]? = some n → ∃ gp q c, pp = some ⟨gp, 0, none⟩ ∧ w.cell? ⟨gp, i * 31 + 22, none⟩ = some (.slice q n c))
    (ho : w.cell? ⟨kb, 6, none⟩ = some (.slice po no oc)) (hby : ∀ n ∈ L, ∃ q c, n.bv = .slice q n.byt.length c) (h1 : PL.sum ≤ 1000000) (h2 : (byts L).sum ≤ 1000000) (h3 : PL.length ≤ 1000000) (h4 : L.length ≤ 1000000) (h5 : no ≤ 1000000) :
    Calls Tryz.prog 24 #[.pointer (some ⟨kb, 0, none⟩)] w fun e w' => e = .returned (.agg (usedC PL.length PL.sum no L.length (byts L).sum).toArray) ∧ Bel w w' := by
  have HT := Lib.hid ht
  have HP := Lib.hid hP
  have HBY := Lib.hid hby
  have ht7 := ht.1
  clear ht hP hby
  go_enter Tryz.func24, Tryz.ntmps24
  go_upto_region 1 with fail
  have k1 : Bel w (w.alloc (.cells (usedC 0 0 0 0 0).toArray 59)) := Bel.start w _
  have B1 := Blk.new w (usedC 0 0 0 0 0) 59
  change Code.wp _ _ _ _ (w.alloc (.cells (usedC 0 0 0 0 0).toArray 59))
  generalize w.alloc (.cells (usedC 0 0 0 0 0).toArray 59) = w1 at *
  have c5 := cell_bel k1 hp
  have c6 := cell_bel k1 ho
  have c7 := cell_bel k1 ht7
  have HB1 := Lib.hid B1
  have HK1 := Lib.hid k1
  have hz1 := k1.size
  have hr1 := B1.lt
  clear k1 B1
  generalize hre : w.heap.size = r at *
  have HRE := Lib.hid hre
  clear hre
  go_cut [3] (fun s3 wx => ∃ g3 : Nat, s3 = .pointer (some ⟨g3, 0, none⟩) ∧ Hid (Blk wx g3 (usedC PL.length 0 no L.length 0) 59) ∧ Hid (Bel w1 wx) ∧ Hid (r < g3))
  case first =>
    have l5 := World.block_lt_of_cell? _ _ c5
    go_region_held3 (fun w' => w'.cell? ⟨kb, 5, none⟩ = some (.slice pp PL.length pc) ∧ w'.cell? ⟨kb, 6, none⟩ = some (.slice po no oc) ∧ w'.cell? ⟨kb, 7, none⟩ = some (.slice (some ⟨g, 0, none⟩) L.length cap)) (first | (go_keep; done)) (fail)
    go_wp2_with fail
    go_meet
    exact ⟨w1.heap.size, rfl, Lib.hid (Blk.new w1 _ _), Lib.hid ((Bel.start w1 _).drew), Lib.hid hr1⟩
  case rest =>
    obtain ⟨g3, rfl, B3, k3, hrg⟩ := hcut
    have HK3 := Lib.hid (HK1.out.tr k3.out)
    have HB3 := Lib.hid B3.out
    have HBR := Lib.hid (HB1.out.bel k3.out)
    have hl3 := B3.out.lt
    have c5c := cell_bel k3.out c5
    have c7c := cell_bel k3.out c7
    clear c5 c6 c7 B3 k3 hr1
    have hk5 : kb < w.heap.size := World.block_lt_of_cell? _ _ hp
    have hne : ∀ W, Keep (fun q => q = g3) wc W → W.cell? ⟨kb, 5, none⟩ = some (.slice pp PL.length pc) ∧ W.cell? ⟨kb, 7, none⟩ = some (.slice (some ⟨g, 0, none⟩) L.length cap) := fun W hW => by
      have hz := HRE.out
      have hgg := hrg.out
      have hz2 := HK3.out.size
      constructor
      · rw [hW.cell ⟨kb, 5, none⟩ (by show kb < _; omega) (by show kb ≠ g3; omega)]; exact c5c
      · rw [hW.cell ⟨kb, 7, none⟩ (by show kb < _; omega) (by show kb ≠ g3; omega)]; exact c7c
    have HNE := Lib.hid hne
    clear hne c5c c7c
    go_wp2_with fail
    go_loopw [4] (fun i wr => ∃ k : Nat, k ≤ PL.length ∧ i = .int .i64 k ∧ Blk wr g3 (usedC PL.length (PL.take k).sum no L.length 0) 59 ∧ Keep (fun q => q = g3) wc wr) (fun i _ => PL.length - (intOf i).toNat)
    case atStart => exact ⟨0, Nat.zero_le _, rfl, HB3.out, Keep.refl _ _⟩
    case round =>
      obtain ⟨k, hk, rfl, hB, hkr⟩ := hrel
      obtain ⟨c5, c7⟩ := HNE.out wr hkr
      have HBK := Lib.hid hB
      have HKR := Lib.hid hkr
      have hlr := hB.lt
      clear hB hkr
      by_cases hlt : k < PL.length
      · obtain ⟨gp, q, c, rfl, hcp⟩ := HP.out k PL[k] (List.getElem?_eq_getElem hlt)
        have hts := take_sum PL k hlt
        have hle := take_sum_le PL (k + 1)
        have hgpl := World.block_lt_of_cell? _ _ hcp
        have c22 : wr.cell? ⟨gp, k * 31 + 22, none⟩ = some (.slice q PL[k] c) := by
          have hz := HRE.out
          have hgg := hrg.out
          have hz2 := HK3.out.size
          simp at hgpl
          rw [HKR.out.cell ⟨gp, k * 31 + 22, none⟩ (by show gp < _; omega) (by show gp ≠ g3; omega)]
          exact cell_bel HK3.out hcp
        have HTS : Hid ((PL.take (k + 1)).sum = (PL.take k).sum + PL[k]) := Lib.hid hts
        have hbn : (PL.take k).sum + PL[k] ≤ 1000000 := by omega
        generalize PL[k] = n at *
        have c31 : wr.cell? ⟨g3, 1, none⟩ = some (.int .i64 (((PL.take k).sum : Nat) : Int)) := HBK.out.cell 1
        have f3 := HBK.out.frozen
        generalize (PL.take k).sum = sm at *
        have hwr : IntKind.i64.wrap ((sm : Int) + (n : Int)) = (sm : Int) + (n : Int) := by rw [IntKind.wrap_i64]; omega
        clear hts hle hcp hgpl hbn
        go_upto_region 5 with fail
        go_still_tail 13, (by kernel_rfl)
        change wpList _ _ _ _ _ wr.drew
        have BD := HBK.out.bel (Bel.drew (Bel.refl wr))
        have kd : Bel wr wr.drew := Bel.drew (Bel.refl _)
        generalize wr.drew = wd at *
        have HKD := Lib.hid (HKR.out.tr (Keep.of_bel _ kd))
        have HBD := Lib.hid BD
        have c31 : wd.cell? ⟨g3, 1, none⟩ = some (.int .i64 (sm : Int)) := BD.cell 1
        have f3 := BD.frozen
        have hld := BD.lt
        clear kd BD c22 c5 c7 hwr
        go_wp2
        go_roundw
        case rel => exact ⟨k + 1, by omega, by go_num, by
          have := HBD.out.setCell (o := 1) (.int .i64 ((sm : Int) + (n : Int)))
          rw [HTS.out]
          simpa [usedC] using this, HKD.out.tr (Keep.setCell _ _ _ _)⟩
        case measure => simp [intOf] <;> omega
      · obtain rfl : k = PL.length := by omega
        rw [List.take_length] at HBK
        go_wp2_with fail
        clear c5 c7 hlr
        go_loopw [5] (fun i wr => ∃ k : Nat, k ≤ L.length ∧ i = .int .i64 k ∧ Blk wr g3 (usedC PL.length PL.sum no L.length ((byts L).take k).sum) 59 ∧ Keep (fun q => q = g3) wc wr) (fun i _ => L.length - (intOf i).toNat)
        case atStart => exact ⟨0, Nat.zero_le _, rfl, HBK.out, HKR.out⟩
        case round =>
          obtain ⟨k, hk, rfl, hB, hkr⟩ := hrel
          obtain ⟨c5, c7⟩ := HNE.out wr hkr
          have HBQ := Lib.hid hB
          have HKQ := Lib.hid hkr
          have hlq := hB.lt
          clear hB hkr c5
          by_cases hlt : k < L.length
          · obtain ⟨q, c, hbv⟩ := HBY.out L[k] (List.getElem_mem hlt)
            have hcp : w.cell? ⟨g, k * 5 + 4, none⟩ = some (.slice q L[k].byt.length c) := by
              rw [← hbv]
              exact HT.out.2.2 k L[k] (List.getElem?_eq_getElem hlt) 4 _ rfl
            have hkb : k < (byts L).length := by simpa [byts] using hlt
            have hts := take_sum (byts L) k hkb
            have hle := take_sum_le (byts L) (k + 1)
            have hbe : (byts L)[k] = L[k].byt.length := by simp [byts]
            have hgpl := World.block_lt_of_cell? _ _ hcp
            have hcapl := HT.out.2.1
            have c4 : wr.cell? ⟨g, k * 5 + 4, none⟩ = some (.slice q L[k].byt.length c) := by
              have hz := HRE.out
              have hgg := hrg.out
              have hz2 := HK3.out.size
              simp at hgpl
              rw [HKQ.out.cell ⟨g, k * 5 + 4, none⟩ (by show g < _; omega) (by show g ≠ g3; omega)]
              exact cell_bel HK3.out hcp
            rw [hbe] at hts
            have HTS : Hid (((byts L).take (k + 1)).sum = ((byts L).take k).sum + L[k].byt.length) := Lib.hid hts
            have hbn : ((byts L).take k).sum + L[k].byt.length ≤ 1000000 := by omega
            generalize L[k].byt.length = n at *
            have c34 : wr.cell? ⟨g3, 4, none⟩ = some (.int .i64 ((((byts L).take k).sum : Nat) : Int)) := HBQ.out.cell 4
            have f3 := HBQ.out.frozen
            generalize ((byts L).take k).sum = sm at *
            have hwr : IntKind.i64.wrap ((sm : Int) + (n : Int)) = (sm : Int) + (n : Int) := by rw [IntKind.wrap_i64]; omega
            clear hts hle hcp hgpl hbn hbe hkb hbv
            go_upto_region 9 with fail
            go_still_tail 13, (by kernel_rfl)
            change wpList _ _ _ _ _ wr.drew
            have BD := HBQ.out.bel (Bel.drew (Bel.refl wr))
            have kd : Bel wr wr.drew := Bel.drew (Bel.refl _)
            generalize wr.drew = wd at *
            have HKD := Lib.hid (HKQ.out.tr (Keep.of_bel _ kd))
            have HBD := Lib.hid BD
            have c34 : wd.cell? ⟨g3, 4, none⟩ = some (.int .i64 (sm : Int)) := BD.cell 4
            have f3 := BD.frozen
            have hld := BD.lt
            clear kd BD c4 c7 hwr hcapl
            go_wp2
            go_roundw
            case rel => exact ⟨k + 1, by omega, by go_num, by
              have := HBD.out.setCell (o := 4) (.int .i64 ((sm : Int) + (n : Int)))
              rw [HTS.out]
              simpa [usedC] using this, HKD.out.tr (Keep.setCell _ _ _ _)⟩
            case measure => simp [intOf] <;> omega
          · obtain rfl : k = L.length := by omega
            have hbl : (byts L).length = L.length := by simp [byts]
            have hbt : (byts L).take L.length = byts L := by rw [← hbl, List.take_length]
            rw [hbt] at HBQ
            have hne2 : r ≠ g3 := by have := hrg.out; omega
            have HB2 : Hid (Blk wr r (usedC 0 0 0 0 0) 59) := Lib.hid (HBR.out.keep HKQ.out hne2)
            clear hbt hbl hlq
            go_wp2_with (first
              | (refine wpList_load_mid rfl 59 (.tmp 3) rfl g3 0 rfl (usedC PL.length PL.sum no L.length (byts L).sum) _ (by have := HBQ.out.range 0; simpa using this) Tryz.underlying59 rfl (by kernel_rfl) ?_)
              | (refine wpList_store_blk rfl 59 (.tmp 2) (.tmp 66) rfl rfl r (usedC PL.length PL.sum no L.length (byts L).sum) _ 59 HB2.out rfl rfl (by kernel_rfl) rfl (by intro v hv; simp [usedC] at hv; rcases hv with rfl | rfl | rfl | rfl | rfl <;> rfl) ?_; intro w5 B5 K5))
            have e0 : w5.cell? ⟨r, 0, none⟩ = some (.int .i64 ((PL.length : Nat) : Int)) := B5.out.cell 0
            have e1 : w5.cell? ⟨r, 1, none⟩ = some (.int .i64 ((PL.sum : Nat) : Int)) := B5.out.cell 1
            have e2 : w5.cell? ⟨r, 2, none⟩ = some (.int .i64 ((no : Nat) : Int)) := B5.out.cell 2
            have e3 : w5.cell? ⟨r, 3, none⟩ = some (.int .i64 ((L.length : Nat) : Int)) := B5.out.cell 3
            have e4 : w5.cell? ⟨r, 4, none⟩ = some (.int .i64 (((byts L).sum : Nat) : Int)) := B5.out.cell 4
            refine bodyPost_ret (v := .agg (usedC PL.length PL.sum no L.length (byts L).sum).toArray) (by simp [results, Tryz.results24, go_sem, e0, e1, e2, e3, e4, usedC]) rfl ⟨rfl, ?_⟩
            exact Below.trans HK3.out ((HKQ.out.below _ HK3.out.size (fun q hq => by have := HRE.out; have := hrg.out; omega)).trans (K5.below _ (Nat.le_trans HK3.out.size HKQ.out.size) (fun q hq => by have := HRE.out; omega)))
end Go.Proofs.YtkcjafnaephjiaaGreatDoor
