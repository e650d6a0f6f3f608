/- Boot's trees: what the law's files need of them. Plain. -/
import Derived.Test.YtkcjafnaephjiaaGreatDoorPart35
import Derived.Test.YtkcjafnaephjiaaGreatDoorPart37
set_option linter.unusedVariables false
set_option linter.unusedSimpArgs false
namespace Go.Proofs.YtkcjafnaephjiaaGreatDoor
open Go.RowKit Go.Maps
set_option maxRecDepth 100000

structure FInv (N : List Nd) : Prop where
  root : isDir N 1 = true
  conn : Conn N
  size : ∀ n ∈ N, n.name.size ≤ 1000
theorem FInv.new {N : List Nd} (h : FInv N) (d : Nat) (nm : ByteArray) (b : Bool) (hd : d ≠ 0) (hn : nameOk nm.data.toList = true) : FInv (N ++ [⟨d, nm, b, [], emptyB⟩]) := by
  refine ⟨isDir_app h.root, fun i n hi h0 => ?_, fun n hn2 => ?_⟩
  · rcases Nat.lt_or_ge i N.length with hl | hl
    · rw [List.getElem?_append_left hl] at hi
      exact h.conn i n hi h0
    · rw [List.getElem?_append_right hl] at hi
      have : i - N.length = 0 := by have := (List.getElem?_eq_some_iff.1 hi).1; simp at this; omega
      rw [this] at hi
      cases hi
      exact hd
  · rcases List.mem_append.1 hn2 with h1 | h1
    · exact h.size n h1
    · rw [List.mem_singleton.1 h1]
      show nm.size ≤ 1000
      unfold nameOk at hn
      simp only [Bool.and_eq_true, decide_eq_true_eq] at hn
      have h2 : nm.data.toList.length = nm.size := by simp
      omega
theorem FInv.put {mb : Nat} {N : List Nd} (h : FInv N) (n : Nat) (b : List Int) : FInv (putB mb N n b).2 ∧ (putB mb N n b).2.length = N.length := by
  unfold putB
  cases hx : N[n - 1]? with
  | none => exact ⟨h, rfl⟩
  | some x =>
    simp only
    by_cases hd : x.dir = true
    · rw [if_pos hd]; exact ⟨h, rfl⟩
    · rw [if_neg hd]
      by_cases hc : 0 < b.length ∧ mb < sumB N + (b.length - x.byt.length)
      · rw [if_pos hc]; exact ⟨h, rfl⟩
      · rw [if_neg hc]
        have hat : ∀ (j : Nat) (m : Nd), (N.set (n - 1) { x with byt := b ++ x.byt.drop b.length })[j]? = some m → ∃ m0 : Nd, N[j]? = some m0 ∧ m.par = m0.par ∧ m.name = m0.name ∧ m.dir = m0.dir := fun j m hj => by
          by_cases e : n - 1 = j
          · subst e
            rw [List.getElem?_set_self (List.getElem?_eq_some_iff.1 hx).1] at hj
            cases hj
            exact ⟨x, hx, rfl, rfl, rfl⟩
          · rw [List.getElem?_set_ne e] at hj
            exact ⟨m, hj, rfl, rfl, rfl⟩
        refine ⟨⟨?_, fun j m hj h0 => ?_, fun m hm => ?_⟩, by simp⟩
        · have h1 := h.root
          unfold isDir at h1 ⊢
          cases hy : (N.set (n - 1) { x with byt := b ++ x.byt.drop b.length })[1 - 1]? with
          | none =>
            have h3 := List.getElem?_eq_none_iff.1 hy
            rw [List.length_set] at h3
            rw [List.getElem?_eq_none_iff.2 h3] at h1
            cases h1
          | some m =>
            obtain ⟨m0, h2, _, _, h3⟩ := hat _ m hy
            rw [h2] at h1
            show m.dir = true
            rw [h3]; exact h1
        · obtain ⟨m0, h2, h3, _⟩ := hat j m hj
          rw [h3]; exact h.conn j m0 h2 h0
        · obtain ⟨j, hj⟩ := List.mem_iff_getElem?.1 hm
          obtain ⟨m0, h2, _, h3, _⟩ := hat j m hj
          rw [h3]; exact h.size m0 (List.mem_iff_getElem?.2 ⟨j, h2⟩)
theorem FInv.file {mi mb : Nat} {N : List Nd} (h : FInv N) (path : List UInt8) (is : Bool) (b : List Int) : FInv (fileF mi mb N path is b).2 ∧ (fileF mi mb N path is b).2.length ≤ N.length + 1 := by
  unfold fileF
  by_cases hi : is = true
  · rw [if_pos hi]
    unfold mkF
    by_cases h1 : (docWalk N path).2.2.2 ≠ 0
    · rw [if_pos h1]; exact ⟨h, Nat.le_succ _⟩
    · rw [if_neg h1]
      by_cases h2 : (docWalk N path).2.2.1 ≠ 0
      · rw [if_pos h2]; exact ⟨h, Nat.le_succ _⟩
      · rw [if_neg h2]
        by_cases h3 : mi ≤ N.length
        · rw [if_pos h3]; exact ⟨h, Nat.le_succ _⟩
        · rw [if_neg h3]
          obtain ⟨n1, _, _, n4, _⟩ := docWalk_new h.root (by omega) (by omega : (docWalk N path).2.2.1 = 0)
          exact ⟨h.new _ _ _ n1 n4, Nat.le_of_eq (by simp)⟩
  · rw [if_neg hi]
    by_cases h1 : (docWalk N path).2.2.2 ≠ 0
    · rw [if_pos h1]; exact ⟨h, Nat.le_succ _⟩
    · rw [if_neg h1]
      by_cases h2 : (docWalk N path).2.2.1 = 0
      · rw [if_pos h2]
        by_cases h3 : mi ≤ N.length
        · rw [if_pos h3]; exact ⟨h, Nat.le_succ _⟩
        · rw [if_neg h3]
          obtain ⟨n1, _, _, n4, _⟩ := docWalk_new h.root (by omega) h2
          obtain ⟨p1, p2⟩ := (h.new _ _ false n1 n4).put (mb := mb) (N.length + 1) b
          exact ⟨p1, by rw [p2]; simp⟩
      · rw [if_neg h2]
        obtain ⟨p1, p2⟩ := h.put (mb := mb) (docWalk N path).2.2.1 b
        exact ⟨p1, by rw [p2]; omega⟩
theorem FInv.files {mi mb : Nat} : ∀ {N : List Nd} (_ : FInv N) (F : List FileA), FInv (filesF mi mb N F).2 ∧ (filesF mi mb N F).2.length ≤ N.length + F.length
  | N, h, [] => ⟨h, Nat.le_refl _⟩
  | N, h, f :: fs => by
    unfold filesF
    by_cases h1 : (fileF mi mb N f.path.data.toList f.dir f.byt).1 ≠ 0
    · rw [if_pos h1]; exact ⟨h, Nat.le_add_right _ _⟩
    · rw [if_neg h1]
      obtain ⟨p1, p2⟩ := h.file (mi := mi) (mb := mb) f.path.data.toList f.dir f.byt
      obtain ⟨q1, q2⟩ := FInv.files p1 fs
      exact ⟨q1, by simp; omega⟩
theorem FInv.first : FInv [rootNd] := ⟨rfl, fun i n hi h0 => by
  have := (List.getElem?_eq_some_iff.1 hi).1
  simp at this; omega, fun n hn => by rw [List.mem_singleton.1 hn]; decide⟩

/-- In a tree all of whose nodes hang together nothing is gone. -/
theorem alive {w : World} {A : Adr} {T : List Pn} (h : PTree w A T) (hc : Conn (nds T)) (i : Nat) (n : Pn) (hi : T[i]? = some n) : n.gone = false := by
  by_cases h0 : i = 0
  · subst h0
    obtain ⟨r, hr, _, _, hg⟩ := h.root
    rw [hr] at hi; cases hi; exact hg
  · have := hc i n.nd (nds_at hi) h0
    cases hg : n.gone with
    | false => rfl
    | true => exact absurd (show n.nd.par = 0 by unfold Pn.nd; rw [hg]; rfl) this
theorem live_of {w : World} {A : Adr} {T : List Pn} (h : PTree w A T) (hc : Conn (nds T)) : Live T := fun i n hi _ hp => by
  obtain ⟨p, hp1, _⟩ := h.pdir i n hi hp
  exact ⟨p, hp1, alive h hc _ p hp1⟩
theorem kidsF_mem (A : Adr) (d : Nat) : ∀ (i : Nat) (T : List Pn) (j : Nat) (n : Pn), T[j]? = some n → n.nd.par = d → ∃ k : Nat, (kidsF A d i T)[k]? = some (n.name, A.ptr (i + j + 1)) := fun i T => by
  induction T generalizing i with
  | nil => intro j n hj; cases hj
  | cons x T ih =>
    intro j n hj hp
    unfold kidsF
    cases j with
    | zero =>
      cases hj
      rw [if_pos hp]
      exact ⟨0, rfl⟩
    | succ j =>
      obtain ⟨k, hk⟩ := ih (i + 1) j n hj hp
      rw [show i + (j + 1) + 1 = i + 1 + j + 1 from by omega]
      split
      · exact ⟨k + 1, hk⟩
      · exact ⟨k, hk⟩
theorem kidsF_two (A : Adr) (d : Nat) : ∀ (i : Nat) (T : List Pn) (j j' : Nat) (n n' : Pn), T[j]? = some n → T[j']? = some n' → n.nd.par = d → n'.nd.par = d → n.name = n'.name → ((kidsF A d i T).map Prod.fst).Nodup → j = j' := fun i T => by
  induction T generalizing i with
  | nil => intro j j' n n' hj; cases hj
  | cons x T ih =>
    intro j j' n n' hj hj' hp hp' hnm hnd
    unfold kidsF at hnd
    cases j with
    | zero =>
      cases j' with
      | zero => rfl
      | succ j' =>
        cases hj
        rw [if_pos hp] at hnd
        obtain ⟨k, hk⟩ := kidsF_mem A d (i + 1) T j' n' hj' hp'
        rw [List.map_cons, List.nodup_cons] at hnd
        exact absurd (List.mem_map.2 ⟨_, List.mem_iff_getElem?.2 ⟨k, hk⟩, hnm.symm⟩) hnd.1
    | succ j =>
      cases j' with
      | zero =>
        cases hj'
        rw [if_pos hp'] at hnd
        obtain ⟨k, hk⟩ := kidsF_mem A d (i + 1) T j n hj hp
        rw [List.map_cons, List.nodup_cons] at hnd
        exact absurd (List.mem_map.2 ⟨_, List.mem_iff_getElem?.2 ⟨k, hk⟩, hnm⟩) hnd.1
      | succ j' =>
        have hnd2 : ((kidsF A d (i + 1) T).map Prod.fst).Nodup := by
          split at hnd
          · rw [List.map_cons, List.nodup_cons] at hnd; exact hnd.2
          · exact hnd
        rw [ih (i + 1) j j' n n' hj hj' hp hp' hnm hnd2]
theorem parted_of {w : World} {A : Adr} {T : List Pn} (h : PTree w A T) (hc : Conn (nds T)) : Parted (nds T) := by
  have at_ : ∀ (i : Nat) (n : Nd), (nds T)[i]? = some n → ∃ p, T[i]? = some p ∧ n = p.nd := fun i n hi => by
    unfold nds at hi
    rw [List.getElem?_map] at hi
    cases ht : T[i]? with
    | none => rw [ht] at hi; cases hi
    | some p => rw [ht] at hi; cases hi; exact ⟨p, rfl, rfl⟩
  refine ⟨fun i j m n hi hj hm he hnm => ?_, fun i n hi hn => ?_⟩
  · obtain ⟨p, hp, rfl⟩ := at_ i m hi
    obtain ⟨q, hq, rfl⟩ := at_ j n hj
    have hpg := alive h hc i p hp
    have hpp : p.nd.par = p.par := by unfold Pn.nd; rw [hpg]; rfl
    obtain ⟨d, hd, hdd⟩ := h.pdir i p hp (hpp ▸ hm)
    have hk := (h.kids _ d hd hdd).nodup
    have h1 : 1 ≤ p.par := Nat.pos_of_ne_zero (hpp ▸ hm)
    rw [show p.par - 1 + 1 = p.par from by omega] at hk
    exact kidsF_two A p.par 0 T i j p q hp hq hpp (he ▸ hpp) hnm hk
  · obtain ⟨p, hp, rfl⟩ := at_ i n hi
    have h0 : i ≠ 0 := fun e => by
      subst e
      obtain ⟨r, hr, hr2, _⟩ := h.root
      rw [hr] at hp; cases hp
      exact hn (by unfold Pn.nd; rw [hr2]; simp)
    exact (h.name i p hp (alive h hc i p hp) h0).2
end Go.Proofs.YtkcjafnaephjiaaGreatDoor

/- The files that are handed out, against the document's tree. Plain. -/
namespace Go.Proofs.YtkcjafnaephjiaaGreatDoor
open Go.RowKit Go.Maps
set_option maxRecDepth 100000

theorem pathF_sk (L : List Nd) : ∀ (f id : Nat), pathF (sks L) f id = pathF L f id
  | 0, _ => rfl
  | f + 1, id => by
    unfold pathF
    by_cases h1 : id ≤ 1
    · rw [if_pos h1, if_pos h1]
    · rw [if_neg h1, if_neg h1]
      unfold sks
      rw [List.getElem?_map]
      cases L[id - 1]? with
      | none => rfl
      | some n =>
        simp only [Option.map_some]
        have := pathF_sk L f n.par
        unfold sks at this
        rw [show n.sk.par = n.par from rfl, this]
        rfl
theorem pathL_sk (L : List Nd) (id : Nat) : pathL (sks L) id = pathL L id := pathF_sk L id id
structure Fit (L : List Nd) (R : List FileR) : Prop where
  len : R.length + 1 = L.length
  has : ∀ (k : Nat) (n : Nd), L[k]? = some n → k ≠ 0 → ∃ (j : Nat) (r : FileR), R[j]? = some r ∧ r.path = pathL L (k + 1)
  fit : ∀ (j : Nat) (r : FileR), R[j]? = some r → ∀ (k : Nat) (n : Nd), L[k]? = some n → k ≠ 0 → r.path = pathL L (k + 1) → r.dir = n.dir ∧ r.byt = n.byt
  strict : R.Pairwise fun x y => x.path < y.path
  pos : ∀ r ∈ R, r.path ≠ []
theorem sk_at {T : List Pn} {L : List Nd} (h : sks L = nds T) {k : Nat} {n : Nd} (hk : L[k]? = some n) : ∃ p, T[k]? = some p ∧ p.nd.dir = n.dir ∧ p.nd.byt = n.byt ∧ p.nd.par = n.par := by
  have h1 : (sks L)[k]? = some n.sk := by unfold sks; rw [List.getElem?_map, hk]; rfl
  rw [h] at h1
  unfold nds at h1
  rw [List.getElem?_map] at h1
  cases ht : T[k]? with
  | none => rw [ht] at h1; cases h1
  | some p =>
    rw [ht] at h1
    have h2 : p.nd = n.sk := by simpa using h1
    exact ⟨p, rfl, by rw [h2]; rfl, by rw [h2]; rfl, by rw [h2]; rfl⟩
theorem fit_of {w : World} {A : Adr} {T : List Pn} {L : List Nd} {R : List FileR} (h : PTree w A T) (hc : Conn (nds T)) (hL : sks L = nds T) (hp : (R.map FileR.key).Perm ((descF (nds T) T.length 1).map (nodeK T))) (hs : ByPath R) : Fit L R := by
  have hd := h.down
  have hpt := parted_of h hc
  have hlen : (nds T).length = T.length := by unfold nds; simp
  have hLl : L.length = T.length := by rw [← hlen, ← hL]; unfold sks; simp
  have hpath : ∀ x, pathL (nds T) x = pathL L x := fun x => by rw [← hL]; exact pathL_sk L x
  have hde : (descF (nds T) T.length 1).Perm (List.range' 2 (T.length - 1)) := by have := desc_perm (nds T) hd hc; rwa [hlen] at this
  have h1 : 1 ≤ T.length := by obtain ⟨r, hr, _⟩ := h.root; exact (List.getElem?_eq_some_iff.1 hr).1
  have hk : (R.map FileR.key).Perm ((List.range' 2 (T.length - 1)).map (nodeK T)) := hp.trans (hde.map _)
  have hmem : ∀ r ∈ R, ∃ x, 2 ≤ x ∧ x ≤ T.length ∧ r.key = nodeK T x := fun r hr => by
    have := hk.mem_iff.1 (List.mem_map.2 ⟨r, hr, rfl⟩)
    obtain ⟨x, hx, he⟩ := List.mem_map.1 this
    rw [List.mem_range'_1] at hx
    exact ⟨x, hx.1, by omega, he.symm⟩
  have hinj : ∀ x y, 1 ≤ x → x ≤ T.length → 1 ≤ y → y ≤ T.length → pathL (nds T) x = pathL (nds T) y → x = y := fun x y a b c d e => path_inj hd hc hpt x x y (Nat.le_refl _) a (by omega) c (by omega) e
  have hnd : (R.map FileR.path).Nodup := by
    have e : (R.map FileR.path).Perm ((List.range' 2 (T.length - 1)).map (pathL (nds T))) := by
      have := hk.map Prod.fst
      rw [List.map_map, List.map_map] at this
      exact this
    rw [e.nodup_iff]
    refine List.pairwise_map.2 (List.Pairwise.imp_of_mem (fun {x y} hx hy hne he => ?_) (List.nodup_range' (s := 2) (n := T.length - 1)))
    rw [List.mem_range'_1] at hx hy
    exact hne (hinj x y (by omega) (by omega) (by omega) (by omega) he)
  refine ⟨?_, fun k n hkn h0 => ?_, fun j r hj k n hkn h0 he => ?_, ?_, fun r hr => ?_⟩
  · have := hk.length_eq
    simp at this
    omega
  · have hlt := (List.getElem?_eq_some_iff.1 hkn).1
    have : nodeK T (k + 1) ∈ R.map FileR.key := hk.mem_iff.2 (List.mem_map.2 ⟨k + 1, List.mem_range'_1.2 ⟨by omega, by omega⟩, rfl⟩)
    obtain ⟨r, hr, he⟩ := List.mem_map.1 this
    obtain ⟨j, hj⟩ := List.mem_iff_getElem?.1 hr
    exact ⟨j, r, hj, by rw [← hpath]; exact congrArg Prod.fst he⟩
  · obtain ⟨x, hx1, hx2, hx⟩ := hmem r (List.mem_iff_getElem?.2 ⟨j, hj⟩)
    have hlt := (List.getElem?_eq_some_iff.1 hkn).1
    have e1 : r.path = pathL (nds T) x := congrArg Prod.fst hx
    have e2 : x = k + 1 := hinj x (k + 1) (by omega) hx2 (by omega) (by omega) (by rw [← e1, he, hpath])
    subst e2
    obtain ⟨p, hp1, hp2, hp3, _⟩ := sk_at hL hkn
    have e3 : r.dir = ((T[k + 1 - 1]?).map Pn.dir).getD false := congrArg (fun q => q.2.1) hx
    have e4 : r.byt = ((T[k + 1 - 1]?).map Pn.byt).getD [] := congrArg (fun q => q.2.2) hx
    rw [Nat.add_sub_cancel, hp1] at e3 e4
    exact ⟨e3.trans hp2, e4.trans hp3⟩
  · have h2 : R.Pairwise fun x y => x.path ≠ y.path := List.pairwise_map.1 hnd
    refine (hs.and h2).imp fun {x y} hxy => ?_
    rcases Std.lt_trichotomy x.path y.path with h3 | h3 | h3
    · exact h3
    · exact absurd h3 hxy.2
    · exact absurd h3 hxy.1
  · obtain ⟨x, hx1, hx2, hx⟩ := hmem r hr
    have e1 : r.path = pathL (nds T) x := congrArg Prod.fst hx
    have hlt : x - 1 < (nds T).length := by omega
    rw [e1, pathL_step hd (by omega) (List.getElem?_eq_getElem hlt)]
    simp
end Go.Proofs.YtkcjafnaephjiaaGreatDoor
