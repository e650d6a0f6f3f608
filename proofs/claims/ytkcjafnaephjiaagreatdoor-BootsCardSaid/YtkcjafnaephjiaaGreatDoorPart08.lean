/- The program's Room. -/
import Derived.IntWalk
import Derived.Test.YtkcjafnaephjiaaGreatDoorPart07
set_option linter.unusedVariables false
set_option linter.unusedSimpArgs false
namespace Go.Proofs.YtkcjafnaephjiaaGreatDoor
open Go.RowKit Go.MapKept Go.Maps
set_option maxRecDepth 100000

def roomB (t : TN) (a b : Int) : Bool := decide (t.inodes + a ≤ t.most) && decide (t.bytes + b ≤ t.mostBytes)
structure TN.ok (t : TN) : Prop where
  inodes : t.inodes ≤ 1000000
  bytes : t.bytes ≤ 10000000
  most : -10000000 ≤ t.most ∧ t.most ≤ 10000000
  mostBytes : -10000000 ≤ t.mostBytes ∧ t.mostBytes ≤ 10000000

set_option maxHeartbeats 4000000 in
theorem room_any (tb : Nat) (A : Adr) (t : TN) (a b : Int) (w : World) (hT : Blk w tb (t.cells A) 175) (ht : t.ok) (ha : 0 ≤ a ∧ a ≤ 10000000) (hb : 0 ≤ b ∧ b ≤ 10000000) :
    Calls Tryz.prog 60 #[.pointer (some ⟨tb, 0, none⟩), .int .i64 a, .int .i64 b] w fun e w' => e = .returned (.bool (roomB t a b)) ∧ ∃ n, w' = w.drewN n := by
  have c1 : w.cell? ⟨tb, 1, none⟩ = some (.int .i64 (t.inodes : Int)) := hT.cell 1
  have c2 : w.cell? ⟨tb, 2, none⟩ = some (.int .i64 (t.bytes : Int)) := hT.cell 2
  have c3 : w.cell? ⟨tb, 3, none⟩ = some (.int .i64 t.most) := hT.cell 3
  have c4 : w.cell? ⟨tb, 4, none⟩ = some (.int .i64 t.mostBytes) := hT.cell 4
  obtain ⟨o1, o2, o3, o4⟩ := ht
  have w1 : IntKind.i64.wrap ((t.inodes : Int) + a) = (t.inodes : Int) + a := by rw [IntKind.wrap_i64]; omega
  have w2 : IntKind.i64.wrap ((t.bytes : Int) + b) = (t.bytes : Int) + b := by rw [IntKind.wrap_i64]; omega
  clear hT
  by_cases h1 : (t.inodes : Int) + a ≤ t.most
  · by_cases h2 : (t.bytes : Int) + b ≤ t.mostBytes
    · have HR : Hid (roomB t a b = true) := Lib.hid (by unfold roomB; simp [h1, h2])
      have d1 : decide ((t.inodes : Int) + a ≤ t.most) = true := by simpa using h1
      have d2 : decide ((t.bytes : Int) + b ≤ t.mostBytes) = true := by simpa using h2
      generalize ((t.inodes : Nat) : Int) = x at *
      generalize ((t.bytes : Nat) : Int) = y at *
      clear h1 h2
      go_enter Tryz.func60, Tryz.ntmps60
      go_upto_region 1 with fail
      go_quiet (fail)
      go_wp2
      go_ret
      exact ⟨by rw [HR.out]; rfl, nq, rfl⟩
    · have HR : Hid (roomB t a b = false) := Lib.hid (by unfold roomB; simp [h2])
      have d1 : decide ((t.inodes : Int) + a ≤ t.most) = true := by simpa using h1
      have d2 : decide ((t.bytes : Int) + b ≤ t.mostBytes) = false := by simpa using h2
      generalize ((t.inodes : Nat) : Int) = x at *
      generalize ((t.bytes : Nat) : Int) = y at *
      clear h1 h2
      go_enter Tryz.func60, Tryz.ntmps60
      go_upto_region 1 with fail
      go_quiet (fail)
      go_wp2
      go_ret
      exact ⟨by rw [HR.out]; rfl, nq, rfl⟩
  · have HR : Hid (roomB t a b = false) := Lib.hid (by unfold roomB; simp [h1])
    have d1 : decide ((t.inodes : Int) + a ≤ t.most) = false := by simpa using h1
    generalize ((t.inodes : Nat) : Int) = x at *
    generalize ((t.bytes : Nat) : Int) = y at *
    clear h1
    go_enter Tryz.func60, Tryz.ntmps60
    go_upto_region 1 with fail
    go_quiet (fail)
    go_wp2
    go_ret
    exact ⟨by rw [HR.out]; rfl, nq, rfl⟩
theorem room_bel (tb : Nat) (A : Adr) (t : TN) (a b : Int) (w : World) (hT : Blk w tb (t.cells A) 175) (ht : t.ok) (ha : 0 ≤ a ∧ a ≤ 10000000) (hb : 0 ≤ b ∧ b ≤ 10000000) :
    Calls Tryz.prog 60 #[.pointer (some ⟨tb, 0, none⟩), .int .i64 a, .int .i64 b] w fun e w' => e = .returned (.bool (roomB t a b)) ∧ Bel w w' := by
  refine (room_any tb A t a b w hT ht ha hb).mono ?_
  rintro e w' ⟨rfl, n, rfl⟩
  exact ⟨rfl, bel_drewN (Bel.refl w) n⟩
end Go.Proofs.YtkcjafnaephjiaaGreatDoor

/- A node more in a tree: the plain law. -/
namespace Go.Proofs.YtkcjafnaephjiaaGreatDoor
open Go.RowKit Go.MapKept Go.Maps
set_option maxRecDepth 100000

theorem kidsF_app (A : Adr) (d : Nat) : ∀ (i : Nat) (T U : List Pn), kidsF A d i (T ++ U) = kidsF A d i T ++ kidsF A d (i + T.length) U
  | i, [], U => by simp [kidsF]
  | i, n :: T, U => by
    have ih := kidsF_app A d (i + 1) T U
    simp only [List.cons_append, kidsF, ih, List.length_cons]
    rw [show i + 1 + T.length = i + (T.length + 1) from by omega]
    split <;> simp
theorem ptr_congr {A B : Adr} {n : Nat} (h : n ≠ 0 → A.nb n = B.nb n) : A.ptr n = B.ptr n := by
  unfold Adr.ptr Adr.at_
  by_cases h0 : n = 0
  · simp [h0]
  · simp [h0, h h0]
theorem kidsF_congr {A B : Adr} (d : Nat) : ∀ (i : Nat) (T : List Pn), (∀ j, i < j → j ≤ i + T.length → A.nb j = B.nb j) → kidsF A d i T = kidsF B d i T
  | i, [], _ => rfl
  | i, n :: T, h => by
    have ih := kidsF_congr (A := A) (B := B) d (i + 1) T (fun j h1 h2 => h j (by omega) (by simp; omega))
    simp only [kidsF, ih]
    rw [ptr_congr (A := A) (B := B) fun _ => h (i + 1) (by omega) (by simp)]
/-- The addresses with those of one node more. -/
def Adr.add (A : Adr) (n nb mb : Nat) : Adr := ⟨fun i => if i = n then nb else A.nb i, fun i => if i = n then mb else A.mb i⟩
theorem Adr.add_nb (A : Adr) (n nb mb i : Nat) (h : i ≠ n) : (A.add n nb mb).nb i = A.nb i := by simp [Adr.add, h]
theorem Adr.add_mb (A : Adr) (n nb mb i : Nat) (h : i ≠ n) : (A.add n nb mb).mb i = A.mb i := by simp [Adr.add, h]
theorem cells_congr {A B : Adr} (n : Pn) (i : Nat) (h1 : n.par ≠ 0 → A.nb n.par = B.nb n.par) (h2 : A.mb i = B.mb i) : n.cells A i = n.cells B i := by
  unfold Pn.cells Pn.map
  rw [ptr_congr h1, h2]
theorem notKey_of {α : Type} [DecidableEq α] {kv : List (α × Value)} {a : α} (h : getKv kv a = none) : a ∉ kv.map Prod.fst := by
  intro hm
  obtain ⟨p, hp, rfl⟩ := List.mem_map.1 hm
  unfold getKv at h
  rw [Option.map_eq_none_iff, List.find?_eq_none] at h
  have := h p hp
  simp at this

theorem PTree.add {w w' : World} {A : Adr} {T : List Pn} {S : Nat → Prop} (h : PTree w A T) (d : Nat) (D : Pn) (hD : T[d]? = some D) (hDd : D.dir = true) (n : Pn) (nb mb : Nat)
    (hp : n.par = d + 1) (hbv : n.bv = .slice none 0 0 ∧ n.byt = []) (hg : n.gone = false) (hnew : child (nds T) (d + 1) n.name = 0) (hnm : nameOk n.name.data.toList = true ∧ (47 : UInt8) ∉ n.name.data.toList) (hfew : T.length + 1 ≤ 100000)
    (hnode : Blk w' nb (n.cells (A.add (T.length + 1) nb mb) (T.length + 1)) 173) (hnb : w.heap.size ≤ nb)
    (hmap : n.dir = true → Mp keyS w' mb []) (hmb : n.dir = true → w.heap.size ≤ mb)
    (hupd : Mp keyS w' (A.mb (d + 1)) (putKv (Go.Proofs.YtkcjafnaephjiaaGreatDoor.kids A (d + 1) T) n.name (.pointer (some ⟨nb, 0, none⟩))))
    (hk : Keep S w w') (hS : ∀ q, TFoot A T q → S q → q = A.mb (d + 1)) : PTree w' (A.add (T.length + 1) nb mb) (T ++ [n]) := by
  have hdl : d < T.length := (List.getElem?_eq_some_iff.1 hD).1
  have hlt : ∀ (i : Nat) (m : Pn), (T ++ [n])[i]? = some m → i < T.length ∧ T[i]? = some m ∨ i = T.length ∧ m = n := by
    intro i m hi
    by_cases h1 : i < T.length
    · rw [List.getElem?_append_left h1] at hi; exact .inl ⟨h1, hi⟩
    · rw [List.getElem?_append_right (by omega)] at hi
      have := (List.getElem?_eq_some_iff.1 hi).1
      simp at this
      have e : i - T.length = 0 := by omega
      rw [e] at hi
      simp at hi
      exact .inr ⟨by omega, hi.symm⟩
  have hkids : ∀ i, i ≠ d + 1 → Go.Proofs.YtkcjafnaephjiaaGreatDoor.kids (A.add (T.length + 1) nb mb) i (T ++ [n]) = Go.Proofs.YtkcjafnaephjiaaGreatDoor.kids A i T := by
    intro i hi
    unfold Go.Proofs.YtkcjafnaephjiaaGreatDoor.kids
    rw [kidsF_app, kidsF_congr (A := A.add (T.length + 1) nb mb) (B := A) i 0 T (fun j h1 h2 => Adr.add_nb _ _ _ _ _ (by omega))]
    have : n.nd.par ≠ i := by simp [Pn.nd, hg, hp]; omega
    simp [kidsF, this]
  have hnone : getKv (Go.Proofs.YtkcjafnaephjiaaGreatDoor.kids A (d + 1) T) n.name = none := by
    unfold Go.Proofs.YtkcjafnaephjiaaGreatDoor.kids
    rw [kidsF_get, if_pos]
    exact hnew
  have hkd : Go.Proofs.YtkcjafnaephjiaaGreatDoor.kids (A.add (T.length + 1) nb mb) (d + 1) (T ++ [n]) = putKv (Go.Proofs.YtkcjafnaephjiaaGreatDoor.kids A (d + 1) T) n.name (.pointer (some ⟨nb, 0, none⟩)) := by
    unfold putKv
    rw [if_neg (notKey_of hnone)]
    unfold Go.Proofs.YtkcjafnaephjiaaGreatDoor.kids
    rw [kidsF_app, kidsF_congr (A := A.add (T.length + 1) nb mb) (B := A) (d + 1) 0 T (fun j h1 h2 => Adr.add_nb _ _ _ _ _ (by omega))]
    have : n.nd.par = d + 1 := by simp [Pn.nd, hg, hp]
    simp [kidsF, this, Adr.ptr, Adr.at_, Adr.add]
  have hold : ∀ q, TFoot A T q → q ≠ A.mb (d + 1) → ¬ S q := fun q hq hne hs => hne (hS q hq hs)
  have hmd : ∀ (i : Nat) (m : Pn), T[i]? = some m → A.nb (i + 1) ≠ A.mb (d + 1) := fun i m hi => (h.node i m hi).ne_map (h.kids d D hD hDd)
  have hbd : ∀ (i : Nat) (m : Pn), T[i]? = some m → ∀ g, m.bv.ownBlock = some g → g ≠ A.mb (d + 1) := fun i m hi g hgg => by
    obtain ⟨_, cur, hb⟩ := (h.byts i m hi).lt hgg
    exact hb.ne_map (h.kids d D hD hDd)
  have hfl : ∀ q, TFoot A T q → q < w.heap.size := fun q hq => h.foot_lt hq
  refine ⟨?_, ?_, ?_, ?_, ?_, ?_, ?_, ?_, ?_, ?_, ?_, by simpa using hfew⟩
  · intro i m hi
    rcases hlt i m hi with ⟨h1, h2⟩ | ⟨rfl, rfl⟩
    · rw [Adr.add_nb _ _ _ _ _ (by omega), cells_congr (B := A) m (i + 1) (fun _ => Adr.add_nb _ _ _ _ _ (by have := h.par i m h2; omega)) (Adr.add_mb _ _ _ _ _ (by omega))]
      exact (h.node i m h2).keep hk (hold _ ⟨i, m, h2, .inl rfl⟩ (hmd i m h2))
    · rw [show (A.add (T.length + 1) nb mb).nb (T.length + 1) = nb from by simp [Adr.add]]
      exact hnode
  · intro i m hi hd
    rcases hlt i m hi with ⟨h1, h2⟩ | ⟨rfl, rfl⟩
    · rw [Adr.add_mb _ _ _ _ _ (by omega)]
      by_cases e : i = d
      · subst e
        rw [hkd]; exact hupd
      · rw [hkids (i + 1) (by omega)]
        have hne : A.mb (i + 1) ≠ A.mb (d + 1) := fun he => e (h.minj i d m D h2 hD hd hDd he)
        exact (h.kids i m h2 hd).of_block (hk.block _ (h.kids i m h2 hd).lt (hold _ ⟨i, m, h2, .inr (.inl ⟨hd, rfl⟩)⟩ hne))
    · rw [show (A.add (T.length + 1) nb mb).mb (T.length + 1) = mb from by simp [Adr.add], hkids _ (by omega)]
      have : Go.Proofs.YtkcjafnaephjiaaGreatDoor.kids A (T.length + 1) T = [] := by
        unfold Go.Proofs.YtkcjafnaephjiaaGreatDoor.kids
        have hg : ∀ (k : Nat) (U : List Pn), (∀ m ∈ U, m.par ≤ T.length) → kidsF A (T.length + 1) k U = [] := by
          intro k U
          induction U generalizing k with
          | nil => intro _; rfl
          | cons x U ih =>
            intro hU
            have hx := hU x (by simp)
            have : x.nd.par ≠ T.length + 1 := by unfold Pn.nd; simp only; split <;> omega
            simp only [kidsF, this, if_false]
            exact ih _ fun m hm => hU m (by simp [hm])
        refine hg 0 T fun m hm => ?_
        obtain ⟨j, hj, he⟩ := List.getElem_of_mem hm
        have := h.par j m (by rw [List.getElem?_eq_getElem hj, he])
        omega
      rw [this]
      exact hmap hd
  · intro i m hi
    rcases hlt i m hi with ⟨h1, h2⟩ | ⟨rfl, rfl⟩
    · exact (h.byts i m h2).keep hk fun g hgg => hold _ ⟨i, m, h2, .inr (.inr hgg)⟩ (hbd i m h2 g hgg)
    · rw [hbv.1, hbv.2]
      exact ⟨(fun x hx => by cases hx), .inl ⟨rfl, rfl⟩⟩
  · intro i j hi hj he
    simp at hi hj
    by_cases h1 : i = T.length <;> by_cases h2 : j = T.length
    · omega
    · subst h1
      rw [Adr.add_nb _ _ _ _ (j + 1) (by omega)] at he
      simp [Adr.add] at he
      have := hfl _ ⟨j, T[j]'(by omega), List.getElem?_eq_getElem (by omega), .inl rfl⟩
      omega
    · subst h2
      rw [Adr.add_nb _ _ _ _ (i + 1) (by omega)] at he
      simp [Adr.add] at he
      have := hfl _ ⟨i, T[i]'(by omega), List.getElem?_eq_getElem (by omega), .inl rfl⟩
      omega
    · rw [Adr.add_nb _ _ _ _ _ (by omega), Adr.add_nb _ _ _ _ _ (by omega)] at he
      exact h.inj i j (by omega) (by omega) he
  · intro i j m k hi hj hdi hdj he
    rcases hlt i m hi with ⟨h1, h2⟩ | ⟨rfl, rfl⟩ <;> rcases hlt j k hj with ⟨h3, h4⟩ | ⟨rfl, rfl⟩
    · rw [Adr.add_mb _ _ _ _ _ (by omega), Adr.add_mb _ _ _ _ _ (by omega)] at he
      exact h.minj i j m k h2 h4 hdi hdj he
    · rw [Adr.add_mb _ _ _ _ (i + 1) (by omega)] at he
      simp [Adr.add] at he
      have := hfl _ ⟨i, m, h2, .inr (.inl ⟨hdi, rfl⟩)⟩
      have := hmb hdj
      omega
    · rw [Adr.add_mb _ _ _ _ (j + 1) (by omega)] at he
      simp [Adr.add] at he
      have := hfl _ ⟨j, k, h4, .inr (.inl ⟨hdj, rfl⟩)⟩
      have := hmb hdi
      omega
    · rfl
  · intro i j m k g hi hj hm hkk
    rcases hlt i m hi with ⟨h1, h2⟩ | ⟨rfl, rfl⟩
    · rcases hlt j k hj with ⟨h3, h4⟩ | ⟨rfl, rfl⟩
      · exact h.sep i j m k g h2 h4 hm hkk
      · rw [hbv.1] at hkk; cases hkk
    · rw [hbv.1] at hm; cases hm
  · intro i m hi
    rcases hlt i m hi with ⟨h1, h2⟩ | ⟨rfl, rfl⟩
    · exact h.par i m h2
    · omega
  · intro i m hi h0
    rcases hlt i m hi with ⟨h1, h2⟩ | ⟨rfl, rfl⟩
    · obtain ⟨p, hp1, hp2⟩ := h.pdir i m h2 h0
      exact ⟨p, by rw [List.getElem?_append_left (by have := h.par i m h2; omega)]; exact hp1, hp2⟩
    · exact ⟨D, by rw [hp, Nat.add_sub_cancel, List.getElem?_append_left hdl]; exact hD, hDd⟩
  · obtain ⟨r, h1, h2⟩ := h.root
    exact ⟨r, by rw [List.getElem?_append_left (List.getElem?_eq_some_iff.1 h1).1]; exact h1, h2⟩
  · intro i m hi h0 h1
    rcases hlt i m hi with ⟨h3, h4⟩ | ⟨rfl, rfl⟩
    · exact h.top i m h4 h0 h1
    · omega
  · intro i m hi h0 h1
    rcases hlt i m hi with ⟨h3, h4⟩ | ⟨rfl, rfl⟩
    · exact h.name i m h4 h0 h1
    · exact hnm
end Go.Proofs.YtkcjafnaephjiaaGreatDoor
