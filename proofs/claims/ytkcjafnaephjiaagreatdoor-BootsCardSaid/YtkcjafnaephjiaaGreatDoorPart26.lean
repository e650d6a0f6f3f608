/- The document's file: joined. -/
import Derived.Test.YtkcjafnaephjiaaGreatDoorPart15
import Derived.Test.YtkcjafnaephjiaaGreatDoorPart20
import Derived.Test.YtkcjafnaephjiaaGreatDoorPart23
import Derived.Test.YtkcjafnaephjiaaGreatDoorPart24
import Derived.Test.YtkcjafnaephjiaaGreatDoorPart25
set_option linter.unusedVariables false
set_option linter.unusedSimpArgs false
namespace Go.Proofs.YtkcjafnaephjiaaGreatDoor
open Go.RowKit
set_option maxRecDepth 100000

set_option maxHeartbeats 8000000 in
theorem fileD_any (kb : Nat) (s : KV) (iv : Value) (L : List Nd) (mi mb : Nat) (nm : ByteArray) (is : Bool) (p : Option Addr) (bcap : Nat) (b : List Int) (w : World) (h : DK w kb s iv L) (hd : s.d = mi) (hmi : mi ≤ 100000) (he : s.e = mb) (hmb : mb ≤ 100000) (hpv : s.pv = .slice none 0 0) (hov : s.ov = .slice none 0 0)
    (hbs : BS w p b) (hbl : b.length ≤ 200000) (hbk : 0 < b.length → ∀ q o, p = some ⟨q, o, none⟩ → q < kb) (hsum : sumB (sks L) ≤ mb) (hs : nm.size ≤ 1000000) (hroot : isDir L 1 = true) :
    Calls Tryz.prog 29 #[.pointer (some ⟨kb, 0, none⟩), .string nm, .bool is, .slice p b.length bcap] w fun e w' => DStepRes w kb s (fileF mi mb (sks L) nm.data.toList is b) e w' := by
  cases is with
  | true =>
    have hm := mkdirD_any kb s iv L mi nm w h hd hmi hs
    show Calls _ _ _ _ fun e w' => DStepRes w kb s (mkF mi (sks L) nm.data.toList) e w'
    have HM := Lib.hid hm
    generalize mkF mi (sks L) nm.data.toList = r at *
    clear hm h hd he hpv hov hbs hbk hroot
    go_enter Tryz.func29, Tryz.ntmps29
    go_wp2_with (go_at_call 45; ((with_reducible refine Calls.mono HM.out ?_); rintro e w1 ⟨rfl, k1⟩; have HK := Lib.hid k1; clear k1))
    go_ret
    exact ⟨rfl, HK.out⟩
  | false =>
    obtain ⟨g, cap, hiv, ht, hg⟩ := h.tree
    have hw := walk_any kb g cap L w ht nm hs (by have := h.few; omega)
    unfold fileF
    rw [docWalk_sk, sks_len, if_neg (by simp)]
    have hold := docWalk_old (L := L) (s := nm.data.toList) hroot
    obtain ⟨d, x, n, c, hr⟩ : ∃ d x n c, docWalk L nm.data.toList = (d, x, n, c) := ⟨_, _, _, _, rfl⟩
    rw [hr] at hw hold ⊢
    simp only [walkV] at hw hold ⊢
    by_cases hc : c = 0
    · subst hc
      rw [if_neg (by simp)]
      refine fileD_node kb s iv L mi mb nm x p bcap b d n w h hd hmi he hmb hpv hov hbs hbl hbk hsum hw _ ?_
      by_cases hn : n = 0
      · rw [if_pos hn, if_pos hn]
      · rw [if_neg hn, if_neg hn]
        exact ⟨hold rfl, rfl⟩
    · rw [if_pos hc]
      have HW := Lib.hid hw
      have HC := Lib.hid hc
      have hcb : ((c : Int) == 0) = false := beq_eq_false_iff_ne.2 (by omega)
      clear hw hc h hd he hpv hov hbs hbk hroot hr hold ht hiv
      go_enter Tryz.func29, Tryz.ntmps29
      go_wp2_with (go_at_call 46; ((with_reducible refine Calls.mono HW.out ?_); rintro e w1 ⟨rfl, k1⟩))
      go_ret
      exact ⟨rfl, Keep.of_bel _ k1, fun h => absurd h HC.out⟩
end Go.Proofs.YtkcjafnaephjiaaGreatDoor

/- exec in plain words; small laws. -/
namespace Go.Proofs.YtkcjafnaephjiaaGreatDoor
open Go.RowKit Go.Maps
set_option maxRecDepth 100000

open Classical in
/-- The error of an executable's bytes; 0: none. -/
noncomputable def loadE (L : List Int) : Nat := if headerOk L = false then 2 else if segsOk L = false then 3 else if ∀ k, k < (segN L).toNat → FreeAt L k then (if entryOk L = true then 0 else 5) else 4
def spaceL (L : List Int) : Pages := spaceTo L (segN L).toNat
theorem loadRD_of (p : Option Addr) (cap : Nat) (L : List Int) (hcap : L.length ≤ cap) (hlen : L.length ≤ 200000) (W : World) (hr : BS W p L) :
    Calls Tryz.prog 48 #[.slice p L.length cap] W fun e w' => Bel W w' ∧ LoadResR L W.heap.size e w' := by
  by_cases h : L.length < 64
  · have hh : headerOk L = false := by simp [headerOk, show ¬ 64 ≤ L.length from by omega]
    refine (loadR_short p L.length cap W h).mono ?_
    rintro e w' ⟨rfl, rfl⟩
    exact ⟨Below.refl _ _, ⟨fun _ => rfl, fun h => (by rw [hh] at h; cases h), fun h => (by rw [hh] at h; cases h), fun h => (by rw [hh] at h; cases h), fun h => (by rw [hh] at h; cases h)⟩⟩
  · obtain ⟨b, o, rfl, _, h3⟩ := hr.2 (by omega)
    exact loadR_any b o cap L W h3 hcap hlen
theorem LoadResR.err {L : List Int} {base : Nat} {e : Ending} {w' : World} (h : LoadResR L base e w') (h0 : loadE L ≠ 0) : e = .returned (.tuple #[.slice none 0 0, .int .u64 0, .int .i64 (loadE L : Nat)]) := by
  unfold loadE at h0 ⊢
  by_cases h1 : headerOk L = false
  · rw [if_pos h1]; exact h.header h1
  · rw [if_neg h1] at h0 ⊢
    have h1' : headerOk L = true := by simpa using h1
    by_cases h2 : segsOk L = false
    · rw [if_pos h2]; exact h.segs h1' h2
    · rw [if_neg h2] at h0 ⊢
      have h2' : segsOk L = true := by simpa using h2
      by_cases h3 : ∀ k, k < (segN L).toNat → FreeAt L k
      · rw [if_pos h3] at h0 ⊢
        by_cases h4 : entryOk L = true
        · rw [if_pos h4] at h0; exact absurd rfl h0
        · rw [if_neg h4]; exact h.entry h1' h2' h3 (by simpa using h4)
      · rw [if_neg h3]; exact h.overlap h1' h2' h3
theorem loadE_ok {L : List Int} (h : loadE L = 0) : headerOk L = true ∧ segsOk L = true ∧ (∀ k, k < (segN L).toNat → FreeAt L k) ∧ entryOk L = true := by
  unfold loadE at h
  by_cases h1 : headerOk L = false
  · rw [if_pos h1] at h; cases h
  · rw [if_neg h1] at h
    by_cases h2 : segsOk L = false
    · rw [if_pos h2] at h; cases h
    · rw [if_neg h2] at h
      by_cases h3 : ∀ k, k < (segN L).toNat → FreeAt L k
      · rw [if_pos h3] at h
        by_cases h4 : entryOk L = true
        · exact ⟨by simpa using h1, by simpa using h2, h3, h4⟩
        · rw [if_neg h4] at h; cases h
      · rw [if_neg h3] at h; cases h
theorem LoadRes.err {L : List Int} {base : Nat} {e : Ending} {w' : World} (h : LoadRes L base e w') (h0 : loadE L ≠ 0) : e = .returned (.tuple #[.map none, .int .u64 0, errN (loadE L : Nat)]) := by
  unfold loadE at h0 ⊢
  by_cases h1 : headerOk L = false
  · rw [if_pos h1]; exact h.header h1
  · rw [if_neg h1] at h0 ⊢
    have h1' : headerOk L = true := by simpa using h1
    by_cases h2 : segsOk L = false
    · rw [if_pos h2]; exact h.segs h1' h2
    · rw [if_neg h2] at h0 ⊢
      have h2' : segsOk L = true := by simpa using h2
      by_cases h3 : ∀ k, k < (segN L).toNat → FreeAt L k
      · rw [if_pos h3] at h0 ⊢
        by_cases h4 : entryOk L = true
        · rw [if_pos h4] at h0; exact absurd rfl h0
        · rw [if_neg h4]; exact h.entry h1' h2' h3 (by simpa using h4)
      · rw [if_neg h3]; exact h.overlap h1' h2' h3
/-- The pages of a list of numbers, in the document's cells. -/
def refRow (m : Pages) : List Value := (pageNums m).flatMap fun n => refCells n ((m n).getD Pg.zero)
def stackPg (ss : List ByteArray) (n : Nat) : Pg := ⟨6, (List.range 256).map fun i => memOf ss (256 * n + i)⟩
/-- A space with the stack's pages. -/
def withStack (m : Pages) (ss : List ByteArray) : Pages := fun n => if n = 254 ∨ n = 255 then some (stackPg ss n) else m n
theorem pageNums_stack (m : Pages) (ss : List ByteArray) (h : ∀ n, 254 ≤ n → m n = none) : pageNums (withStack m ss) = pageNums m ++ [254, 255] := by
  unfold pageNums
  have e : List.range 256 = List.range 254 ++ [254, 255] := by decide
  rw [e, List.filter_append, List.filter_append]
  have h1 : (List.range 254).filter (fun n => (withStack m ss n).isSome) = (List.range 254).filter (fun n => (m n).isSome) := by
    apply List.filter_congr
    intro n hn
    rw [List.mem_range] at hn
    unfold withStack
    rw [if_neg (by omega)]
  have h2 : [254, 255].filter (fun n => (m n).isSome) = [] := by simp [h 254 (by omega), h 255 (by omega)]
  have h3 : [254, 255].filter (fun n => (withStack m ss n).isSome) = [254, 255] := by simp [withStack]
  rw [h1, h2, h3, List.append_nil]
theorem refRow_stack (m : Pages) (ss : List ByteArray) (h : ∀ n, 254 ≤ n → m n = none) : refRow (withStack m ss) = refRow m ++ [254, 255].flatMap fun n => refCells n (stackPg ss n) := by
  unfold refRow
  rw [pageNums_stack m ss h, List.flatMap_append]
  congr 1
  have hc : ∀ (l : List Nat), (∀ n ∈ l, n ∈ pageNums m) → l.flatMap (fun n => refCells n ((withStack m ss n).getD Pg.zero)) = l.flatMap fun n => refCells n ((m n).getD Pg.zero) := by
    intro l
    induction l with
    | nil => intro _; rfl
    | cons x l ih =>
      intro hl
      rw [List.flatMap_cons, List.flatMap_cons, ih fun n hn => hl n (by simp [hn])]
      congr 1
      have hx := hl x (by simp)
      have := List.mem_filter.1 hx
      have hlt : x < 254 := by
        refine Classical.byContradiction fun hc => ?_
        rw [h x (by omega)] at this
        simp at this
      unfold withStack
      rw [if_neg (by omega)]
  exact hc _ fun n hn => hn
theorem pageNums_lt (m : Pages) (h : ∀ n, 254 ≤ n → m n = none) (n : Nat) (hn : n ∈ pageNums m) : n < 254 := by
  have := List.mem_filter.1 hn
  refine Classical.byContradiction fun hc => ?_
  rw [h n (by omega)] at this
  simp at this
theorem Blk.setCells {w : World} {b : Nat} {c : List Value} {t : TypeId} (h : Blk w b c t) : ∀ (o : Nat) (vs : List Value), o + vs.length ≤ c.length → Blk (w.setCells b o vs) b (splice c o vs) t := by
  intro o vs
  induction vs generalizing w c o with
  | nil => intro _; simpa [World.setCells, splice] using h
  | cons v vs ih =>
    intro hl
    simp only [List.length_cons] at hl
    have := ih (h.setCell (o := o) v) (o + 1) (by simp; omega)
    rw [World.setCells]
    have e : splice (c.set o v) (o + 1) vs = splice c o (v :: vs) := by
      have h1 : (c.set o v).take (o + 1) = c.take o ++ [v] := by
        rw [List.take_succ_eq_append_getElem (by simp; omega), List.take_set_of_le (Nat.le_refl _)]
        simp
      have h2 : (c.set o v).drop (o + 1 + vs.length) = c.drop (o + (vs.length + 1)) := by
        rw [List.drop_set_of_lt (by omega), show o + 1 + vs.length = o + (vs.length + 1) from by omega]
      unfold splice
      rw [h1, h2]
      simp
    rw [← e]
    exact this
theorem Keep.setCells (w : World) (b : Nat) : ∀ (o : Nat) (vs : List Value), Keep (fun q => q = b) w (w.setCells b o vs) := by
  intro o vs
  induction vs generalizing w o with
  | nil => exact Keep.refl _ _
  | cons v vs ih => exact (Keep.setCell w b o v).tr (ih (w.setCell ⟨b, o, none⟩ v) (o + 1))
end Go.Proofs.YtkcjafnaephjiaaGreatDoor
