/- The program's Find: what the document's walk finds. -/
import Derived.StillTailTactics
import Derived.Test.YtkcjafnaephjiaaGreatDoorPart04
import Derived.Test.YtkcjafnaephjiaaGreatDoorPart07
import Derived.Test.YtkcjafnaephjiaaGreatDoorPart06
import Derived.IntWalk
namespace Go.Proofs.YtkcjafnaephjiaaGreatDoor
open Go.RowKit Go.MapKept Go.Maps
set_option maxRecDepth 100000

/-- The walk goes on from a spot. -/
def contF (L : List Nd) : Nat × ByteArray × Nat → List (List UInt8) → Nat × ByteArray × Nat × Nat
  | (d, nm, n), [] => (d, nm, n, 0)
  | (_, _, n), x :: t => if n = 0 then (0, ⟨#[]⟩, 0, 9) else if isDir L n then contF L (n, ⟨x.toArray⟩, child L n ⟨x.toArray⟩) t else (0, ⟨#[]⟩, 0, 11)
theorem walkF_cont (L : List Nd) : ∀ (t : List (List UInt8)) (d : Nat) (x : List UInt8), walkF L d (x :: t) = contF L (d, ⟨x.toArray⟩, child L d ⟨x.toArray⟩) t
  | [], d, x => rfl
  | y :: t, d, x => by
    have ih := walkF_cont L t (child L d ⟨x.toArray⟩) y
    simp only [walkF, contF, ih]
theorem walk_cont (L : List Nd) (h : isDir L 1 = true) : ∀ l, walkF L 1 l = contF L (0, ⟨#[]⟩, 1) l
  | [] => rfl
  | x :: t => by rw [walkF_cont]; simp [contF, h]

def spotV (A : Adr) (r : Nat × ByteArray × Nat × Nat) : Value :=
  if r.2.2.2 = 0 then .tuple #[.agg #[A.ptr r.1, .string r.2.1, A.ptr r.2.2.1], .nilIface] else .tuple #[.agg #[.pointer none, .string ⟨#[]⟩, .pointer none], errN r.2.2.2]
def spotC (A : Adr) (d : Nat) (nm : ByteArray) (n : Nat) : List Value := [A.ptr d, .string nm, A.ptr n]
/-- The numbers that a tree's block bears. -/
structure TN where
  inodes : Nat
  bytes : Nat
  most : Int
  mostBytes : Int
def TN.cells (A : Adr) (t : TN) : List Value := [A.ptr 1, .int .i64 t.inodes, .int .i64 t.bytes, .int .i64 t.most, .int .i64 t.mostBytes]

theorem zeroPtr (w : World) : (zeroValue 170).run Tryz.prog w = .ok (.pointer none) w := by kernel_rfl
theorem PTree.lookup {w : World} {A : Adr} {T : List Pn} (h : PTree w A T) (d : Nat) (n : Pn) (hd : T[d]? = some n) (hdir : n.dir = true) (s : ByteArray) (hs : s.size ≤ maxLen) :
    (Instr.lookup 171 (.map (some (A.mb (d + 1)))) (.string s) false).run Tryz.prog w = .ok (A.ptr (child (nds T) (d + 1) s)) w := by
  have := (h.kids d n hd hdir).lookup keyedS Tryz.underlying171 s hs false (zeroPtr w)
  simp only [Bool.false_eq_true, if_false] at this
  rw [kids_get] at this
  exact this

theorem dir_any (g : Nat) (m : Option Nat) (w : World) (hc : w.cell? ⟨g, 2, none⟩ = some (.map m)) :
    Calls Tryz.prog 59 #[.pointer (some ⟨g, 0, none⟩)] w fun e w' => e = .returned (.bool m.isSome) ∧ w = w' := by
  have h0 : ∀ w, (binOp .neq 171 (.map none) (.map none)).run Tryz.prog w = .ok (.bool false) w := fun w => by kernel_rfl
  have h1 : ∀ m w, (binOp .neq 171 (.map (some m)) (.map none)).run Tryz.prog w = .ok (.bool true) w := fun m w => by kernel_rfl
  cases m with
  | none =>
    go_enter Tryz.func59, Tryz.ntmps59
    go_wp2
    go_ret
    exact ⟨rfl, rfl⟩
  | some m =>
    go_enter Tryz.func59, Tryz.ntmps59
    go_wp2
    go_ret
    exact ⟨rfl, rfl⟩

set_option maxHeartbeats 8000000 in
theorem find_err (tb : Nat) (s : ByteArray) (w : World) (hn : ∀ W, Bel w W → Calls Tryz.prog 83 #[.string s] W fun e w' => e = .returned (.tuple #[.slice none 0 0, errN 8]) ∧ Bel W w') :
    Calls Tryz.prog 57 #[.pointer (some ⟨tb, 0, none⟩), .string s] w fun e w' => e = .returned (.tuple #[.agg #[.pointer none, .string ⟨#[]⟩, .pointer none], errN 8]) ∧ Bel w w' := by
  have HN := Lib.hid hn
  clear hn
  go_enter Tryz.func57, Tryz.ntmps57
  go_upto_region 1 with fail
  have k1 : Bel w (w.alloc (.cells #[.pointer none, .string ⟨#[]⟩, .pointer none] 180)) := Bel.start w _
  have B1 := Blk.new w [.pointer none, .string ⟨#[]⟩, .pointer none] 180
  generalize w.alloc (.cells #[.pointer none, .string ⟨#[]⟩, .pointer none] 180) = w1 at *
  have HB1 := Lib.hid B1
  have K1 := Lib.hid k1
  have HM := Lib.hid (HN.out w1 k1)
  obtain ⟨g, hg⟩ : ∃ g, w.heap.size = g := ⟨_, rfl⟩
  rw [hg] at HB1 ⊢
  have HG := Lib.hid hg
  clear k1 B1 hg
  go_upto_region 3 with (go_at_call 83; with_reducible refine Calls.mono HM.out ?_; rintro e w2 ⟨rfl, k2⟩)
  have B2 := HB1.out.bel k2
  have c := B2.cell
  have f := B2.frozen
  have hl := B2.lt
  have K2 := Lib.hid (K1.out.tr k2)
  clear k2
  have hgw : w.heap.size ≤ g := by rw [HG.out]; exact Nat.le_refl _
  clear B2
  go_wp2
  refine bodyPost_ret (v := .tuple #[.agg #[.pointer none, .string ⟨#[]⟩, .pointer none], errN 8]) (by simp [results, Tryz.results57, go_sem, c]) rfl ⟨rfl, ?_⟩
  first
    | exact K2.out
    | exact ((K2.out.store (p := ⟨g, 0, none⟩) hgw _).store (p := ⟨g, 1, none⟩) hgw _).store (p := ⟨g, 2, none⟩) hgw _

/-- What split hands back at a path of these names. -/
def SplitV (W : World) (v : Value) (l : List (List UInt8)) : Prop := ∃ p, v = .slice p l.length l.length ∧ ∀ j x, l[j]? = some x → ∃ g, p = some ⟨g, 0, none⟩ ∧ W.cell? ⟨g, j, none⟩ = some (.string ⟨x.toArray⟩)
def FindRes (A : Adr) (r : Nat × ByteArray × Nat × Nat) (e : Ending) : Prop := e = .returned (spotV A r)

theorem nd_dir (T : List Pn) (n : Nat) (x : Pn) (hx : T[n]? = some x) : isDir (nds T) (n + 1) = x.dir := by
  rw [isDir_nds, Nat.add_sub_cancel, hx]; rfl

set_option maxHeartbeats 16000000 in
theorem find_ok (tb : Nat) (A : Adr) (T : List Pn) (t : TN) (s : ByteArray) (l : List (List UInt8)) (w : World) (hT : Blk w tb (t.cells A) 175) (ht : PTree w A T) (hsm : ∀ x ∈ l, x.length ≤ 1000) (hll : l.length ≤ 1000)
    (hn : ∀ W, Bel w W → Calls Tryz.prog 83 #[.string s] W fun e w' => (∃ v, e = .returned (.tuple #[v, .nilIface]) ∧ SplitV w' v l) ∧ Bel W w') :
    Calls Tryz.prog 57 #[.pointer (some ⟨tb, 0, none⟩), .string s] w fun e w' => FindRes A (walkF (nds T) 1 l) e ∧ Bel w w' := by
  have HN := Lib.hid hn
  have HT := Lib.hid hT
  have HP := Lib.hid ht
  have HSM := Lib.hid hsm
  have HW : Hid (walkF (nds T) 1 l = contF (nds T) (0, ⟨#[]⟩, 1) l) := Lib.hid (by
    obtain ⟨r, h0, _, h1, _⟩ := ht.root
    exact walk_cont _ (by rw [nd_dir T 0 r h0]; exact h1) l)
  clear hn hT ht hsm
  go_enter Tryz.func57, Tryz.ntmps57
  go_upto_region 1 with fail
  have k1 : Bel w (w.alloc (.cells #[.pointer none, .string ⟨#[]⟩, .pointer none] 180)) := Bel.start w _
  have B1 := Blk.new w [.pointer none, .string ⟨#[]⟩, .pointer none] 180
  generalize w.alloc (.cells #[.pointer none, .string ⟨#[]⟩, .pointer none] 180) = w1 at *
  have HB1 := Lib.hid B1
  have K1 := Lib.hid k1
  have HM := Lib.hid (HN.out w1 k1)
  obtain ⟨g, hg⟩ : ∃ g, w.heap.size = g := ⟨_, rfl⟩
  rw [hg] at HB1 ⊢
  have HG := Lib.hid hg
  clear k1 B1 hg
  go_upto_region 4 with (go_at_call 83; (with_reducible refine Calls.mono HM.out ?_); rintro e w2 ⟨⟨v, rfl, p, rfl, hcl⟩, k2⟩)
  have c0 : w2.cell? ⟨tb, 0, none⟩ = some (.pointer (A.at_ 1)) := (HT.out.bel (K1.out.tr k2)).cell 0
  have B2 := HB1.out.bel k2
  have K2 := Lib.hid (K1.out.tr k2)
  have HB2 := Lib.hid B2
  have HCL := Lib.hid hcl
  have hl := B2.lt
  clear k2 B2 hcl HM HB1
  obtain ⟨q1, hq1⟩ : ∃ q, A.at_ 1 = q := ⟨_, rfl⟩
  rw [hq1] at c0
  have HQ1 := Lib.hid hq1
  clear hq1
  go_upto_region 5 with fail
  have k3 : Bel w2 (w2.alloc (.cells #[.pointer none, .string ⟨#[]⟩, .pointer q1] 180)) := Bel.start w2 _
  have B3 := Blk.new w2 [.pointer none, .string ⟨#[]⟩, .pointer q1] 180
  generalize w2.alloc (.cells #[.pointer none, .string ⟨#[]⟩, .pointer q1] 180) = w3 at *
  obtain ⟨g8, hg8⟩ : ∃ g, w2.heap.size = g := ⟨_, rfl⟩
  rw [hg8] at B3 ⊢
  have HG8 := Lib.hid hg8
  have hgg : g < g8 := by rw [← hg8]; exact hl
  have HB3 : Hid (Blk w3 g8 (spotC A 0 ⟨#[]⟩ 1) 180) := Lib.hid (by have := B3; rw [← HQ1.out] at this; exact this)
  have hl3 := B3.lt
  have K3 := Lib.hid (K2.out.tr k3)
  have HBG := Lib.hid (HB2.out.bel k3)
  have HK3 := Lib.hid k3
  clear hg8 B3 k3 c0 HB2
  go_wp2
  go_loopw [27] (fun i wr => ∃ (k d n : Nat) (nm : ByteArray), k ≤ l.length ∧ i = .int .i64 k ∧ n ≤ T.length ∧ Blk wr g8 (spotC A d nm n) 180 ∧ walkF (nds T) 1 l = contF (nds T) (d, nm, n) (l.drop k) ∧ Keep (fun q => q = g8) w3 wr) (fun i _ => l.length - (intOf i).toNat)
  case atStart => exact ⟨0, 0, 1, ⟨#[]⟩, Nat.zero_le _, rfl, by
    obtain ⟨r, h0, _⟩ := HP.out.root
    have := (List.getElem?_eq_some_iff.1 h0).1
    omega, HB3.out, HW.out, Keep.refl _ _⟩
  case round =>
    obtain ⟨k, d, n, nm, hk, rfl, hnT, hB, hw, hkr⟩ := hrel
    have HBR := Lib.hid hB
    have HKR := Lib.hid hkr
    have HWR := Lib.hid hw
    have hlr := hB.lt
    have c2 : wr.cell? ⟨g8, 2, none⟩ = some (.pointer (A.at_ n)) := hB.cell 2
    have f8 := hB.frozen
    have HBW : Hid (Bel w wr) := Lib.hid (Below.trans K3.out (HKR.out.below _ K3.out.size (fun q hq => by have := HG.out; omega)))
    have HPR : Hid (PTree wr A T) := Lib.hid (((HP.out.bel K2.out).bel HK3.out).keep HKR.out (fun q hq e => by have := (HP.out.bel K2.out).foot_lt hq; have := HG8.out; omega))
    have BG := (HBG.out.keep HKR.out (by omega))
    have cg := BG.cell
    have fg := BG.frozen
    have hlg := BG.lt
    have hgw : w.heap.size ≤ g := by rw [HG.out]; exact Nat.le_refl _
    have HBG4 := Lib.hid BG
    clear hB hkr hw BG
    by_cases hlt : k < l.length
    · obtain ⟨gs, rfl, hcs⟩ := HCL.out k l[k] (List.getElem?_eq_getElem hlt)
      have cs : wr.cell? ⟨gs, k, none⟩ = some (.string ⟨l[k].toArray⟩) := by
        have hb := World.block_lt_of_cell? _ _ hcs
        rw [HKR.out.cell ⟨gs, k, none⟩ (Nat.lt_of_lt_of_le hb HK3.out.size) (by simp at hb; have := HG8.out; simp; omega), HK3.out.cell (p := ⟨gs, k, none⟩) hb]
        exact hcs
      have hd : l.drop k = l[k] :: l.drop (k + 1) := List.drop_eq_getElem_cons hlt
      have hxs := HSM.out l[k] (List.getElem_mem hlt)
      have HHD := Lib.hid hd
      generalize l[k] = x at *
      clear hd hcs
      by_cases hn0 : n = 0
      · subst hn0
        have HE : Hid (walkF (nds T) 1 l = (0, ⟨#[]⟩, 0, 9)) := Lib.hid (by rw [HWR.out, HHD.out]; rfl)
        have hat : A.at_ 0 = none := rfl
        rw [hat] at c2
        clear hat
        go_wp2
        refine bodyPost_ret (v := .tuple #[.agg #[.pointer none, .string ⟨#[]⟩, .pointer none], errN 9]) (by simp [results, Tryz.results57, go_sem, cg]) rfl ⟨?_, ?_⟩
        · unfold FindRes; rw [HE.out]; rfl
        · first
            | exact HBW.out
            | exact ((HBW.out.store (p := ⟨g, 0, none⟩) hgw _).store (p := ⟨g, 1, none⟩) hgw _).store (p := ⟨g, 2, none⟩) hgw _
      · have hat : A.at_ n = some ⟨A.nb n, 0, none⟩ := by simp [Adr.at_, hn0]
        rw [hat] at c2
        have hlt1 : n - 1 < T.length := by omega
        have hx1 := List.getElem?_eq_getElem hlt1
        have hnd := HPR.out.node (n - 1) T[n - 1] hx1
        have hdi := nd_dir T (n - 1) T[n - 1] hx1
        have hlk := PTree.lookup (w := wr.drew) (HPR.out.bel (Bel.drew (Bel.refl wr))) (n - 1) T[n - 1] hx1
        rw [show n - 1 + 1 = n from by omega] at hnd hdi hlk
        generalize T[n - 1] = X at *
        have cM : wr.cell? ⟨A.nb n, 2, none⟩ = some (.map (X.map A n)) := hnd.cell 2
        have HNE : Hid (n ≠ 0) := Lib.hid hn0
        cases hxd : X.dir with
        | false =>
          have HE : Hid (walkF (nds T) 1 l = (0, ⟨#[]⟩, 0, 11)) := Lib.hid (by rw [HWR.out, HHD.out, contF, if_neg hn0, hdi, hxd]; rfl)
          have hm : X.map A n = none := by unfold Pn.map; rw [hxd]; rfl
          rw [hm] at cM
          have HD := Lib.hid (dir_any (A.nb n) none wr cM)
          clear hnd hdi hlk hx1 hat hxd hm hn0 cM
          go_wp2_with (go_at_call 59; with_reducible refine Calls.mono HD.out ?_; rintro e wx ⟨rfl, h⟩; subst h)
          refine bodyPost_ret (v := .tuple #[.agg #[.pointer none, .string ⟨#[]⟩, .pointer none], errN 11]) (by simp [results, Tryz.results57, go_sem, cg]) rfl ⟨?_, ?_⟩
          · unfold FindRes; rw [HE.out]; rfl
          · first
              | exact HBW.out
              | exact ((HBW.out.store (p := ⟨g, 0, none⟩) hgw _).store (p := ⟨g, 1, none⟩) hgw _).store (p := ⟨g, 2, none⟩) hgw _
        | true =>
          have HE : Hid (walkF (nds T) 1 l = contF (nds T) (n, ⟨x.toArray⟩, child (nds T) n ⟨x.toArray⟩) (l.drop (k + 1))) := Lib.hid (by
            rw [HWR.out, HHD.out, contF, if_neg hn0, hdi, hxd]; rfl)
          have hm : X.map A n = some (A.mb n) := by unfold Pn.map; rw [hxd]; rfl
          rw [hm] at cM
          have HD := Lib.hid (dir_any (A.nb n) (some (A.mb n)) wr cM)
          have hlk2 := hlk hxd ⟨x.toArray⟩ (by show x.toArray.size ≤ _; simp; unfold maxLen; omega)
          have HCL2 := child_le (nds T) n ⟨x.toArray⟩
          rw [nds_len] at HCL2
          generalize (⟨x.toArray⟩ : ByteArray) = xs at *
          generalize child (nds T) n xs = n2 at *
          have hat2 : A.ptr n2 = .pointer (A.at_ n2) := rfl
          rw [hat2] at hlk2
          clear hnd hdi hlk hx1 hat hxd hm hn0 hat2
          go_upto_region 12 with (go_at_call 59; with_reducible refine Calls.mono HD.out ?_; rintro e wx ⟨rfl, h⟩; subst h)
          go_still_tail 11, (by kernel_rfl)
          change wpList _ _ _ _ _ wr.drew
          have BD : Blk wr.drew g8 (spotC A d nm n) 180 := HBR.out
          have kd : Bel wr wr.drew := Bel.drew (Bel.refl _)
          have HKD := Lib.hid (HKR.out.tr (Keep.of_bel _ kd))
          generalize wr.drew = wd at *
          have HBD := Lib.hid BD
          clear BD kd hlk2 c2 f8 cg fg hlg hlr
          have hpn : Value.pointer (some ⟨A.nb n, 0, none⟩) = A.ptr n := by simp [Adr.ptr, Adr.at_, HNE.out]
          have HPN := Lib.hid hpn
          clear hpn
          go_wp2_with (refine wpList_store_blk rfl 180 (.tmp 8) (.tmp 54) rfl rfl g8 [.pointer (some ⟨A.nb n, 0, none⟩), .string xs, .pointer (A.at_ n2)] (spotC A d nm n) 180 HBD.out rfl rfl (by kernel_rfl) rfl (by intro v hv; simp at hv; rcases hv with rfl | rfl | rfl <;> rfl) ?_; intro w5 B5 K5)
          go_roundw
          case rel => exact ⟨k + 1, n, n2, xs, by omega, by go_num, by omega, by have := B5.out; rw [HPN.out] at this; exact this, HE.out, HKD.out.tr K5⟩
          case measure => simp [intOf] <;> omega
    · obtain rfl : k = l.length := by omega
      have HE : Hid (walkF (nds T) 1 l = (d, nm, n, 0)) := Lib.hid (by rw [HWR.out, List.drop_length]; rfl)
      clear c2 cg fg hlg f8 hlr
      go_wp2_with (first
        | (refine wpList_load_mid rfl 180 (.tmp 8) rfl g8 0 rfl (spotC A d nm n) _ (by have := HBR.out.range 0; simpa using this) Tryz.underlying180 rfl (by kernel_rfl) ?_)
        | (refine wpList_store_blk rfl 180 (.tmp 4) (.tmp 56) rfl rfl g (spotC A d nm n) _ 180 HBG4.out rfl rfl (by kernel_rfl) rfl (by intro v hv; simp [spotC] at hv; rcases hv with rfl | rfl | rfl <;> rfl) ?_; intro w5 B5 K5))
      have c0 : w5.cell? ⟨g, 0, none⟩ = some (A.ptr d) := B5.out.cell 0
      have c1 : w5.cell? ⟨g, 1, none⟩ = some (.string nm) := B5.out.cell 1
      have c2 : w5.cell? ⟨g, 2, none⟩ = some (A.ptr n) := B5.out.cell 2
      refine bodyPost_ret (v := .tuple #[.agg #[A.ptr d, .string nm, A.ptr n], .nilIface]) (by simp [results, Tryz.results57, go_sem, c0, c1, c2]) rfl ⟨?_, ?_⟩
      · unfold FindRes; rw [HE.out]; rfl
      · exact Below.trans HBW.out (K5.below _ HBW.out.size (fun q hq => by omega))

/-- (*Tree).Find. -/
theorem find_any (tb : Nat) (A : Adr) (T : List Pn) (t : TN) (s : ByteArray) (w : World) (hT : Blk w tb (t.cells A) 175) (ht : PTree w A T) (hs : s.size ≤ 1000000) (hmx : MaxVar w) :
    Calls Tryz.prog 57 #[.pointer (some ⟨tb, 0, none⟩), .string s] w fun e w' => FindRes A (docWalk (nds T) s.data.toList) e ∧ Bel w w' := by
  have hno : ∀ (h : ∀ r, s.data.toList = 47 :: r → 60 < s.size), docWalk (nds T) s.data.toList = (0, ⟨#[]⟩, 0, 8) := fun h => by
    unfold docWalk
    cases hd : s.data.toList with
    | nil => rfl
    | cons b r =>
      rw [pathOf_cons, if_neg]
      rintro ⟨rfl, h2⟩
      have := h r hd
      have e : s.size = r.length + 1 := by have := congrArg List.length hd; simpa using this
      omega
  by_cases h : ∃ r, s.data.toList = 47 :: r ∧ s.size ≤ 60
  · obtain ⟨r, hr, h60⟩ := h
    have e : s.size = r.length + 1 := by have := congrArg List.length hr; simpa using this
    by_cases hr0 : r = []
    · subst hr0
      have hd : docWalk (nds T) s.data.toList = walkF (nds T) 1 [] := by unfold docWalk; rw [hr]; rfl
      rw [hd]
      refine find_ok tb A T t s [] w hT ht (fun x hx => by cases hx) (by simp) fun W hW => (split_root s W hr).mono ?_
      rintro e w' ⟨rfl, k⟩
      exact ⟨⟨_, rfl, none, rfl, fun j x hx => by cases hx⟩, k⟩
    · have hp : pathOf s.data.toList = if (splitOn 47 r).all nameOk then some (splitOn 47 r) else none := by
        rw [hr, pathOf_cons, if_pos ⟨rfl, by omega⟩, if_neg hr0]
      cases ha : (splitOn 47 r).all nameOk with
      | false =>
        have hd : docWalk (nds T) s.data.toList = (0, ⟨#[]⟩, 0, 8) := by unfold docWalk; rw [hp, ha]; rfl
        rw [hd]
        refine (find_err tb s w fun W hW => (split_some s r W (hmx.bel hW) hr hr0 h60).mono ?_).mono ?_
        · rintro e w' ⟨k, h1, _⟩
          exact ⟨h1 ha, k⟩
        · rintro e w' ⟨rfl, k⟩
          exact ⟨rfl, k⟩
      | true =>
        have hd : docWalk (nds T) s.data.toList = walkF (nds T) 1 (splitOn 47 r) := by unfold docWalk; rw [hp, ha]; rfl
        rw [hd]
        refine find_ok tb A T t s _ w hT ht (fun x hx => ?_) (by have := splitOn_len 47 r; omega) fun W hW => (split_some s r W (hmx.bel hW) hr hr0 h60).mono ?_
        · have := List.all_eq_true.1 ha x hx
          simp only [nameOk, Bool.and_eq_true, decide_eq_true_eq] at this
          omega
        · rintro e w' ⟨k, _, h2⟩
          obtain ⟨rfl, hB⟩ := h2 ha
          refine ⟨⟨_, rfl, _, rfl, fun j x hx => ⟨_, rfl, ?_⟩⟩, k⟩
          rw [hB.cell, List.getElem?_map, hx]
          rfl
  · have h2 : ∀ r, s.data.toList = 47 :: r → 60 < s.size := fun r hr => Classical.byContradiction fun hc => h ⟨r, hr, by omega⟩
    rw [hno h2]
    refine (find_err tb s w fun W hW => split_no s W h2).mono ?_
    rintro e w' ⟨rfl, k⟩
    exact ⟨rfl, k⟩
end Go.Proofs.YtkcjafnaephjiaaGreatDoor

/- The program's Room. -/
namespace Go.Proofs.YtkcjafnaephjiaaGreatDoor
open Go.RowKit Go.MapKept Go.Maps
set_option maxRecDepth 100000

def roomB (t : TN) (a b : Int) : Bool := decide (t.inodes + a ≤ t.most) && decide (t.bytes + b ≤ t.mostBytes)
structure TN.ok (t : TN) : Prop where
  inodes : t.inodes ≤ 1000000
  bytes : t.bytes ≤ 10000000
  most : -10000000 ≤ t.most ∧ t.most ≤ 10000000
  mostBytes : -10000000 ≤ t.mostBytes ∧ t.mostBytes ≤ 10000000

set_option maxHeartbeats 4000000 in
theorem room_any (tb : Nat) (A : Adr) (t : TN) (a b : Int) (w : World) (hT : Blk w tb (t.cells A) 175) (ht : t.ok) (ha : 0 ≤ a ∧ a ≤ 10000000) (hb : 0 ≤ b ∧ b ≤ 10000000) :
    Calls Tryz.prog 60 #[.pointer (some ⟨tb, 0, none⟩), .int .i64 a, .int .i64 b] w fun e w' => e = .returned (.bool (roomB t a b)) ∧ ∃ n, w' = w.drewN n := by
  have c1 : w.cell? ⟨tb, 1, none⟩ = some (.int .i64 (t.inodes : Int)) := hT.cell 1
  have c2 : w.cell? ⟨tb, 2, none⟩ = some (.int .i64 (t.bytes : Int)) := hT.cell 2
  have c3 : w.cell? ⟨tb, 3, none⟩ = some (.int .i64 t.most) := hT.cell 3
  have c4 : w.cell? ⟨tb, 4, none⟩ = some (.int .i64 t.mostBytes) := hT.cell 4
  obtain ⟨o1, o2, o3, o4⟩ := ht
  have w1 : IntKind.i64.wrap ((t.inodes : Int) + a) = (t.inodes : Int) + a := by rw [IntKind.wrap_i64]; omega
  have w2 : IntKind.i64.wrap ((t.bytes : Int) + b) = (t.bytes : Int) + b := by rw [IntKind.wrap_i64]; omega
  clear hT
  by_cases h1 : (t.inodes : Int) + a ≤ t.most
  · by_cases h2 : (t.bytes : Int) + b ≤ t.mostBytes
    · have HR : Hid (roomB t a b = true) := Lib.hid (by unfold roomB; simp [h1, h2])
      have d1 : decide ((t.inodes : Int) + a ≤ t.most) = true := by simpa using h1
      have d2 : decide ((t.bytes : Int) + b ≤ t.mostBytes) = true := by simpa using h2
      generalize ((t.inodes : Nat) : Int) = x at *
      generalize ((t.bytes : Nat) : Int) = y at *
      clear h1 h2
      go_enter Tryz.func60, Tryz.ntmps60
      go_upto_region 1 with fail
      go_quiet (fail)
      go_wp2
      go_ret
      exact ⟨by rw [HR.out]; rfl, nq, rfl⟩
    · have HR : Hid (roomB t a b = false) := Lib.hid (by unfold roomB; simp [h2])
      have d1 : decide ((t.inodes : Int) + a ≤ t.most) = true := by simpa using h1
      have d2 : decide ((t.bytes : Int) + b ≤ t.mostBytes) = false := by simpa using h2
      generalize ((t.inodes : Nat) : Int) = x at *
      generalize ((t.bytes : Nat) : Int) = y at *
      clear h1 h2
      go_enter Tryz.func60, Tryz.ntmps60
      go_upto_region 1 with fail
      go_quiet (fail)
      go_wp2
      go_ret
      exact ⟨by rw [HR.out]; rfl, nq, rfl⟩
  · have HR : Hid (roomB t a b = false) := Lib.hid (by unfold roomB; simp [h1])
    have d1 : decide ((t.inodes : Int) + a ≤ t.most) = false := by simpa using h1
    generalize ((t.inodes : Nat) : Int) = x at *
    generalize ((t.bytes : Nat) : Int) = y at *
    clear h1
    go_enter Tryz.func60, Tryz.ntmps60
    go_upto_region 1 with fail
    go_quiet (fail)
    go_wp2
    go_ret
    exact ⟨by rw [HR.out]; rfl, nq, rfl⟩
theorem room_bel (tb : Nat) (A : Adr) (t : TN) (a b : Int) (w : World) (hT : Blk w tb (t.cells A) 175) (ht : t.ok) (ha : 0 ≤ a ∧ a ≤ 10000000) (hb : 0 ≤ b ∧ b ≤ 10000000) :
    Calls Tryz.prog 60 #[.pointer (some ⟨tb, 0, none⟩), .int .i64 a, .int .i64 b] w fun e w' => e = .returned (.bool (roomB t a b)) ∧ Bel w w' := by
  refine (room_any tb A t a b w hT ht ha hb).mono ?_
  rintro e w' ⟨rfl, n, rfl⟩
  exact ⟨rfl, bel_drewN (Bel.refl w) n⟩
end Go.Proofs.YtkcjafnaephjiaaGreatDoor
