/- The program's Make, Mkdir. -/
import Derived.Test.YtkcjafnaephjiaaGreatDoorPart08
set_option linter.unusedVariables false
set_option linter.unusedSimpArgs false
namespace Go.Proofs.YtkcjafnaephjiaaGreatDoor
open Go.RowKit Go.MapKept Go.Maps
set_option maxRecDepth 100000

def newPn (d : Nat) (nm : ByteArray) (is : Bool) : Pn := ⟨d, nm, is, [], .slice none 0 0, 0, false⟩
/-- What Make leaves behind it. -/
structure Made (A : Adr) (T : List Pn) (t : TN) (tb d : Nat) (nm : ByteArray) (is : Bool) (w : World) (nb mb : Nat) (w' : World) : Prop where
  tree : PTree w' (A.add (T.length + 1) nb mb) (T ++ [newPn d nm is])
  block : Blk w' tb ({ t with inodes := t.inodes + 1 }.cells (A.add (T.length + 1) nb mb)) 175
  keep : Keep (fun q => q = tb ∨ q = A.mb d) w w'
  nbge : w.heap.size ≤ nb
  mbge : w.heap.size ≤ mb

set_option maxHeartbeats 8000000 in
theorem make_full (tb : Nat) (A : Adr) (t : TN) (d : Nat) (nm : ByteArray) (is : Bool) (w : World) (hT : Blk w tb (t.cells A) 175) (ht : t.ok) (hf : roomB t 1 0 = false) :
    Calls Tryz.prog 58 #[.pointer (some ⟨tb, 0, none⟩), .agg #[A.ptr d, .string nm, .pointer none], .bool is] w fun e w' => e = .returned (.tuple #[.pointer none, errN 12]) ∧ Bel w w' := by
  have HR := Lib.hid fun W hW => hf ▸ room_bel tb A t 1 0 W (hT.bel hW) ht (by omega) (by omega)
  obtain ⟨p, hp⟩ : ∃ p, A.at_ d = p := ⟨_, rfl⟩
  have hpp : A.ptr d = .pointer p := by rw [← hp]; rfl
  rw [hpp]
  clear hT ht hf hp hpp
  go_enter Tryz.func58, Tryz.ntmps58
  go_upto_region 1 with fail
  have k1 : Bel w (w.alloc (.cells #[.pointer p, .string nm, .pointer none] 180)) := Bel.start w _
  generalize w.alloc (.cells #[.pointer p, .string nm, .pointer none] 180) = w1 at *
  have K1 := Lib.hid k1
  clear k1
  go_wp2_with (go_at_call 60; ((with_reducible refine Calls.mono (HR.out w1 K1.out) ?_); rintro e w2 ⟨rfl, kd⟩))
  go_ret2
  exact ⟨rfl, K1.out.tr kd⟩

theorem inodeInfoP : (Tryz.prog.info? 173).map (fun i => (i.size, i.bytes, (i.zero.map (·.cells.size)))) = some (6, 72, some 6) := by kernel_rfl

set_option maxHeartbeats 16000000 in
theorem make_ok (tb : Nat) (A : Adr) (T : List Pn) (t : TN) (d : Nat) (D : Pn) (nm : ByteArray) (is : Bool) (w : World) (hT : Blk w tb (t.cells A) 175) (hP : PTree w A T) (ht : t.ok) (hf : roomB t 1 0 = true)
    (hD : T[d]? = some D) (hDd : D.dir = true) (hnew : child (nds T) (d + 1) nm = 0) (hnm : nameOk nm.data.toList = true ∧ (47 : UInt8) ∉ nm.data.toList) (hfew : T.length + 1 ≤ 100000) :
    Calls Tryz.prog 58 #[.pointer (some ⟨tb, 0, none⟩), .agg #[A.ptr (d + 1), .string nm, .pointer none], .bool is] w fun e w' => ∃ nb mb, e = .returned (.tuple #[.pointer (some ⟨nb, 0, none⟩), .nilIface]) ∧ Made A T t tb (d + 1) nm is w nb mb w' := by
  have HR := Lib.hid fun W hW => hf ▸ room_bel tb A t 1 0 W (hT.bel hW) ht (by omega) (by omega)
  have HTI := Lib.hid ht
  have hdl : d < T.length := (List.getElem?_eq_some_iff.1 hD).1
  have hti := ht.inodes
  obtain ⟨p, hp⟩ : ∃ p, A.at_ (d + 1) = some ⟨p, 0, none⟩ := ⟨A.nb (d + 1), by simp [Adr.at_]⟩
  have hpe : p = A.nb (d + 1) := by have : some (⟨A.nb (d + 1), 0, none⟩ : Addr) = some ⟨p, 0, none⟩ := by rw [← hp]; simp [Adr.at_]
                                    injection this with h; injection h with h; exact h.symm
  have hpp : A.ptr (d + 1) = .pointer (some ⟨p, 0, none⟩) := by rw [← hp]; rfl
  rw [hpp]
  have cI : w.cell? ⟨p, 2, none⟩ = some (.map (some (A.mb (d + 1)))) := by
    have := (hP.node d D hD).cell 2
    rw [← hpe] at this
    rw [this]
    simp [Pn.cells, Pn.map, hDd]
  have HCI := Lib.hid cI
  have HT := Lib.hid hT
  have HPT := Lib.hid hP
  have HD := Lib.hid hD
  have HDD := Lib.hid hDd
  have HNEW := Lib.hid hnew
  have HNM := Lib.hid hnm
  have HPP := Lib.hid hpp
  have HPE := Lib.hid hpe
  clear hT ht hf hp hpp hP hD hDd hnew hnm hpe cI
  go_enter Tryz.func58, Tryz.ntmps58
  go_upto_region 1 with fail
  have k1 : Bel w (w.alloc (.cells #[.pointer (some ⟨p, 0, none⟩), .string nm, .pointer none] 180)) := Bel.start w _
  have B1 := Blk.new w [.pointer (some ⟨p, 0, none⟩), .string nm, .pointer none] 180
  generalize w.alloc (.cells #[.pointer (some ⟨p, 0, none⟩), .string nm, .pointer none] 180) = w1 at *
  obtain ⟨g4, hg4⟩ : ∃ g, w.heap.size = g := ⟨_, rfl⟩
  rw [hg4] at B1 ⊢
  have HG4 := Lib.hid hg4
  have HB1 := Lib.hid B1
  have K1 := Lib.hid k1
  clear k1 B1 hg4
  go_upto_region 3 with (go_at_call 60; ((with_reducible refine Calls.mono (HR.out w1 K1.out) ?_); rintro e w2 ⟨rfl, kd⟩))
  have B2 := HB1.out.bel kd
  have c0 : w2.cell? ⟨g4, 0, none⟩ = some (.pointer (some ⟨p, 0, none⟩)) := B2.cell 0
  have c1 : w2.cell? ⟨g4, 1, none⟩ = some (.string nm) := B2.cell 1
  have HB2 := Lib.hid B2
  have K2 := Lib.hid (K1.out.tr kd)
  clear B2 kd HB1
  go_upto_region 4 with fail
  have k3 : Bel w2 (w2.alloc (.cells #[.string nm, .pointer (some ⟨p, 0, none⟩), .map none, .slice none 0 0, .int .i64 0, .bool false] 173)) := Bel.start w2 _
  have B3 := Blk.new w2 [.string nm, .pointer (some ⟨p, 0, none⟩), .map none, .slice none 0 0, .int .i64 0, .bool false] 173
  generalize w2.alloc (.cells #[.string nm, .pointer (some ⟨p, 0, none⟩), .map none, .slice none 0 0, .int .i64 0, .bool false] 173) = w3 at *
  obtain ⟨nb, hnb⟩ : ∃ g, w2.heap.size = g := ⟨_, rfl⟩
  rw [hnb] at B3 ⊢
  have hnbge : w.heap.size ≤ nb := by rw [← hnb]; exact K2.out.size
  have HB3 := Lib.hid B3
  have K3 := Lib.hid (K2.out.tr k3)
  have HBG3 := Lib.hid (HB2.out.bel k3)
  have hl3 := B3.lt
  have f3 := B3.frozen
  have hg4n : g4 < nb := by rw [← hnb]; exact HB2.out.lt
  clear k3 B3 hnb c0 c1
  have HBT3 := Lib.hid (HT.out.bel K3.out)
  have HPT3 := Lib.hid (HPT.out.bel K3.out)
  have cI3 : w3.cell? ⟨p, 2, none⟩ = some (.map (some (A.mb (d + 1)))) := cell_bel K3.out HCI.out
  have cg0 : w3.cell? ⟨g4, 0, none⟩ = some (.pointer (some ⟨p, 0, none⟩)) := HBG3.out.cell 0
  have cg1 : w3.cell? ⟨g4, 1, none⟩ = some (.string nm) := HBG3.out.cell 1
  have ct1 : w3.cell? ⟨tb, 1, none⟩ = some (.int .i64 (t.inodes : Int)) := HBT3.out.cell 1
  have ft := HBT3.out.frozen
  have hnm1 : nm.size ≤ maxLen := by
    have := HNM.out.1
    simp only [nameOk, Bool.and_eq_true, decide_eq_true_eq] at this
    have h2 : nm.data.toList.length = nm.size := by simp
    rw [h2] at this
    unfold maxLen
    omega
  have hpn : p ≠ nb := by have := World.block_lt_of_cell? _ _ HCI.out; simp at this; omega
  cases is with
  | false =>
    have HB4 : Hid (Blk w3 nb ((newPn (d + 1) nm false).cells (A.add (T.length + 1) nb w.heap.size) (T.length + 1)) 173) := Lib.hid (by
      have := HB3.out
      rw [← HPP.out, ptr_congr (A := A) (B := A.add (T.length + 1) nb w.heap.size) fun _ => (Adr.add_nb _ _ _ _ _ (by omega)).symm] at this
      exact this)
    have HPT4 := HPT3
    have HBT4 := HBT3
    have K4 := K3
    have HMB : Hid (w.heap.size ≤ w.heap.size) := Lib.hid (Nat.le_refl _)
    have cI4 := cI3
    clear cI3
    generalize w3 = w4 at *
    have hkd := (HPT4.out.bel (Bel.drew (Bel.refl w4))).kids d D HD.out HDD.out
    obtain ⟨es, clock, hup0, hmp⟩ := hkd.update keyedS Tryz.underlying171 nm hnm1 (.pointer (some ⟨nb, 0, none⟩))
    have hup : (Instr.mapUpdate 171 (.map (some (A.mb (d + 1)))) (.string nm) (.pointer (some ⟨nb, 0, none⟩))).run Tryz.prog w4.drew = .ok () (Go.ChangeMaps.setBlock w4.drew (A.mb (d + 1)) (.map es clock)) := hup0
    obtain ⟨es0, clock0, hb0, _⟩ := hkd
    clear hup0
    have HKB := Lib.hid (Keep.setBlock hb0 (.map es clock))
    have HMP := Lib.hid hmp
    have hne : p ≠ A.mb (d + 1) := fun e => by
      have h1 := (HPT4.out.node d D HD.out).ne_map (HPT4.out.kids d D HD.out HDD.out)
      exact h1 (HPE.out.symm.trans e)
    clear hmp hb0
    go_upto_region 6 with fail
    go_still_tail 8, (by kernel_rfl)
    change wpList _ _ _ _ _ w4.drew
    have HKD : Hid (Bel w4 w4.drew) := Lib.hid (Bel.drew (Bel.refl w4))
    generalize w4.drew = wd at *
    clear cI4 cg0 cg1 ct1
    go_upto_region 7 with fail
    generalize Go.ChangeMaps.setBlock wd (A.mb (d + 1)) (.map es clock) = w5 at *
    have HBT5 : Hid (Blk w5 tb (t.cells A) 175) := Lib.hid ((HBT4.out.bel HKD.out).keep HKB.out (fun e => ((HBT4.out.ne_map (HPT4.out.kids d D HD.out HDD.out)) e).elim))
    have ct1 : w5.cell? ⟨tb, 1, none⟩ = some (.int .i64 (t.inodes : Int)) := HBT5.out.cell 1
    have ft := HBT5.out.frozen
    have hlt5 := HBT5.out.lt
    have hi1 : (0 : Int) ≤ (t.inodes : Int) ∧ (t.inodes : Int) ≤ 1000000 := by omega
    clear hup
    go_wp2
    go_ret2
    have hK : Keep (fun q => q = tb ∨ q = A.mb (d + 1)) w (w5.setCell ⟨tb, 1, none⟩ (.int .i64 ((t.inodes : Int) + 1))) :=
      ((Keep.of_bel _ (K4.out.tr HKD.out)).tr (HKB.out.mono fun _ h => .inr h)).tr ((Keep.setCell w5 tb 1 _).mono fun _ h => .inl h)
    refine ⟨nb, w.heap.size, rfl, ?_, ?_, hK, hnbge, HMB.out⟩
    · have hn5 : Blk w5 nb ((newPn (d + 1) nm false).cells (A.add (T.length + 1) nb w.heap.size) (T.length + 1)) 173 :=
        (HB4.out.bel HKD.out).keep HKB.out (fun e => by have := HPT.out.foot_lt ⟨d, D, HD.out, .inr (.inl ⟨HDD.out, rfl⟩)⟩; omega)
      refine HPT.out.add d D HD.out HDD.out (newPn (d + 1) nm false) nb w.heap.size rfl ⟨rfl, rfl⟩ rfl HNEW.out HNM.out hfew (hn5.setCell_other ?_ _) hnbge ?_ (fun _ => HMB.out) (HMP.out.setCell _) hK ?_
      · have := HB4.out.ne HBT4.out (by decide); exact this
      · intro h; cases h
      · rintro q hq (rfl | rfl)
        · exfalso
          obtain ⟨i, m, hi, h1 | ⟨hd, h1⟩ | h1⟩ := hq
          · exact (HT.out.ne (HPT.out.node i m hi) (by decide)) h1
          · exact (HT.out.ne_map (HPT.out.kids i m hi hd)) h1
          · obtain ⟨_, cur, hb⟩ := (HPT.out.byts i m hi).lt h1
            exact (HT.out.ne hb (by decide)) rfl
        · rfl
    · have := HBT5.out.setCell (o := 1) (.int .i64 ((t.inodes : Int) + 1))
      have e : ({ t with inodes := t.inodes + 1 } : TN).cells (A.add (T.length + 1) nb w.heap.size) = (t.cells A).set 1 (.int .i64 ((t.inodes : Int) + 1)) := by
        simp only [TN.cells, List.set_cons_succ, List.set_cons_zero]
        rw [ptr_congr (A := A.add (T.length + 1) nb w.heap.size) (B := A) fun _ => Adr.add_nb _ _ _ _ _ (by omega)]
        rfl
      rw [e]; exact this
  | true =>
    have hmm : ∀ w, (Instr.makeMap 171 none).run Tryz.prog w = .ok (.map (some w.heap.size)) (w.alloc (.map #[] 0)) := fun w => by kernel_rfl
    have f3b : ∀ o, (w3.alloc (.map #[] 0)).frozen? ⟨nb, o, none⟩ = false := fun o => ((HB3.out.alloc (.map #[] 0)).frozen o)
    have c3b : (w3.alloc (.map #[] 0)).cell? ⟨nb, 2, none⟩ = some (.map none) := (HB3.out.alloc (.map #[] 0)).cell 2
    go_upto_region 6 with fail
    have B4 := (HB3.out.setCell (o := 2) (.map (some w3.heap.size))).alloc (.map #[] 0)
    have k4 : Bel w ((w3.setCell ⟨nb, 2, none⟩ (.map (some w3.heap.size))).alloc (.map #[] 0)) := (K3.out.store (p := ⟨nb, 2, none⟩) hnbge _).ac _
    have M4 : Mp keyS ((w3.setCell ⟨nb, 2, none⟩ (.map (some w3.heap.size))).alloc (.map #[] 0)) w3.heap.size [] := by
      have := Mp.new keyS (w3.setCell ⟨nb, 2, none⟩ (.map (some w3.heap.size)))
      rw [show (w3.setCell ⟨nb, 2, none⟩ (.map (some w3.heap.size))).heap.size = w3.heap.size from by simp [World.setCell]] at this
      exact this
    have G4 := (HBG3.out.setCell_other (a := ⟨nb, 2, none⟩) (by show g4 ≠ nb; omega) (.map (some w3.heap.size))).alloc (.map #[] 0)
    generalize (w3.setCell ⟨nb, 2, none⟩ (.map (some w3.heap.size))).alloc (.map #[] 0) = w4 at *
    obtain ⟨mb, hmb⟩ : ∃ g, w3.heap.size = g := ⟨_, rfl⟩
    rw [hmb] at B4 M4 ⊢
    have HMB : Hid (w.heap.size ≤ mb) := Lib.hid (by rw [← hmb]; exact K3.out.size)
    have HM4 := Lib.hid M4
    have K4 := Lib.hid k4
    have hl3m : w3.heap.size ≤ mb := by omega
    have HB4 : Hid (Blk w4 nb ((newPn (d + 1) nm true).cells (A.add (T.length + 1) nb mb) (T.length + 1)) 173) := Lib.hid (by
      have := B4
      rw [← HPP.out, ptr_congr (A := A) (B := A.add (T.length + 1) nb mb) fun _ => (Adr.add_nb _ _ _ _ _ (by omega)).symm] at this
      simp [newPn, Pn.cells, Pn.map, Adr.add] at this ⊢
      exact this)
    have HPT4 := Lib.hid (HPT.out.bel K4.out)
    have HBT4 := Lib.hid (HT.out.bel K4.out)
    have cI4 : w4.cell? ⟨p, 2, none⟩ = some (.map (some (A.mb (d + 1)))) := cell_bel K4.out HCI.out
    have cg0 : w4.cell? ⟨g4, 0, none⟩ = some (.pointer (some ⟨p, 0, none⟩)) := G4.cell 0
    have cg1 : w4.cell? ⟨g4, 1, none⟩ = some (.string nm) := G4.cell 1
    clear B4 k4 M4 G4 hmb hmm f3b c3b ct1 ft f3
    have hkd := (HPT4.out.bel (Bel.drew (Bel.refl w4))).kids d D HD.out HDD.out
    obtain ⟨es, clock, hup0, hmp⟩ := hkd.update keyedS Tryz.underlying171 nm hnm1 (.pointer (some ⟨nb, 0, none⟩))
    have hup : (Instr.mapUpdate 171 (.map (some (A.mb (d + 1)))) (.string nm) (.pointer (some ⟨nb, 0, none⟩))).run Tryz.prog w4.drew = .ok () (Go.ChangeMaps.setBlock w4.drew (A.mb (d + 1)) (.map es clock)) := hup0
    obtain ⟨es0, clock0, hb0, _⟩ := hkd
    clear hup0
    have HKB := Lib.hid (Keep.setBlock hb0 (.map es clock))
    have HMP := Lib.hid hmp
    have hne : p ≠ A.mb (d + 1) := fun e => by
      have h1 := (HPT4.out.node d D HD.out).ne_map (HPT4.out.kids d D HD.out HDD.out)
      exact h1 (HPE.out.symm.trans e)
    clear hmp hb0
    go_still_tail 8, (by kernel_rfl)
    change wpList _ _ _ _ _ w4.drew
    have HKD : Hid (Bel w4 w4.drew) := Lib.hid (Bel.drew (Bel.refl w4))
    generalize w4.drew = wd at *
    clear cI4 cg0 cg1
    go_upto_region 7 with fail
    generalize Go.ChangeMaps.setBlock wd (A.mb (d + 1)) (.map es clock) = w5 at *
    have HBT5 : Hid (Blk w5 tb (t.cells A) 175) := Lib.hid ((HBT4.out.bel HKD.out).keep HKB.out (fun e => ((HBT4.out.ne_map (HPT4.out.kids d D HD.out HDD.out)) e).elim))
    have ct1 : w5.cell? ⟨tb, 1, none⟩ = some (.int .i64 (t.inodes : Int)) := HBT5.out.cell 1
    have ft := HBT5.out.frozen
    have hlt5 := HBT5.out.lt
    have hi1 : (0 : Int) ≤ (t.inodes : Int) ∧ (t.inodes : Int) ≤ 1000000 := by omega
    clear hup
    go_wp2
    go_ret2
    have hK : Keep (fun q => q = tb ∨ q = A.mb (d + 1)) w (w5.setCell ⟨tb, 1, none⟩ (.int .i64 ((t.inodes : Int) + 1))) :=
      ((Keep.of_bel _ (K4.out.tr HKD.out)).tr (HKB.out.mono fun _ h => .inr h)).tr ((Keep.setCell w5 tb 1 _).mono fun _ h => .inl h)
    refine ⟨nb, mb, rfl, ?_, ?_, hK, hnbge, HMB.out⟩
    · have hn5 : Blk w5 nb ((newPn (d + 1) nm true).cells (A.add (T.length + 1) nb mb) (T.length + 1)) 173 :=
        (HB4.out.bel HKD.out).keep HKB.out (fun e => by have := HPT.out.foot_lt ⟨d, D, HD.out, .inr (.inl ⟨HDD.out, rfl⟩)⟩; omega)
      refine HPT.out.add d D HD.out HDD.out (newPn (d + 1) nm true) nb mb rfl ⟨rfl, rfl⟩ rfl HNEW.out HNM.out hfew (hn5.setCell_other ?_ _) hnbge ?_ (fun _ => HMB.out) (HMP.out.setCell _) hK ?_
      · have := HB4.out.ne HBT4.out (by decide); exact this
      · intro _
        have h1 : A.mb (d + 1) ≠ mb := fun e => by have := HPT.out.foot_lt ⟨d, D, HD.out, .inr (.inl ⟨HDD.out, rfl⟩)⟩; have := HMB.out; omega
        exact ((HM4.out.bel HKD.out).of_block (HKB.out.block _ (HM4.out.bel HKD.out).lt (fun e => h1 e.symm))).setCell _
      · rintro q hq (rfl | rfl)
        · exfalso
          obtain ⟨i, m, hi, h1 | ⟨hd, h1⟩ | h1⟩ := hq
          · exact (HT.out.ne (HPT.out.node i m hi) (by decide)) h1
          · exact (HT.out.ne_map (HPT.out.kids i m hi hd)) h1
          · obtain ⟨_, cur, hb⟩ := (HPT.out.byts i m hi).lt h1
            exact (HT.out.ne hb (by decide)) rfl
        · rfl
    · have := HBT5.out.setCell (o := 1) (.int .i64 ((t.inodes : Int) + 1))
      have e : ({ t with inodes := t.inodes + 1 } : TN).cells (A.add (T.length + 1) nb mb) = (t.cells A).set 1 (.int .i64 ((t.inodes : Int) + 1)) := by
        simp only [TN.cells, List.set_cons_succ, List.set_cons_zero]
        rw [ptr_congr (A := A.add (T.length + 1) nb mb) (B := A) fun _ => Adr.add_nb _ _ _ _ _ (by omega)]
        rfl
      rw [e]; exact this
end Go.Proofs.YtkcjafnaephjiaaGreatDoor

/- Boot's files, in plain words: what a file does to the tree; the tree's state. -/
namespace Go.Proofs.YtkcjafnaephjiaaGreatDoor
open Go.RowKit Go.MapKept Go.Maps
set_option maxRecDepth 100000

def Nd.sk (n : Nd) : Nd := { n with bv := emptyB }
def sks (L : List Nd) : List Nd := L.map Nd.sk
def sumB (N : List Nd) : Nat := (N.map fun n => n.byt.length).sum
theorem childF_sk (d : Nat) (s : ByteArray) : ∀ (i : Nat) (L : List Nd), childF d s i (sks L) = childF d s i L
  | _, [] => rfl
  | i, n :: L => by
    have ih := childF_sk d s (i + 1) L
    unfold sks at *
    simp only [List.map_cons, childF, ih]
    rfl
theorem child_sk (L : List Nd) (d : Nat) (s : ByteArray) : child (sks L) d s = child L d s := childF_sk d s 0 L
theorem isDir_sk (L : List Nd) (n : Nat) : isDir (sks L) n = isDir L n := by
  unfold isDir sks
  rw [List.getElem?_map]
  cases L[n - 1]? <;> rfl
theorem walkF_sk (L : List Nd) : ∀ (l : List (List UInt8)) (d : Nat), walkF (sks L) d l = walkF L d l
  | [], _ => rfl
  | [x], d => by simp only [walkF, child_sk]
  | x :: y :: t, d => by
    have ih := walkF_sk L (y :: t) (child L d ⟨x.toArray⟩)
    simp only [walkF, child_sk, isDir_sk, ih]
theorem docWalk_sk (L : List Nd) (s : List UInt8) : docWalk (sks L) s = docWalk L s := by
  unfold docWalk
  cases pathOf s with
  | none => rfl
  | some l => exact walkF_sk L l 1

theorem childF_get (d : Nat) (s : ByteArray) : ∀ (i : Nat) (L : List Nd), childF d s i L ≠ 0 → ∃ n, L[childF d s i L - 1 - i]? = some n ∧ n.par = d ∧ n.name = s ∧ i < childF d s i L
  | _, [], h => absurd rfl h
  | i, n :: L, h => by
    by_cases hc : n.par = d ∧ n.name = s
    · refine ⟨n, ?_, hc.1, hc.2, ?_⟩ <;> rw [childF, if_pos hc]
      · simp
      · omega
    · rw [childF, if_neg hc] at h ⊢
      obtain ⟨m, h1, h2, h3, h4⟩ := childF_get d s (i + 1) L h
      refine ⟨m, ?_, h2, h3, by omega⟩
      rw [show childF d s (i + 1) L - 1 - i = (childF d s (i + 1) L - 1 - (i + 1)) + 1 from by omega, List.getElem?_cons_succ]
      exact h1
/-- Where a walk that finds no error ends. -/
theorem walkF_spec (L : List Nd) : ∀ (l : List (List UInt8)) (d : Nat), l ≠ [] → d ≠ 0 → isDir L d = true → (walkF L d l).2.2.2 = 0 →
    (walkF L d l).1 ≠ 0 ∧ isDir L (walkF L d l).1 = true ∧ (walkF L d l).2.2.1 = child L (walkF L d l).1 (walkF L d l).2.1 ∧ ∃ x ∈ l, (walkF L d l).2.1 = ⟨x.toArray⟩
  | [], _, h, _, _, _ => absurd rfl h
  | [x], d, _, hd, hi, _ => ⟨hd, hi, rfl, x, by simp, rfl⟩
  | x :: y :: t, d, _, hd, hi, he => by
    simp only [walkF] at he ⊢
    by_cases h0 : child L d ⟨x.toArray⟩ = 0
    · rw [if_pos h0] at he; cases he
    · rw [if_neg h0] at he ⊢
      cases hc : isDir L (child L d ⟨x.toArray⟩) with
      | false => rw [hc] at he; cases he
      | true =>
        rw [hc] at he
        simp only [if_true] at he ⊢
        obtain ⟨h1, h2, h3, z, h4, h5⟩ := walkF_spec L (y :: t) _ (by simp) h0 hc he
        exact ⟨h1, h2, h3, z, by simp only [List.mem_cons] at h4 ⊢; exact .inr h4, h5⟩
theorem isDir_lt {L : List Nd} {n : Nat} (h : isDir L n = true) : ∃ x, L[n - 1]? = some x ∧ x.dir = true := by
  unfold isDir at h
  cases hx : L[n - 1]? with
  | none => rw [hx] at h; cases h
  | some x => rw [hx] at h; exact ⟨x, rfl, h⟩
theorem docWalk_new {L : List Nd} {s : List UInt8} (hr : isDir L 1 = true) (he : (docWalk L s).2.2.2 = 0) (hn : (docWalk L s).2.2.1 = 0) :
    (docWalk L s).1 ≠ 0 ∧ isDir L (docWalk L s).1 = true ∧ child L (docWalk L s).1 (docWalk L s).2.1 = 0 ∧ nameOk (docWalk L s).2.1.data.toList = true ∧ (47 : UInt8) ∉ (docWalk L s).2.1.data.toList := by
  unfold docWalk at *
  cases hp : pathOf s with
  | none => rw [hp] at he; cases he
  | some l =>
    rw [hp] at he hn
    simp only at he hn ⊢
    have hne : l ≠ [] := by
      rintro rfl
      cases hn
    obtain ⟨h1, h2, h3, x, h4, h5⟩ := walkF_spec L l 1 hne (by decide) hr he
    refine ⟨h1, h2, by rw [← h3]; exact hn, ?_⟩
    rw [h5]
    simp only [List.toList_toArray]
    cases s with
    | nil => cases hp
    | cons b r =>
      rw [pathOf_cons] at hp
      split at hp
      · split at hp
        · cases hp; cases h4
        · split at hp
          · cases hp
            rename_i ha
            exact ⟨List.all_eq_true.1 ha x h4, splitOn_no 47 r x h4⟩
          · cases hp
      · cases hp
theorem docWalk_old {L : List Nd} {s : List UInt8} (hr : isDir L 1 = true) (he : (docWalk L s).2.2.2 = 0) : (docWalk L s).2.2.1 ≤ L.length := by
  have h1 : 1 ≤ L.length := by
    obtain ⟨x, hx, _⟩ := isDir_lt hr
    have := (List.getElem?_eq_some_iff.1 hx).1
    omega
  unfold docWalk at *
  cases hp : pathOf s with
  | none => simp
  | some l =>
    rw [hp] at he
    simp only at he ⊢
    by_cases hne : l = []
    · subst hne; exact h1
    · obtain ⟨_, _, h3, _⟩ := walkF_spec L l 1 hne (by decide) hr he
      rw [h3]; exact child_le _ _ _

/-- A file's bytes are laid over what is there. -/
def putB (mb : Nat) (N : List Nd) (n : Nat) (b : List Int) : Nat × List Nd :=
  match N[n - 1]? with
  | none => (11, N)
  | some x => if x.dir then (11, N) else if 0 < b.length ∧ mb < sumB N + (b.length - x.byt.length) then (12, N) else (0, N.set (n - 1) { x with byt := b ++ x.byt.drop b.length })
def mkF (mi : Nat) (N : List Nd) (path : List UInt8) : Nat × List Nd :=
  if (docWalk N path).2.2.2 ≠ 0 then ((docWalk N path).2.2.2, N) else if (docWalk N path).2.2.1 ≠ 0 then (10, N) else if mi ≤ N.length then (12, N)
  else (0, N ++ [⟨(docWalk N path).1, (docWalk N path).2.1, true, [], emptyB⟩])
/-- What one of Boot's files does: the error (0: none), the tree behind it. -/
def fileF (mi mb : Nat) (N : List Nd) (path : List UInt8) (is : Bool) (b : List Int) : Nat × List Nd :=
  if is then mkF mi N path
  else if (docWalk N path).2.2.2 ≠ 0 then ((docWalk N path).2.2.2, N)
  else if (docWalk N path).2.2.1 = 0 then
    if mi ≤ N.length then (12, N) else putB mb (N ++ [⟨(docWalk N path).1, (docWalk N path).2.1, false, [], emptyB⟩]) (N.length + 1) b
  else putB mb N (docWalk N path).2.2.1 b

/-- The program's tree with its numbers. -/
structure PT (w : World) (tb : Nat) (A : Adr) (T : List Pn) (mi mb : Nat) : Prop where
  tree : PTree w A T
  block : Blk w tb ((⟨T.length, sumB (nds T), mi, mb⟩ : TN).cells A) 175
  few : T.length ≤ mi
  small : sumB (nds T) ≤ mb
  mi : mi ≤ 100000
  mb : mb ≤ 100000
def Foot (tb : Nat) (A : Adr) (T : List Pn) (q : Nat) : Prop := q = tb ∨ TFoot A T q
theorem PT.ok {w : World} {tb : Nat} {A : Adr} {T : List Pn} {mi mb : Nat} (h : PT w tb A T mi mb) : (⟨T.length, sumB (nds T), mi, mb⟩ : TN).ok :=
  ⟨by have := h.few; have := h.mi; show T.length ≤ _; omega, by have := h.small; have := h.mb; show sumB (nds T) ≤ _; omega, by have := h.mi; show -10000000 ≤ ((mi : Nat) : Int) ∧ ((mi : Nat) : Int) ≤ 10000000; omega, by have := h.mb; show -10000000 ≤ ((mb : Nat) : Int) ∧ ((mb : Nat) : Int) ≤ 10000000; omega⟩
theorem PT.foot_lt {w : World} {tb : Nat} {A : Adr} {T : List Pn} {mi mb : Nat} (h : PT w tb A T mi mb) {q : Nat} (hq : Foot tb A T q) : q < w.heap.size := by
  rcases hq with rfl | hq
  · exact h.block.lt
  · exact h.tree.foot_lt hq
theorem PT.keep {S : Nat → Prop} {w w' : World} {tb : Nat} {A : Adr} {T : List Pn} {mi mb : Nat} (h : PT w tb A T mi mb) (k : Keep S w w') (hs : ∀ q, Foot tb A T q → ¬ S q) : PT w' tb A T mi mb :=
  ⟨h.tree.keep k fun q hq => hs q (.inr hq), h.block.keep k (hs _ (.inl rfl)), h.few, h.small, h.mi, h.mb⟩
theorem PT.bel {w w' : World} {tb : Nat} {A : Adr} {T : List Pn} {mi mb : Nat} (h : PT w tb A T mi mb) (k : Bel w w') : PT w' tb A T mi mb := h.keep (Keep.of_bel (fun _ => False) k) (fun _ _ h => h)
theorem PTree.isRoot {w : World} {A : Adr} {T : List Pn} (h : PTree w A T) : isDir (nds T) 1 = true := by
  obtain ⟨r, h0, _, h1, _⟩ := h.root
  rw [nd_dir T 0 r h0]; exact h1
theorem nds_app (T U : List Pn) : nds (T ++ U) = nds T ++ nds U := by simp [nds]
theorem sumB_app (N M : List Nd) : sumB (N ++ M) = sumB N + sumB M := by simp [sumB]
/-- Behind a step: the tree is N', in blocks that were its own or are new. -/
structure PStep (w : World) (tb : Nat) (A : Adr) (T : List Pn) (mi mb : Nat) (N' : List Nd) (A' : Adr) (T' : List Pn) (w' : World) : Prop where
  pt : PT w' tb A' T' mi mb
  nds : nds T' = N'
  keep : Keep (Foot tb A T) w w'
  foot : ∀ q, Foot tb A' T' q → Foot tb A T q ∨ w.heap.size ≤ q
theorem PStep.refl {w w' : World} {tb : Nat} {A : Adr} {T : List Pn} {mi mb : Nat} (h : PT w tb A T mi mb) (k : Bel w w') : PStep w tb A T mi mb (Go.Proofs.YtkcjafnaephjiaaGreatDoor.nds T) A T w' := ⟨h.bel k, rfl, Keep.of_bel _ k, fun _ h => .inl h⟩
theorem PStep.tr {w w1 w2 : World} {tb : Nat} {A A1 A2 : Adr} {T T1 T2 : List Pn} {mi mb : Nat} {N1 N2 : List Nd} (h : PStep w tb A T mi mb N1 A1 T1 w1) (k : PStep w1 tb A1 T1 mi mb N2 A2 T2 w2) : PStep w tb A T mi mb N2 A2 T2 w2 :=
  ⟨k.pt, k.nds, h.keep.tr_new k.keep h.foot, fun q hq => by
    rcases k.foot q hq with h1 | h1
    · exact h.foot q h1
    · exact .inr (Nat.le_trans h.keep.size h1)⟩
theorem Made.step {w w' : World} {A : Adr} {T : List Pn} {tb d nb mb mi mx : Nat} {nm : ByteArray} {is : Bool} (h : PT w tb A T mi mx) (D : Pn) (hD : T[d]? = some D) (hDd : D.dir = true) (hroom : T.length < mi)
    (k : Made A T ⟨T.length, sumB (nds T), mi, mx⟩ tb (d + 1) nm is w nb mb w') : PStep w tb A T mi mx (nds T ++ [⟨d + 1, nm, is, [], emptyB⟩]) (A.add (T.length + 1) nb mb) (T ++ [newPn (d + 1) nm is]) w' := by
  have hn : nds (T ++ [newPn (d + 1) nm is]) = nds T ++ [⟨d + 1, nm, is, [], emptyB⟩] := by rw [nds_app]; rfl
  have hs : sumB (nds (T ++ [newPn (d + 1) nm is])) = sumB (nds T) := by rw [hn, sumB_app]; rfl
  refine ⟨⟨k.tree, ?_, by simp; omega, by rw [hs]; exact h.small, h.mi, h.mb⟩, hn, ?_, ?_⟩
  · rw [hs]
    have := k.block
    simpa using this
  · exact k.keep.mono fun q hq => by
      rcases hq with rfl | rfl
      · exact .inl rfl
      · exact .inr ⟨d, D, hD, .inr (.inl ⟨hDd, rfl⟩)⟩
  · rintro q (rfl | ⟨i, m, hi, hq⟩)
    · exact .inl (.inl rfl)
    · by_cases h1 : i < T.length
      · rw [List.getElem?_append_left h1] at hi
        rw [Adr.add_nb _ _ _ _ _ (by omega), Adr.add_mb _ _ _ _ _ (by omega)] at hq
        exact .inl (.inr ⟨i, m, hi, hq⟩)
      · rw [List.getElem?_append_right (by omega)] at hi
        have h2 := (List.getElem?_eq_some_iff.1 hi).1
        simp at h2
        have e : i = T.length := by omega
        subst e
        simp at hi
        subst hi
        right
        rcases hq with rfl | ⟨_, rfl⟩ | hq
        · simp [Adr.add]; exact k.nbge
        · simp [Adr.add]; exact k.mbge
        · cases hq
end Go.Proofs.YtkcjafnaephjiaaGreatDoor
