/- The program's file: one of Boot's files. -/
import Derived.Laws.CopyOwn
import Derived.Deep.RegionHeld3
import Derived.Deep.DeepCutAuto
import Derived.StillTailTactics
import Derived.Test.YtkcjafnaephjiaaGreatDoorPart11
import Derived.Test.YtkcjafnaephjiaaGreatDoorPart13
set_option linter.unusedVariables false
set_option linter.unusedSimpArgs false
namespace Go.Proofs.YtkcjafnaephjiaaGreatDoor
open Go.RowKit Go.MapKept Go.Maps
set_option maxRecDepth 100000

theorem wpList_copy_keep {P : Program} {w : World} {ops : Array Oper} {rest : List Oper} {o : Oper} {a : Act} {Q : Exit → Act → World → Prop} (hgd : o.guard = none) (d s : Operand) (dT sT : TypeId)
    (ho : o.op = .call { callee := .builtin .copy, args := #[d, s], argTypes := #[dT, sT] }) (elem : TypeId) (hu : P.underlying dT = some (.slice elem)) (hsz : (P.info? elem).map (·.size) = some 1)
    (g : Nat) (sp : Option Addr) (dLen dCap sLen sCap : Nat) (hd : a.eval d = .slice (some ⟨g, 0, none⟩) dLen dCap) (hs : a.eval s = .slice sp sLen sCap)
    (cur : List Value) (t : TypeId) (hg : Blk w g cur t) (cs : List Value) (hn : cs.length = Nat.min sLen dLen)
    (hpos : 0 < cs.length → ∃ ad, sp = some ad ∧ ∀ j v, cs[j]? = some v → w.cell? (ad.add j) = some v)
    (hfit : cs.length ≤ cur.length) (h1 : ∀ v ∈ cs, v.oneCell' = true)
    (h : ∀ w', Hid (Blk w' g (cs ++ cur.drop cs.length) t) → Keep (fun q => q = g) w w' → wpList P ops Q rest (a.put o.dst (goInt cs.length)) w') :
    wpList P ops Q (o :: rest) a w := by
  have hsp : ∀ cs : List Value, splice cur 0 cs = cs ++ cur.drop cs.length := fun cs => by simp [splice]
  by_cases h0 : cs.length = 0
  · obtain rfl : cs = [] := List.eq_nil_of_length_eq_zero h0
    refine wpList_copy_nothing hgd d s dT sT ho elem hu hsz (some ⟨g, 0, none⟩) sp dLen dCap sLen sCap hd hs (by simpa using hn.symm) ?_
    exact h w (Lib.hid (by simpa using hg)) (Keep.refl _ w)
  · obtain ⟨ad, rfl, hsrc⟩ := hpos (by omega)
    refine wpList_copy_own hgd d s dT sT ho elem hu hsz g 0 dLen dCap ad sLen sCap hd hs cur.toArray t hg cs hn hsrc (by simpa using hfit) h1 ?_
    refine h _ (Lib.hid ?_) (Keep.setRow w g _)
    rw [← hsp]
    show _ = _
    simpa [splice] using setRow_heap w g _ _ t _ hg

/-- A node's bytes written over, in their own block. -/
theorem PT.put {w w' : World} {tb : Nat} {A : Adr} {T : List Pn} {mi mb i g : Nat} {x : Pn} {L : List Int} (h : PT w tb A T mi mb) (hx : T[i]? = some x) (hg : x.bv.ownBlock = some g) (k : Keep (fun q => q = g) w w') (hr : Rw w' x.bv L) (hl : L.length = x.byt.length) :
    PStep w tb A T mi mb ((nds T).set i { x.nd with byt := L }) A (T.set i (x.setB x.bv L)) w' := by
  obtain ⟨_, cur, hb⟩ := (h.tree.byts i x hx).lt hg
  have hnd := (h.tree.node i x hx).keep k (fun e => hb.ne (h.tree.node i x hx) (by decide) e.symm)
  have hnds := nds_set T i x x.bv L
  have hxn : (nds T)[i]? = some x.nd := by unfold nds; rw [List.getElem?_map, hx]; rfl
  have hsum : sumB (nds (T.set i (x.setB x.bv L))) = sumB (nds T) := by
    rw [hnds]
    have := sumB_set (nds T) i x.nd { x.nd with byt := L } hxn
    simp [Pn.nd] at this ⊢
    omega
  refine ⟨⟨h.tree.setB i x hx x.bv L hnd hr (fun g' hg' => .inr hg') k ?_, ?_, by simpa using h.few, by rw [hsum]; exact h.small, h.mi, h.mb⟩, hnds, k.mono ?_, foot_set hx fun g' hg' => .inr hg'⟩
  · rintro q hq rfl; exact .inr hg
  · rw [hsum, List.length_set]
    exact h.block.keep k (fun e => hb.ne h.block (by decide) e.symm)
  · rintro q rfl; exact .inr ⟨i, x, hx, .inr (.inr hg)⟩
theorem PT.put_nil {w w' : World} {tb : Nat} {A : Adr} {T : List Pn} {mi mb i : Nat} {x : Pn} (h : PT w tb A T mi mb) (hx : T[i]? = some x) (k : Bel w w') : PStep w tb A T mi mb ((nds T).set i { x.nd with byt := x.byt }) A T w' := by
  have : (nds T).set i { x.nd with byt := x.byt } = nds T := by
    have hxn : (nds T)[i]? = some x.nd := by unfold nds; rw [List.getElem?_map, hx]; rfl
    obtain ⟨hi, he⟩ := List.getElem?_eq_some_iff.1 hxn
    rw [show ({ x.nd with byt := x.byt } : Nd) = x.nd from rfl, ← he]
    exact List.set_getElem_self hi
  rw [this]
  exact PStep.refl h k

theorem PT.copied {w w' : World} {tb : Nat} {A : Adr} {T : List Pn} {mi mb i g bc : Nat} {x : Pn} {L : List Int} {cur : List Value} (h : PT w tb A T mi mb) (hx : T[i]? = some x) (hl : L.length ≤ x.byt.length) (hL : ∀ y ∈ L, 0 ≤ y ∧ y ≤ 255)
    (hbv : x.bv = .slice (some ⟨g, 0, none⟩) x.byt.length bc) (hB : Blk w g cur 5) (B' : Blk w' g (L.map (Value.int .u8) ++ cur.drop L.length) 5) (k : Keep (fun q => q = g) w w') :
    PStep w tb A T mi mb ((nds T).set i { x.nd with byt := L ++ x.byt.drop L.length }) A (T.set i (x.setB x.bv (L ++ x.byt.drop L.length))) w' := by
  have hlen : (L ++ x.byt.drop L.length).length = x.byt.length := by simp; omega
  refine h.put hx (by rw [hbv]; rfl) k ⟨fun y hy => ?_, .inr ?_⟩ hlen
  · rcases List.mem_append.1 hy with hy | hy
    · exact hL y hy
    · exact (h.tree.byts i x hx).1 y (List.mem_of_mem_drop hy)
  · have hr := (h.tree.byts i x hx).2
    rw [hbv] at hr
    rcases hr with ⟨hr, _⟩ | ⟨g', cap', cur', hr, hb, h1, h2, h3, h4⟩
    · cases hr
    · cases hr
      have hcc : cur' = cur := by
        unfold Blk at hb hB
        rw [hb] at hB
        injection hB with hB
        injection hB with hB
        simpa using hB
      subst hcc
      refine ⟨g, bc, _, by rw [hbv, hlen], B', by rw [hlen]; exact h1, by simp; omega, h3, ?_⟩
      rw [hlen, List.map_append, List.take_append, List.take_of_length_le (by simp; omega), List.map_drop, ← h4, List.length_map, List.drop_take]
theorem PT.not_foot {w : World} {tb : Nat} {A : Adr} {T : List Pn} {mi mb : Nat} (h : PT w tb A T mi mb) {q : Nat} {c : List Value} {t : TypeId} (hb : Blk w q c t) (h1 : t ≠ 175) (h2 : t ≠ 173) (h3 : t ≠ 5) : ¬ Foot tb A T q := by
  rintro (e | ⟨i, m, hi, e | ⟨hd, e⟩ | e⟩)
  · exact hb.ne h.block h1 e
  · exact hb.ne (h.tree.node i m hi) h2 e
  · exact hb.ne_map (h.tree.kids i m hi hd) e
  · obtain ⟨_, cur, hc⟩ := (h.tree.byts i m hi).lt e
    exact hb.ne hc h3 rfl
theorem BS.keep_at {w w' : World} {S : Nat → Prop} {p : Option Addr} {L : List Int} (h : BS w p L) (k : Keep S w w') (hs : ∀ b o, p = some ⟨b, o, none⟩ → ¬ S b) : BS w' p L :=
  ⟨h.1, fun h0 => by
    obtain ⟨b, o, h1, h2, h3⟩ := h.2 h0
    exact ⟨b, o, h1, Nat.lt_of_lt_of_le h2 k.size, h3.keep k (fun _ => hs b o h1)⟩⟩
theorem BS.cells_at {w : World} {p : Option Addr} {L : List Int} (h : BS w p L) (h0 : 0 < (L.map (Value.int .u8)).length) : ∃ ad, p = some ad ∧ ∀ j v, (L.map (Value.int .u8))[j]? = some v → w.cell? (ad.add j) = some v := by
  obtain ⟨b, o, h1, _, h3⟩ := h.2 (by simpa using h0)
  refine ⟨_, h1, fun j v hj => ?_⟩
  have hjl := (List.getElem?_eq_some_iff.1 hj).1
  rw [Addr.add_mid, h3.cell j (by simpa using hjl), ← hj, List.getElem?_map]

set_option maxHeartbeats 8000000 in
theorem file_dir (kb tb : Nat) (s : ByteArray) (bv : Value) (v : Value) (w : World) (Post : World → World → Prop) (hbv : bv.oneCell' = true)
    (hc : w.cell? ⟨kb, 6, none⟩ = some (.pointer (some ⟨tb, 0, none⟩)))
    (hm : ∀ W, Bel w W → Calls Tryz.prog 56 #[.pointer (some ⟨tb, 0, none⟩), .string s] W fun e w' => e = .returned v ∧ Post W w') :
    Calls Tryz.prog 38 #[.pointer (some ⟨kb, 0, none⟩), .agg #[.string s, .bool true, bv]] w fun e w' => e = .returned v ∧ ∃ W, Bel w W ∧ Post W w' := by
  have HM := Lib.hid hm
  have HC := Lib.hid hc
  clear hm hc
  go_enter Tryz.func38, Tryz.ntmps38
  go_upto_region 1 with fail
  have k1 : Bel w (w.alloc (.cells #[.string s, .bool true, bv] 44)) := Bel.start w _
  have B1 := Blk.new w [.string s, .bool true, bv] 44
  generalize w.alloc (.cells #[.string s, .bool true, bv] 44) = w1 at *
  have HK1 := Lib.hid k1
  have c0 : w1.cell? ⟨w.heap.size, 0, none⟩ = some (.string s) := B1.cell 0
  have c1 : w1.cell? ⟨w.heap.size, 1, none⟩ = some (.bool true) := B1.cell 1
  have c6 : w1.cell? ⟨kb, 6, none⟩ = some (.pointer (some ⟨tb, 0, none⟩)) := cell_bel k1 HC.out
  generalize w.heap.size = g at *
  clear k1 B1
  go_upto_region 2 with fail
  go_still_tail 6, (by kernel_rfl)
  change wpList _ _ _ _ _ w1.drew
  have kd : Bel w1 w1.drew := Bel.drew (Bel.refl _)
  generalize w1.drew = wd at *
  have HKD := Lib.hid (HK1.out.tr kd)
  clear kd c0 c1 c6
  go_wp2_with (go_at_call 56; ((with_reducible refine Calls.mono (HM.out wd HKD.out) ?_); rintro e w2 ⟨rfl, hp⟩))
  go_ret
  exact ⟨rfl, wd, HKD.out, hp⟩
/-- At the point where the file's node is there. -/
structure AtNode (w : World) (tb : Nat) (A : Adr) (T : List Pn) (mi mb : Nat) (r : Nat × List Nd) (L : List Int) (w1 : World) (A1 : Adr) (T1 : List Pn) (i : Nat) (x : Pn) : Prop where
  step : PStep w tb A T mi mb (nds T1) A1 T1 w1
  node : T1[i]? = some x
  res : r = putB mb (nds T1) (i + 1) L

def FileRes (w : World) (tb : Nat) (A : Adr) (T : List Pn) (mi mb : Nat) (r : Nat × List Nd) (e : Ending) (w' : World) : Prop := StepRes w tb A T mi mb r e w'

set_option maxHeartbeats 16000000 in
theorem file_node (kb tb : Nat) (A : Adr) (T : List Pn) (mi mb : Nat) (s nm : ByteArray) (p : Option Addr) (cap : Nat) (L : List Int) (d n : Nat) (w : World) (h : PT w tb A T mi mb) (hc : w.cell? ⟨kb, 6, none⟩ = some (.pointer (some ⟨tb, 0, none⟩))) (hkb : ¬ Foot tb A T kb)
    (hbs : BS w p L) (hlen : L.length ≤ 200000) (hbsf : ∀ b o, p = some ⟨b, o, none⟩ → ¬ Foot tb A T b)
    (hf : ∀ W, Bel w W → Calls Tryz.prog 57 #[.pointer (some ⟨tb, 0, none⟩), .string s] W fun e w' => e = .returned (.tuple #[.agg #[A.ptr d, .string nm, A.ptr n], .nilIface]) ∧ Bel W w')
    (r : Nat × List Nd) (hr : if n = 0 then d ≠ 0 ∧ isDir (nds T) d = true ∧ child (nds T) d nm = 0 ∧ nameOk nm.data.toList = true ∧ (47 : UInt8) ∉ nm.data.toList ∧ r = (if mi ≤ T.length then (12, nds T) else putB mb (nds T ++ [⟨d, nm, false, [], emptyB⟩]) (T.length + 1) L) else n ≤ T.length ∧ r = putB mb (nds T) n L) :
    Calls Tryz.prog 38 #[.pointer (some ⟨kb, 0, none⟩), .agg #[.string s, .bool false, .slice p L.length cap]] w fun e w' => FileRes w tb A T mi mb r e w' := by
  have HF := Lib.hid hf
  have HC := Lib.hid hc
  have HPT := Lib.hid h
  have HBS := Lib.hid hbs
  have HBF := Lib.hid hbsf
  have HKB := Lib.hid hkb
  have HR := Lib.hid hr
  obtain ⟨pd, hpd⟩ : ∃ v, A.at_ d = v := ⟨_, rfl⟩
  obtain ⟨pn, hpn⟩ : ∃ v, A.at_ n = v := ⟨_, rfl⟩
  rw [show A.ptr d = .pointer pd from by rw [← hpd]; rfl, show A.ptr n = .pointer pn from by rw [← hpn]; rfl] at HF
  have HPD := Lib.hid hpd
  have HPN := Lib.hid hpn
  clear hf hc h hbs hbsf hkb hr hpd hpn
  go_enter Tryz.func38, Tryz.ntmps38
  go_upto_region 1 with fail
  have k1 : Bel w (w.alloc (.cells #[.string s, .bool false, .slice p L.length cap] 44)) := Bel.start w _
  have B1 := Blk.new w [.string s, .bool false, .slice p L.length cap] 44
  generalize w.alloc (.cells #[.string s, .bool false, .slice p L.length cap] 44) = w1 at *
  obtain ⟨g3, hg3⟩ : ∃ g, w.heap.size = g := ⟨_, rfl⟩
  rw [hg3] at B1 ⊢
  have HG3 := Lib.hid hg3
  have HB1 := Lib.hid B1
  have HK1 := Lib.hid k1
  have c0 : w1.cell? ⟨g3, 0, none⟩ = some (.string s) := B1.cell 0
  have c1 : w1.cell? ⟨g3, 1, none⟩ = some (.bool false) := B1.cell 1
  have c6 : w1.cell? ⟨kb, 6, none⟩ = some (.pointer (some ⟨tb, 0, none⟩)) := cell_bel k1 HC.out
  clear k1 B1 hg3
  go_upto_region 3 with fail
  have hg3l : g3 < w1.heap.size := HB1.out.lt
  have hkl : kb < w1.heap.size := World.block_lt_of_cell? _ _ c6
  go_cut [5, 6] (fun s5 s6 wx => s6 = .nilIface ∧ ∃ g5, s5 = .pointer (some ⟨g5, 0, none⟩) ∧ Hid (Blk wx g5 [.pointer pd, .string nm, .pointer pn] 180) ∧ Hid (Bel w1 wx))
  case first =>
    go_region_with (first
      | (go_at_call 57; ((with_reducible refine Calls.mono (HF.out _ (HK1.out.drew)) ?_); rintro e w2 ⟨rfl, k2⟩; have HK2 : Hid (Bel w1 w2) := Lib.hid ((Bel.drew (Bel.refl w1)).tr k2); have hu : w1.heap.size ≤ w2.heap.size := HK2.out.size; clear k2))
      | (go_at_call 57; ((with_reducible refine Calls.mono (HF.out _ ((HK1.out.ac _).drew)) ?_); rintro e w2 ⟨rfl, k2⟩; have B5 := (Blk.new w1 [.pointer none, .string ⟨#[]⟩, .pointer none] 180).bel ((Bel.drew (Bel.refl _)).tr k2); have HK2 : Hid (Bel w1 w2) := Lib.hid (((Bel.start w1 _).tr (Bel.drew (Bel.refl _))).tr k2); have HB5 := Lib.hid B5; have c50 : w2.cell? ⟨w1.heap.size, 0, none⟩ = some (.pointer none) := B5.cell 0; have c51 : w2.cell? ⟨w1.heap.size, 1, none⟩ = some (.string ⟨#[]⟩) := B5.cell 1; have c52 : w2.cell? ⟨w1.heap.size, 2, none⟩ = some (.pointer none) := B5.cell 2; have f5 := B5.frozen; clear k2 B5)))
    all_goals (go_wp2_with fail; go_meet; first
      | exact ⟨rfl, _, rfl, Lib.hid (Blk.new w2 _ _), Lib.hid (HK2.out.ac _)⟩
      | exact ⟨rfl, _, rfl, Lib.hid (((HB5.out.setCell (o := 0) _).setCell (o := 1) _).setCell (o := 2) _), Lib.hid (((HK2.out.store (p := ⟨w1.heap.size, 0, none⟩) (Nat.le_refl _) _).store (p := ⟨w1.heap.size, 1, none⟩) (Nat.le_refl _) _).store (p := ⟨w1.heap.size, 2, none⟩) (Nat.le_refl _) _)⟩)
  case rest =>
    obtain ⟨rfl, g5, rfl, B5, k5⟩ := hcut
    have HK5 := Lib.hid (HK1.out.tr k5.out)
    have HB5 := Lib.hid B5.out
    have HB3 := Lib.hid (HB1.out.bel k5.out)
    have HPT5 := Lib.hid (HPT.out.bel HK5.out)
    have c52 : wc.cell? ⟨g5, 2, none⟩ = some (.pointer pn) := B5.out.cell 2
    have hg5l : g5 < wc.heap.size := B5.out.lt
    clear c0 c1 c6 hg3l hkl B5 k5
    go_upto_if 34 with fail
    go_cut [6, 7] (fun s6 s7 wx => ∃ nb, s7 = .pointer (some ⟨nb, 0, none⟩) ∧ Hid (∃ (A1 : Adr) (T1 : List Pn) (i : Nat) (x1 : Pn), AtNode w tb A T mi mb r L wx A1 T1 i x1 ∧ A1.nb (i + 1) = nb) ∧ Hid (Blk wx g3 [.string s, .bool false, .slice p L.length cap] 44))
    case first =>
      by_cases hn : n = 0
      · have hr := HR.out
        rw [if_pos hn] at hr
        obtain ⟨r1, r2, r3, r4, r5, r6⟩ := hr
        have hpn : pn = none := by rw [← HPN.out]; simp [Adr.at_, hn]
        subst hpn
        obtain ⟨d, rfl⟩ : ∃ d', d = d' + 1 := ⟨d - 1, by omega⟩
        obtain ⟨y, hy, hyd⟩ := isDir_lt r2
        rw [Nat.add_sub_cancel, nds, List.getElem?_map, Option.map_eq_some_iff] at hy
        obtain ⟨D, hD, rfl⟩ := hy
        have hpd : A.ptr (d + 1) = .pointer pd := by rw [← HPD.out]; rfl
        have c6 : wc.cell? ⟨kb, 6, none⟩ = some (.pointer (some ⟨tb, 0, none⟩)) := cell_bel HK5.out HC.out
        have c50 : wc.cell? ⟨g5, 0, none⟩ = some (.pointer pd) := HB5.out.cell 0
        have c51 : wc.cell? ⟨g5, 1, none⟩ = some (.string nm) := HB5.out.cell 1
        by_cases hm : mi ≤ T.length
        · have HMK : Hid (∀ W, Bel w W → Calls Tryz.prog 58 #[.pointer (some ⟨tb, 0, none⟩), .agg #[.pointer pd, .string nm, .pointer none], .bool false] W fun e w' => e = .returned (.tuple #[.pointer none, errN 12]) ∧ Bel W w') := Lib.hid fun W hW => by
            rw [← hpd]
            refine make_full tb A _ (d + 1) nm false W (HPT.out.bel hW).block (HPT.out.bel hW).ok ?_
            unfold roomB
            simp only [Bool.and_eq_false_iff, decide_eq_false_iff_not]
            left; omega
          rw [if_pos hm] at r6
          have HR6 := Lib.hid r6
          clear r1 r2 r3 r4 r5 r6 hD hyd hpd hm hn
          go_upto_region 8 with fail
          go_region_with (go_at_call 58; ((with_reducible refine Calls.mono (HMK.out _ (HK5.out.drew)) ?_); rintro e w6 ⟨rfl, k6⟩; have HK6 := Lib.hid ((HK5.out.drew).tr k6); clear k6))
          all_goals go_wp2
          all_goals go_ret
          all_goals exact ⟨fun _ => ⟨by rw [HR6.out]; rfl, Keep.of_bel _ HK6.out⟩, fun h => by rw [HR6.out] at h; cases h⟩
        · have HMK : Hid (∀ W, Bel w W → Calls Tryz.prog 58 #[.pointer (some ⟨tb, 0, none⟩), .agg #[.pointer pd, .string nm, .pointer none], .bool false] W fun e w' => ∃ nb mx, e = .returned (.tuple #[.pointer (some ⟨nb, 0, none⟩), .nilIface]) ∧ Made A T ⟨T.length, sumB (nds T), mi, mb⟩ tb (d + 1) nm false W nb mx w') := Lib.hid fun W hW => by
            rw [← hpd]
            have hsm := HPT.out.small
            have hmi := HPT.out.mi
            refine make_ok tb A T _ d D nm false W (HPT.out.bel hW).block (HPT.out.bel hW).tree (HPT.out.bel hW).ok ?_ hD hyd r3 ⟨r4, r5⟩ (by omega)
            unfold roomB
            simp only [Bool.and_eq_true, decide_eq_true_eq]
            omega
          rw [if_neg hm] at r6
          have H3N : Hid (g3 = tb ∨ g3 = A.mb (d + 1) → False) := Lib.hid (by
            rintro (e | e)
            · exact HB3.out.ne HPT5.out.block (by decide) e
            · exact HB3.out.ne_map (HPT5.out.tree.kids d D hD hyd) e)
          have HMS : Hid (∀ W nb mx w', Bel w W → Made A T ⟨T.length, sumB (nds T), mi, mb⟩ tb (d + 1) nm false W nb mx w' → ∃ (A1 : Adr) (T1 : List Pn) (i : Nat) (x1 : Pn), AtNode w tb A T mi mb r L w' A1 T1 i x1 ∧ A1.nb (i + 1) = nb) := Lib.hid fun W nb mx w' hW hM => by
            have hst := Made.step HPT.out D hD hyd (by omega) (hM.of_bel hW)
            refine ⟨_, _, T.length, newPn (d + 1) nm false, ⟨by rw [hst.nds]; exact hst, by simp, ?_⟩, by simp [Adr.add]⟩
            rw [hst.nds]; exact r6
          clear r1 r2 r3 r4 r5 r6 hD hyd hpd hm hn
          go_upto_region 8 with fail
          go_cut [6, 7] (fun s6 s7 wx => s6 = .nilIface ∧ ∃ nb, s7 = .pointer (some ⟨nb, 0, none⟩) ∧ Hid (∃ (A1 : Adr) (T1 : List Pn) (i : Nat) (x1 : Pn), AtNode w tb A T mi mb r L wx A1 T1 i x1 ∧ A1.nb (i + 1) = nb) ∧ Hid (Blk wx g3 [.string s, .bool false, .slice p L.length cap] 44))
          case first =>
            go_region_with (go_at_call 58; ((with_reducible refine Calls.mono (HMK.out _ (HK5.out.drew)) ?_); rintro e w6 ⟨nb, mx, rfl, hM⟩; have HAT := Lib.hid (HMS.out _ _ _ _ (HK5.out.drew) hM); have HB36 := Lib.hid ((HB3.out.bel (Bel.drew (Bel.refl _))).keep hM.keep (fun e => H3N.out e)); clear hM))
            all_goals (go_wp2_with fail; go_meet; exact ⟨rfl, _, rfl, HAT, HB36⟩)
          case rest =>
          obtain ⟨rfl, nb, rfl, HAT, HB36⟩ := hcut
          clear c50 c51 c52 c6
          go_wp2_with fail
          go_meet
          exact ⟨nb, rfl, HAT, HB36⟩
      · have hr := HR.out
        rw [if_neg hn] at hr
        obtain ⟨r1, r2⟩ := hr
        have hpn : pn = some ⟨A.nb n, 0, none⟩ := by rw [← HPN.out]; simp [Adr.at_, hn]
        obtain ⟨nb, hnb⟩ : ∃ b, A.nb n = b := ⟨_, rfl⟩
        rw [hnb] at hpn
        subst hpn
        obtain ⟨x, hx⟩ : ∃ x, T[n - 1]? = some x := ⟨T[n - 1]'(by omega), List.getElem?_eq_getElem (by omega)⟩
        have hat : ∃ (A1 : Adr) (T1 : List Pn) (i : Nat) (x1 : Pn), AtNode w tb A T mi mb r L wc A1 T1 i x1 ∧ A1.nb (i + 1) = nb := ⟨A, T, n - 1, x, ⟨PStep.refl HPT.out HK5.out, hx, by rw [r2, show n - 1 + 1 = n from by omega]⟩, by rw [show n - 1 + 1 = n from by omega]; exact hnb⟩
        have HAT := Lib.hid hat
        clear hat hx hnb r1 r2 hn
        go_wp2_with fail
        go_meet
        exact ⟨nb, rfl, HAT, HB3⟩
    case rest =>
      obtain ⟨nb, rfl, HAT, HB36⟩ := hcut
      go_upto_region 11 with fail
      obtain ⟨A1, T1, i, x, hat, hnb⟩ := HAT.out
      have hpt := hat.step.pt
      have hx := hat.node
      have hres := hat.res
      have hks := hat.step.keep
      have hkl : kb < w.heap.size := World.block_lt_of_cell? _ _ HC.out
      have c6 : wc.cell? ⟨kb, 6, none⟩ = some (.pointer (some ⟨tb, 0, none⟩)) := (hks.cell ⟨kb, 6, none⟩ hkl HKB.out).trans HC.out
      have hbs := HBS.out.keep_at hks HBF.out
      have hnode := hpt.tree.node i x hx
      rw [hnb] at hnode
      have cM : wc.cell? ⟨nb, 2, none⟩ = some (.map (x.map A1 (i + 1))) := hnode.cell 2
      have cB : wc.cell? ⟨nb, 3, none⟩ = some x.bv := hnode.cell 3
      have c32 : wc.cell? ⟨g3, 2, none⟩ = some (.slice p L.length cap) := HB36.out.cell 2
      have hxn : (nds T1)[i]? = some x.nd := by unfold nds; rw [List.getElem?_map, hx]; rfl
      have HST := Lib.hid hat.step
      have HPT1 := Lib.hid hpt
      have HX := Lib.hid hx
      have HNB := Lib.hid hnb
      have HBS1 := Lib.hid hbs
      have hlx : x.byt.length ≤ sumB (nds T1) := by
        have := sumB_set (nds T1) i x.nd { x.nd with byt := [] } hxn
        simp [Pn.nd] at this
        omega
      have hsm := hpt.small
      have hmb := hpt.mb
      have hfew := hpt.few
      unfold putB at hres
      rw [Nat.add_sub_cancel, hxn] at hres
      simp only at hres
      cases hxd : x.dir with
      | true =>
        have HE : Hid (r.1 = 11) := Lib.hid (by rw [hres, show x.nd.dir = true from hxd]; rfl)
        have hm : x.map A1 (i + 1) = some (A1.mb (i + 1)) := by unfold Pn.map; rw [hxd]; rfl
        rw [hm] at cM
        have HD := Lib.hid (dir_any nb (some (A1.mb (i + 1))) wc cM)
        clear hat hpt hx hres hks hkl c6 hbs hnode cM cB c32 hxn hm hxd hnb
        go_wp2_with (go_at_call 59; ((with_reducible refine Calls.mono HD.out ?_); rintro e wx ⟨rfl, h⟩; subst h))
        go_ret
        exact ⟨fun _ => ⟨by rw [HE.out]; rfl, HST.out.keep⟩, fun h => by rw [HE.out] at h; cases h⟩
      | false =>
        rw [if_neg (by rw [show x.nd.dir = false from hxd]; simp)] at hres
        have hm : x.map A1 (i + 1) = none := by unfold Pn.map; rw [hxd]; rfl
        rw [hm] at cM
        have HD := Lib.hid (dir_any nb none wc cM)
        obtain ⟨bp, bc, hbv, hb1, hb2, hb3⟩ := (hpt.tree.byts i x hx).slice
        rw [hbv] at cB
        have HBV := Lib.hid hbv
        have HBN := Lib.hid hb3
        have HRES := Lib.hid hres
        have hw : IntKind.i64.wrap ((L.length : Int) - (x.byt.length : Int)) = (L.length : Int) - (x.byt.length : Int) := by rw [IntKind.wrap_i64]; omega
        clear hat hpt hx hres hks hkl hbs hnode cM hxn hm hxd hnb hbv hb3
        go_upto_region 13 with (go_at_call 59; ((with_reducible refine Calls.mono HD.out ?_); rintro e wx ⟨rfl, h⟩; subst h))
        go_quiet (fail)
        have kd : Bel wc (wc.drewN nq) := bel_drewN (Bel.refl _) nq
        generalize wc.drewN nq = wd at *
        have HKD := Lib.hid kd
        have c6d : wd.cell? ⟨kb, 6, none⟩ = some (.pointer (some ⟨tb, 0, none⟩)) := cell_bel kd c6
        have cBd : wd.cell? ⟨nb, 3, none⟩ = some (.slice bp x.byt.length bc) := cell_bel kd cB
        have c32d : wd.cell? ⟨g3, 2, none⟩ = some (.slice p L.length cap) := cell_bel kd c32
        clear c6 cB c32 kd hw
        by_cases hgt : x.byt.length < L.length
        · have hgp : (0 : Int) < (L.length : Int) - (x.byt.length : Int) := by omega
          have hmo : (L.length : Int) - (x.byt.length : Int) = ((L.length - x.byt.length : Nat) : Int) := by omega
          have HRM := Lib.hid fun W hW => room_bel tb A1 _ 0 ((L.length : Int) - (x.byt.length : Int)) W (HPT1.out.bel hW).block HPT1.out.ok (by omega) (by omega)
          by_cases hroom : mb < sumB (nds T1) + (L.length - x.byt.length)
          · have HE : Hid (r.1 = 12) := Lib.hid (by rw [HRES.out, if_pos ⟨by omega, hroom⟩])
            have HRB : Hid (roomB ⟨T1.length, sumB (nds T1), mi, mb⟩ 0 ((L.length : Int) - (x.byt.length : Int)) = false) := Lib.hid (by
              unfold roomB
              simp only [Bool.and_eq_false_iff, decide_eq_false_iff_not]
              right; omega)
            rw [HRB.out] at HRM
            clear hroom hmo
            go_wp2_with (go_at_call 60; ((with_reducible refine Calls.mono (HRM.out wd HKD.out) ?_); rintro e we ⟨rfl, k6⟩; have HK6 := Lib.hid (HKD.out.tr k6); clear k6))
            go_ret
            exact ⟨fun _ => ⟨by rw [HE.out]; rfl, HST.out.keep.tr (Keep.of_bel _ HK6.out)⟩, fun h => by rw [HE.out] at h; cases h⟩
          · have HE : Hid (r = (0, (nds T1).set i { x.nd with byt := L ++ x.byt.drop L.length })) := Lib.hid (by
              rw [HRES.out, if_neg (by rintro ⟨h1, h2⟩; exact hroom h2)]
              rfl)
            have HRB : Hid (roomB ⟨T1.length, sumB (nds T1), mi, mb⟩ 0 ((L.length : Int) - (x.byt.length : Int)) = true) := Lib.hid (by
              unfold roomB
              simp only [Bool.and_eq_true, decide_eq_true_eq]
              constructor <;> omega)
            rw [HRB.out] at HRM
            have HGR := Lib.hid fun W hW => (show Calls Tryz.prog 61 #[.pointer (some ⟨tb, 0, none⟩), .pointer (some ⟨A1.nb (i + 1), 0, none⟩), .int .i64 ((L.length : Int) - (x.byt.length : Int))] W _ from hmo ▸ grow_any tb A1 T1 mi mb i x (L.length - x.byt.length) W (HPT1.out.bel hW) HX.out (by omega) (by omega))
            rw [HNB.out] at HGR
            have HNE : Hid (0 < L.length) := Lib.hid (by omega)
            have HLE : Hid (x.byt.length + (L.length - x.byt.length) = L.length) := Lib.hid (by omega)
            clear hroom hmo
            go_upto_region 17 with (go_at_call 60; ((with_reducible refine Calls.mono (HRM.out wd HKD.out) ?_); rintro e we ⟨rfl, k6⟩; have HK6 := Lib.hid (HKD.out.tr k6); have c6e : we.cell? ⟨kb, 6, none⟩ = some (.pointer (some ⟨tb, 0, none⟩)) := cell_bel k6 c6d; clear k6))
            go_upto_region 18 with (go_at_call 61; ((with_reducible refine Calls.mono (HGR.out we HK6.out) ?_); rintro e w7 ⟨rfl, hG⟩))
            obtain ⟨bv, hst⟩ := hG
            have hB3e := HB36.out.bel HK6.out
            have hB37 := hB3e.keep hst.keep ((HPT1.out.bel HK6.out).not_foot hB3e (by decide) (by decide) (by decide))
            have hx2 : (T1.set i (x.setB bv (x.byt ++ List.replicate (L.length - x.byt.length) 0)))[i]? = some (x.setB bv (x.byt ++ List.replicate (L.length - x.byt.length) 0)) := List.getElem?_set_self (List.getElem?_eq_some_iff.1 HX.out).1
            have hnd7 := hst.pt.tree.node i _ hx2
            have hby7 := hst.pt.tree.byts i _ hx2
            have hl2 : (x.setB bv (x.byt ++ List.replicate (L.length - x.byt.length) 0)).byt.length = L.length := by simp [Pn.setB]; exact HLE.out
            obtain ⟨g, bc2, cur, hgv, hB, h1, h2, h3, h4⟩ := hby7.2.resolve_left (fun h => by have := h.2; rw [this] at hl2; have := HNE.out; simp at hl2; omega)
            rw [hl2] at hgv h1
            have hgv2 : bv = .slice (some ⟨g, 0, none⟩) L.length bc2 := hgv
            rw [HNB.out] at hnd7
            have c37 : w7.cell? ⟨nb, 3, none⟩ = some (.slice (some ⟨g, 0, none⟩) L.length bc2) := by rw [← hgv2]; exact hnd7.cell 3
            have c327 : w7.cell? ⟨g3, 2, none⟩ = some (.slice p L.length cap) := hB37.cell 2
            have hsw : BS w7 p L := by
              refine (HBS1.out.bel HK6.out).keep_at hst.keep fun b o hp hf => ?_
              rcases HST.out.foot b hf with h | h
              · exact HBF.out b o hp h
              · obtain ⟨b', o', h5, h6, _⟩ := HBS.out.2 HNE.out
                rw [hp] at h5
                cases h5
                omega
            have HX2 := Lib.hid hx2
            have HS2 : Hid (PStep w tb A T mi mb ((nds T1).set i { x.nd with byt := x.byt ++ List.replicate (L.length - x.byt.length) 0 }) A1 (T1.set i (x.setB bv (x.byt ++ List.replicate (L.length - x.byt.length) 0))) w7) := Lib.hid (HST.out.tr ⟨hst.pt, hst.nds, (Keep.of_bel _ HK6.out).tr hst.keep, fun q hq => by
              rcases hst.foot q hq with h | h
              · exact .inl h
              · exact .inr (Nat.le_trans HK6.out.size h)⟩)
            have HL2 := Lib.hid hl2
            have HGV := Lib.hid hgv2
            have HP7 := Lib.hid hst.pt
            have HCB7 := Lib.hid hB
            have HSW7 := Lib.hid hsw
            clear hst hB3e hB37 hx2 hnd7 hby7 hl2 hgv hgv2 hB hsw h4 c6e c6d cBd c32d
            go_still_tail 6, (by kernel_rfl)
            change wpList _ _ _ _ _ w7.drew
            have kd2 : Bel w7 w7.drew := Bel.drew (Bel.refl _)
            generalize w7.drew = w8 at *
            have HKE := Lib.hid kd2
            have HP8 := Lib.hid (HP7.out.bel kd2)
            have HCB := Lib.hid (HCB7.out.bel kd2)
            have HBSE := Lib.hid (HSW7.out.bel kd2)
            clear kd2 c37 c327
            have HSRC := Lib.hid (fun h0 => HBSE.out.cells_at h0)
            have HBY := Lib.hid HBSE.out.1
            (refine wpList_copy_keep rfl (.tmp 79) (.tmp 81) 32 32 rfl 5 Tryz.underlying32 (by kernel_rfl) g p L.length bc2 L.length cap rfl rfl cur 5 HCB.out (L.map (Value.int .u8)) (by rw [List.length_map]; exact (Nat.min_self _).symm) HSRC.out (by rw [List.length_map]; omega) (by intro v hv; obtain ⟨y, _, rfl⟩ := List.mem_map.1 hv; rfl) ?_; intro wf BF KF)
            go_wp2
            go_ret
            refine ⟨fun h => absurd (by rw [HE.out]) h, fun _ => ⟨rfl, A1, (T1.set i (x.setB bv (x.byt ++ List.replicate (L.length - x.byt.length) 0))).set i ((x.setB bv (x.byt ++ List.replicate (L.length - x.byt.length) 0)).setB bv (L ++ (x.byt ++ List.replicate (L.length - x.byt.length) 0).drop L.length)), ?_⟩⟩
            have hcp := HP8.out.copied HX2.out (by rw [HL2.out]; exact Nat.le_refl _) HBY.out (by rw [HL2.out]; exact HGV.out) HCB.out (by have := BF.out; simpa using this) KF
            have hfin := HS2.out.tr (show PStep w7 tb A1 _ mi mb _ A1 _ wf from ⟨hcp.pt, hcp.nds, (Keep.of_bel _ HKE.out).tr hcp.keep, fun q hq => by
              rcases hcp.foot q hq with h | h
              · exact .inl h
              · exact .inr (Nat.le_trans HKE.out.size h)⟩)
            rw [HE.out]
            have e1 : (x.byt ++ List.replicate (L.length - x.byt.length) 0).drop L.length = [] := List.drop_of_length_le (by simp; omega)
            have e2 : x.byt.drop L.length = [] := List.drop_of_length_le (by omega)
            have e3 : (nds (T1.set i (x.setB bv (x.byt ++ List.replicate (L.length - x.byt.length) 0)))).set i { (x.setB bv (x.byt ++ List.replicate (L.length - x.byt.length) 0)).nd with byt := L ++ (x.setB bv (x.byt ++ List.replicate (L.length - x.byt.length) 0)).byt.drop L.length } = (nds T1).set i { x.nd with byt := L ++ x.byt.drop L.length } := by
              rw [nds_set, List.set_set, e2, show (x.setB bv (x.byt ++ List.replicate (L.length - x.byt.length) 0)).byt = x.byt ++ List.replicate (L.length - x.byt.length) 0 from rfl, e1]
              rfl
            rw [e3] at hfin
            exact hfin
        · have hng : ¬ ((0 : Int) < (L.length : Int) - (x.byt.length : Int)) := by omega
          have HE : Hid (r = (0, (nds T1).set i { x.nd with byt := L ++ x.byt.drop L.length })) := Lib.hid (by
            rw [HRES.out, if_neg (by rintro ⟨h1, h2⟩; simp [Pn.nd] at h2; omega)]
            rfl)
          have hle : L.length ≤ x.byt.length := by omega
          clear hgt
          go_upto_region 18 with fail
          have hlp : L.length = 0 ∨ ∃ g, bp = some ⟨g, 0, none⟩ := by
            by_cases h0 : L.length = 0
            · exact .inl h0
            · right
              rcases ((HPT1.out.tree.byts i x HX.out)).2 with ⟨h1, h2⟩ | ⟨g, c', cur, h1, _⟩
              · exact absurd (by simpa [h2] using hle : L = []) (fun e => h0 (by simp [e]))
              · rw [HBV.out] at h1; cases h1; exact ⟨g, rfl⟩
          have HLP := Lib.hid hlp
          clear hlp
          go_still_tail 6, (by kernel_rfl)
          change wpList _ _ _ _ _ wd.drew
          have kd2 : Bel wd wd.drew := Bel.drew (Bel.refl _)
          generalize wd.drew = we at *
          have HKE := Lib.hid (HKD.out.tr kd2)
          have HPTE := Lib.hid (HPT1.out.bel (HKD.out.tr kd2))
          have HBSE := Lib.hid (HBS1.out.bel (HKD.out.tr kd2))
          clear kd2 c6d cBd c32d
          rcases HLP.out with h0 | ⟨g, rfl⟩
          · have HL0 : Hid (L = []) := Lib.hid (List.eq_nil_of_length_eq_zero h0)
            go_wp2_with (refine wpList_copy_nothing rfl (.tmp 79) (.tmp 81) 32 32 rfl 5 Tryz.underlying32 (by kernel_rfl) bp p x.byt.length bc L.length cap rfl rfl (by rw [h0]; simp) ?_)
            go_ret
            refine ⟨fun h => absurd (by rw [HE.out]) h, fun _ => ⟨rfl, A1, T1, ?_⟩⟩
            have := HST.out.tr (HPT1.out.put_nil HX.out HKE.out)
            rw [HE.out, HL0.out]
            simpa using this
          · obtain ⟨g', cap', cur, hgv, hB, h1, h2, h3, h4⟩ := (HPTE.out.tree.byts i x HX.out).2.resolve_left (fun h => by rw [HBV.out] at h; cases h.1)
            rw [HBV.out] at hgv
            cases hgv
            have HCB := Lib.hid hB
            have HSRC := Lib.hid (fun h0 => HBSE.out.cells_at h0)
            have HBY := Lib.hid HBSE.out.1
            clear hB h4
            (refine wpList_copy_keep rfl (.tmp 79) (.tmp 81) 32 32 rfl 5 Tryz.underlying32 (by kernel_rfl) g p x.byt.length bc L.length cap rfl rfl cur 5 HCB.out (L.map (Value.int .u8)) (by rw [List.length_map]; exact (Nat.min_eq_left hle).symm) HSRC.out (by rw [List.length_map]; omega) (by intro v hv; obtain ⟨y, _, rfl⟩ := List.mem_map.1 hv; rfl) ?_; intro wf BF KF)
            go_wp2
            go_ret
            refine ⟨fun h => absurd (by rw [HE.out]) h, fun _ => ⟨rfl, A1, T1.set i (x.setB x.bv (L ++ x.byt.drop L.length)), ?_⟩⟩
            have hcp := HPTE.out.copied HX.out hle HBY.out HBV.out HCB.out (by have := BF.out; simpa using this) KF
            rw [HE.out]
            exact HST.out.tr ⟨hcp.pt, hcp.nds, (Keep.of_bel _ HKE.out).tr hcp.keep, fun q hq => by
              rcases hcp.foot q hq with h | h
              · exact .inl h
              · exact .inr (Nat.le_trans HKE.out.size h)⟩
end Go.Proofs.YtkcjafnaephjiaaGreatDoor
