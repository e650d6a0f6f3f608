/- The document's Boot: the files, the process. -/
import Derived.Deep.RegionLaw
import Derived.Deep.RegionHeld3
import Derived.Deep.DrawnRows
import Derived.Test.YtkcjafnaephjiaaGreatDoorPart29
import Derived.Test.YtkcjafnaephjiaaGreatDoorPart01
set_option linter.unusedVariables false
set_option linter.unusedSimpArgs false
namespace Go.Proofs.YtkcjafnaephjiaaGreatDoor
open Go.RowKit
set_option maxRecDepth 100000

theorem procInfoR : (Tryz.prog.info? 83).map (fun i => (i.size, i.bytes, (i.zero.map (·.cells.size)))) = some (31, 264, some 31) := by kernel_rfl
/-- The document's kernel behind Boot. -/
structure BootDK (w : World) (kb : Nat) (l : Lims) (F : List FileA) : Prop where
  tree : ∃ (iv : Value) (L : List Nd) (s : KV) (pb pc : Nat) (cells : List Value) (v : Value), DK w kb s iv L ∧ sks L = (filesF l.d.toNat l.e.toNat [rootNd] F).2 ∧ isDir L 1 = true ∧ sumB (sks L) ≤ 100000 ∧
    s = ⟨l.a, l.b, l.c, l.d, l.e, .slice (some ⟨pb, 0, none⟩) 1 pc, .slice none 0 0, .slice none 0 0, .slice none 0 0, .slice none 0 0, .slice none 0 0⟩ ∧ Blk w pb cells 83 ∧ 1 ≤ pc ∧
    cells.take 31 = execC proc0 0 v (numAt (execB L initP) 24 8) (spOf (stAll initSS) 1) ∧
    w.ownsRow (kb + 1) 168 258 v ((pageNums (spaceL (execB L initP))).length + 2) (refRow (withStack (spaceL (execB L initP)) initSS))
def BootDRes (w : World) (l : Lims) (F : List FileA) (e : Ending) (w' : World) : Prop :=
  Bel w w' ∧ (bootE l F ≠ 0 → e = .returned (.tuple #[.pointer none, .int .i64 (bootE l F : Nat)])) ∧ (bootE l F = 0 → ∃ kb, e = .returned (.tuple #[.pointer (some ⟨kb, 0, none⟩), .int .i64 0]) ∧ w.heap.size ≤ kb ∧ BootDK w' kb l F)

theorem DK.setPv {w : World} {kb : Nat} {s : KV} {iv : Value} {L : List Nd} (h : DK w kb s iv L) (v : Value) : DK (w.setCell ⟨kb, 5, none⟩ v) kb { s with pv := v } iv L := by
  have k := Keep.setCell w kb 5 v
  refine ⟨h.blk.setCell (o := 5) v, row_keep h.row k (fun g hg e => by have e : g = kb := e; omega), fun n hn => ⟨(h.byts n hn).1.keep k fun g hg e => ?_, (h.byts n hn).2⟩, h.few, h.one⟩
  obtain ⟨_, cur, hb⟩ := (h.byts n hn).1.lt hg
  have e : g = kb := e
  subst e
  exact h.blk.ne hb (by decide) rfl
/-- Behind the append of the first process. -/
def ProcAt (wx : World) (kb : Nat) (s : KV) (iv : Value) (L : List Nd) (cs : List Value) (w20 : World) : Prop :=
  ∃ (g8 c8 : Nat) (cells : List Value), Blk wx g8 cells 83 ∧ cells.take 31 = cs ∧ 1 ≤ c8 ∧ 31 ≤ cells.length ∧ kb < g8 ∧ DK wx kb { s with pv := .slice (some ⟨g8, 0, none⟩) 1 c8 } iv L ∧ Keep (fun q => kb ≤ q) w20 wx
theorem procAt_mk {w20 w8 : World} {kb : Nat} {s : KV} {iv : Value} {L : List Nd} {cs : List Value} {p8 : Option Addr} {c8 : Nat} (h : DK w20 kb s iv L) (hl : cs.length = 31) (R8 : w8.ownsRow (kb + 1) 83 31 (.slice p8 (0 + 1) c8) (0 + 1) cs) (k8 : Bel w20 w8) : ProcAt (w8.setCell ⟨kb, 5, none⟩ (.slice p8 (0 + 1) c8)) kb s iv L cs w20 := by
  have hd := (h.bel k8).setPv (.slice p8 (0 + 1) c8)
  rcases R8.2 with ⟨_, h0⟩ | ⟨g, cap, cur, e, hg, hb, h1, h2, h3, h4⟩
  · omega
  · cases e
    have hb' : Blk w8 g cur.toList 83 := hb
    have hcur : cur.toList.length = c8 * 31 := by simpa using h3
    exact ⟨g, c8, cur.toList, hb'.keep (Keep.setCell w8 kb 5 _) (fun e => by have e : g = kb := e; omega), by simpa using h4, by omega, by omega, by omega, hd, (Keep.of_bel _ k8).tr ((Keep.setCell w8 kb 5 _).mono fun q e => by have e : q = kb := e; omega)⟩
set_option maxHeartbeats 16000000 in
theorem bootD_main (l : Lims) (F : List FileA) (v1 v2 v3 : Value) (w : World) (hF : FLists w F v1 v2 v3) (h : l.okA = true) (hb : l.okB = true) (hd : l.d ≠ 0) :
    Calls Tryz.prog 16 #[.agg (limC l).toArray, v1, v2, v3] w fun e w' => BootDRes w l F e w' := by
  have hbe : bootE l F = if (filesF l.d.toNat l.e.toNat [rootNd] F).1 ≠ 0 then (filesF l.d.toNat l.e.toNat [rootNd] F).1 else execE (filesF l.d.toNat l.e.toNat [rootNd] F).2 initP true 0 0 l.b.toNat := by
    unfold bootE
    rw [if_neg (by rw [h]; simp), if_neg (by rw [hb]; simp), if_neg hd]
  have HBE := Lib.hid hbe
  clear hbe
  obtain ⟨a, b, c, d, e⟩ := l
  simp only at HBE
  obtain ⟨h1, h2, h3, h4⟩ : ¬ a < 1 ∧ ¬ 16 < a ∧ ¬ b < 1 ∧ ¬ 1000 < b := by
    simp only [Lims.okA, decide_eq_true_eq] at h
    omega
  obtain ⟨g1, g2, g3, g4, g5, g6⟩ : ¬ c < 0 ∧ ¬ 100000 < c ∧ ¬ d < 0 ∧ ¬ 100000 < d ∧ ¬ e < 0 ∧ ¬ 100000 < e := by
    simp only [Lims.okB, decide_eq_true_eq] at hb
    omega
  have hd0 : (d == 0) = false := by simpa using hd
  have HF := Lib.hid hF
  have HD := Lib.hid hd
  clear h hb hF hd
  simp only [limC]
  go_enter Tryz.func16, Tryz.ntmps16
  go_upto_region 8 with fail
  have k1 : Bel w ((w.alloc (.cells #[.int .i64 a, .int .i64 b, .int .i64 c, .int .i64 d, .int .i64 e] 59)).alloc (.cells #[.int .i64 a, .int .i64 b, .int .i64 c, .int .i64 d, .int .i64 e, .slice none 0 0, .slice none 0 0, .slice none 0 0, .slice none 0 0, .slice none 0 0, .slice none 0 0, .slice none 0 0, .int .i64 0] 71)) := (Bel.start w _).ac _
  have B1 : Blk ((w.alloc (.cells #[.int .i64 a, .int .i64 b, .int .i64 c, .int .i64 d, .int .i64 e] 59)).alloc (.cells #[.int .i64 a, .int .i64 b, .int .i64 c, .int .i64 d, .int .i64 e, .slice none 0 0, .slice none 0 0, .slice none 0 0, .slice none 0 0, .slice none 0 0, .slice none 0 0, .slice none 0 0, .int .i64 0] 71)) (w.heap.size + 1) (KV.cells ⟨a, b, c, d, e, .slice none 0 0, .slice none 0 0, .slice none 0 0, .slice none 0 0, .slice none 0 0, .slice none 0 0⟩ (.slice none 0 0) 0) 71 := Blk.new_at _ _ _ (by simp)
  generalize (w.alloc (.cells #[.int .i64 a, .int .i64 b, .int .i64 c, .int .i64 d, .int .i64 e] 59)).alloc (.cells #[.int .i64 a, .int .i64 b, .int .i64 c, .int .i64 d, .int .i64 e, .slice none 0 0, .slice none 0 0, .slice none 0 0, .slice none 0 0, .slice none 0 0, .slice none 0 0, .slice none 0 0, .int .i64 0] 71) = w1 at *
  obtain ⟨s, hs⟩ : ∃ s : KV, s = ⟨a, b, c, d, e, .slice none 0 0, .slice none 0 0, .slice none 0 0, .slice none 0 0, .slice none 0 0, .slice none 0 0⟩ := ⟨_, rfl⟩
  rw [← hs] at B1
  obtain ⟨kb, hkb⟩ : ∃ k, w.heap.size + 1 = k := ⟨_, rfl⟩
  rw [hkb] at B1 ⊢
  have HS := Lib.hid hs
  have hkw : w.heap.size < kb := by omega
  have HFR := Lib.hid (fresh_any kb s (.slice none 0 0) 0 w1 B1 (by omega))
  have HB1 := Lib.hid B1
  have HK1 := Lib.hid k1
  clear hs hkb B1 k1
  go_upto_region 9 with (go_at_call 28; ((with_reducible refine Calls.mono HFR.out ?_); rintro e2 w2 ⟨rfl, b2, k2⟩))
  have c7 : w2.cell? ⟨kb, 7, none⟩ = some (.slice none 0 0) := b2.cell 7
  have f7 := b2.frozen
  have hlt2 := b2.lt
  have HB2 := Lib.hid b2
  have HK2 : Hid (Keep (fun q => kb ≤ q) w1 w2) := Lib.hid (k2.mono fun q h => by have h : q = kb := h; omega)
  have HBP : Hid (Tryz.prog.built 90 [(0, .int .i64 ((0 + 1 : Nat) : Int)), (3, .bool true)] = some #[.int .i64 ((0 + 1 : Nat) : Int), .int .i64 0, .string ⟨#[]⟩, .bool true, emptyB]) := Lib.hid (by kernel_rfl)
  clear b2 k2
  go_cut [] (fun wx => Hid (∃ iv', DK wx kb s iv' [rootNd] ∧ Keep (fun q => kb ≤ q) w2 wx))
  case first =>
    go_upto_region 10 with (first
      | (refine wpList_buildTo rfl 90 _ rfl (some 77) rfl _ (by simp only [List.map_toArray, List.map_cons, List.map_nil]; exact HBP.out) ?_)
      | (refine wpList_buildSlice_one rfl 67 90 (.tmp 77) rfl [.int .i64 ((0 + 1 : Nat) : Int), .int .i64 0, .string ⟨#[]⟩, .bool true, emptyB] rfl Tryz.underlying67 inodeInfo (by show 0 < 5; omega) (by show 5 ≤ 2 ^ 24; omega) ?_; intro w3 B3 K3)
      | (at_builtin; refine wpList_append_grown (w := w3) (base := kb + 1) (n := 0) (xs := []) rfl (.tmp 75) (.tmp 78) 67 rfl Tryz.underlying67 inodeInfo (by omega) rfl (World.ownsRow_nil w3 (kb + 1) _ _) _ 1 1 [.int .i64 ((0 + 1 : Nat) : Int), .int .i64 0, .string ⟨#[]⟩, .bool true, emptyB] 90 rfl B3.out rfl (by intro v hv; simp at hv; rcases hv with rfl | rfl | rfl | rfl | rfl <;> rfl) (by unfold maxLen; omega) (by omega) (by have := K3.size; omega) ?_; intro p4 c4 w4 R4 K4; have B4 := (HB2.out.bel K3).keep K4 (fun e => by cases e); have f4 := B4.frozen; have q4 : w4.cell? ⟨kb, 7, none⟩ = some (.slice none 0 0) := B4.cell 7; have l4 := B4.lt; have HB4 := Lib.hid B4; have HR4 := Lib.hid R4; clear B4 R4))
    have B5 : Blk (w4.setCell ⟨kb, 7, none⟩ (.slice p4 (0 + 1) c4)) kb (s.cells (.slice p4 (0 + 1) c4) (0 + 1)) 71 := HB4.out.setCell (o := 7) _
    have R5 := row_keep HR4.out (Keep.setCell w4 kb 7 (.slice p4 (0 + 1) c4)) (fun g hg e => by omega)
    have K5 : Keep (fun q => kb ≤ q) w2 (w4.setCell ⟨kb, 7, none⟩ (.slice p4 (0 + 1) c4)) := ((Keep.of_bel _ K3).tr (K4.mono fun q h => by cases h)).tr ((Keep.setCell w4 kb 7 _).mono fun q h => by have h : q = kb := h; omega)
    have HDK : Hid (∃ iv', DK (w4.setCell ⟨kb, 7, none⟩ (.slice p4 (0 + 1) c4)) kb s iv' [rootNd] ∧ Keep (fun q => kb ≤ q) w2 (w4.setCell ⟨kb, 7, none⟩ (.slice p4 (0 + 1) c4))) := Lib.hid ⟨_, ⟨B5, R5, fun n hn => by
      simp at hn
      subst hn
      exact ⟨⟨(fun x hx => by cases hx), .inl ⟨rfl, rfl⟩⟩, fun g hg => by cases hg⟩, by simp, by simp⟩, K5⟩
    go_wp2_with fail
    go_meet
    exact HDK
  case rest =>
    obtain ⟨iv0, hdk, hkc⟩ := hcut.out
    have HD0 := Lib.hid hdk
    have HKC : Hid (Keep (fun q => kb ≤ q) w1 wc) := Lib.hid (HK2.out.tr hkc)
    clear c7 f7 hlt2 hdk hkc
    have hn := HF.out.n
    have hmi : d.toNat ≤ 100000 := by omega
    have hmb : e.toNat ≤ 100000 := by omega
    have hsd : s.d = (d.toNat : Int) := by rw [HS.out]; show d = _; omega
    have hse : s.e = (e.toNat : Int) := by rw [HS.out]; show e = _; omega
    have hpv : s.pv = .slice none 0 0 := by rw [HS.out]
    have hov : s.ov = .slice none 0 0 := by rw [HS.out]
    have HSD := Lib.hid hsd
    have HSE := Lib.hid hse
    have HPV := Lib.hid hpv
    have HOV := Lib.hid hov
    have HKW : Hid (Keep (fun q => kb ≤ q) w wc) := Lib.hid ((Keep.of_bel _ HK1.out).tr HKC.out)
    obtain ⟨pp, pc, rfl, hp1⟩ := HF.out.paths
    obtain ⟨dp, dc, rfl, hp2⟩ := HF.out.dirs
    obtain ⟨bp, bc, rfl, hp3⟩ := HF.out.bytes
    have HP1 := Lib.hid hp1
    have HP2 := Lib.hid hp2
    have HP3 := Lib.hid hp3
    clear hp1 hp2 hp3 hsd hse hpv hov
    go_wp2_with fail
    go_loopw [12, 13] (fun i er wr => ∃ (k : Nat) (iv : Value) (L : List Nd), k ≤ F.length ∧ i = .int .i64 k ∧ DK wr kb s iv L ∧ filesF d.toNat e.toNat [rootNd] F = filesF d.toNat e.toNat (sks L) (F.drop k) ∧ sumB (sks L) ≤ e.toNat ∧ isDir (sks L) 1 = true ∧ L.length ≤ k + 1 ∧ Keep (fun q => kb ≤ q) wc wr) (fun i _ _ => F.length - (intOf i).toNat)
    case atStart => exact ⟨0, iv0, [rootNd], Nat.zero_le _, rfl, HD0.out, rfl, Nat.zero_le _, rfl, by simp, Keep.refl _ _⟩
    case round =>
      obtain ⟨k, iv, L, hk, rfl, hdk, hfl, hsm, hrt, hll, hkr⟩ := hrel
      have HDK := Lib.hid hdk
      have HFL := Lib.hid hfl
      have HSM := Lib.hid hsm
      have HRT := Lib.hid hrt
      have HKR := Lib.hid hkr
      clear hdk hfl hsm hrt hkr
      by_cases hlt : k < F.length
      · have hf := List.getElem?_eq_getElem hlt
        have hdr : F.drop k = F[k] :: F.drop (k + 1) := List.drop_eq_getElem_cons hlt
        obtain ⟨gp, rfl, cp⟩ := HP1.out k F[k] hf
        obtain ⟨gd, rfl, cd⟩ := HP2.out k F[k] hf
        obtain ⟨gb, rfl, cb⟩ := HP3.out k F[k] hf
        obtain ⟨hb1, hb2, hb3, hb4, hb5⟩ := HF.out.byt F[k] (List.getElem_mem hlt)
        generalize F[k] = f at *
        have HDR := Lib.hid hdr
        have hkk : Keep (fun q => kb ≤ q) w wr := HKW.out.tr HKR.out
        have tr : ∀ (a : Addr) (v : Value), w.cell? a = some v → wr.cell? a = some v := fun a v h => by
          have hl := World.block_lt_of_cell? _ _ h
          exact (hkk.cell a hl (by show ¬ kb ≤ a.block; omega)).trans h
        have cp' := tr _ _ cp
        have cd' := tr _ _ cd
        have cb' := tr _ _ cb
        have hbsr : BS wr f.p f.byt := hb1.keep_at0 hkk fun h0 b o hp h => by have := hb5 h0 b o hp; omega
        have HFA := Lib.hid fun W (hW : Bel wr W) => fileD_any kb s iv L d.toNat e.toNat f.path f.dir f.p f.cap f.byt W (HDK.out.bel hW) HSD.out hmi HSE.out hmb HPV.out HOV.out (hbsr.bel hW) hb3 (fun h0 q o hq => by have := hb5 h0 q o hq; omega) HSM.out hb4 (by rw [← isDir_sk]; exact HRT.out)
        obtain ⟨r, hr⟩ : ∃ r, fileF d.toNat e.toNat (sks L) f.path.data.toList f.dir f.byt = r := ⟨_, rfl⟩
        have hinv := fileF_inv (mi := d.toNat) (path := f.path.data.toList) (is := f.dir) (b := f.byt) HSM.out HRT.out
        rw [hr] at HFA hinv
        have HR := Lib.hid hr
        have HINV := Lib.hid hinv
        clear hr hinv hbsr tr hkk cp cd cb hb1 hb2 hb5 hf hdr
        go_upto_region 13 with fail
        go_still_tail 13, (by kernel_rfl)
        change wpList _ _ _ _ _ wr.drew
        have kd : Bel wr wr.drew := Bel.drew (Bel.refl _)
        generalize wr.drew = wd at *
        have HKD := Lib.hid kd
        clear kd cp' cd' cb'
        go_upto_region 14 with (go_at_call 29; ((with_reducible refine Calls.mono (HFA.out wd HKD.out) ?_); rintro e2 w5 ⟨rfl, hst⟩; have HST := Lib.hid hst; clear hst))
        by_cases hr0 : r.1 = 0
        · have hrb : ((r.1 : Int) == 0) = true := by rw [hr0]; rfl
          obtain ⟨iv2, L2, h3, h4⟩ := HST.out.2 hr0
          have h5 := HST.out.1
          obtain ⟨h6, h7, h8⟩ := HINV.out hr0
          rw [sks_len] at h8
          have h9 := congrArg List.length h3
          rw [sks_len] at h9
          have HFIN : Hid (∃ (iv : Value) (L' : List Nd), DK w5 kb s iv L' ∧ filesF d.toNat e.toNat [rootNd] F = filesF d.toNat e.toNat (sks L') (F.drop (k + 1)) ∧ sumB (sks L') ≤ e.toNat ∧ isDir (sks L') 1 = true ∧ L'.length ≤ k + 1 + 1 ∧ Keep (fun q => kb ≤ q) wc w5) := Lib.hid ⟨iv2, L2, h4, by
            rw [HFL.out, HDR.out, filesF, if_neg (by rw [HR.out]; simpa using hr0), HR.out, h3], by rw [h3]; exact h6, by rw [h3]; exact h7, by omega, (HKR.out.tr (Keep.of_bel _ HKD.out)).tr h5⟩
          clear hr0 h3 h4 h5 h6 h7 h8 h9
          go_wp2
          go_roundw
          case rel =>
            obtain ⟨iv, L', j1, j2, j3, j4, j5, j6⟩ := HFIN.out
            exact ⟨k + 1, iv, L', by omega, by go_num, j1, j2, j3, j4, j5, j6⟩
          case measure => simp [intOf] <;> omega
        · have hrb : ((r.1 : Int) == 0) = false := beq_eq_false_iff_ne.2 (by omega)
          have HER : Hid (bootE ⟨a, b, c, d, e⟩ F = r.1) := Lib.hid (by
            have h3 : filesF d.toNat e.toNat [rootNd] F = (r.1, sks L) := by rw [HFL.out, HDR.out, filesF, if_pos (by rw [HR.out]; exact hr0), HR.out]
            rw [HBE.out, h3, if_pos hr0])
          have HR0 := Lib.hid hr0
          clear hr0
          go_wp2
          go_ret2
          have hkk := ((HKW.out.tr HKR.out).tr (Keep.of_bel _ HKD.out)).tr HST.out.1
          exact ⟨hkk.below _ (Nat.le_refl _) (fun q hq => by omega), fun _ => by rw [HER.out]; rfl, fun h => absurd (HER.out.symm.trans h) HR0.out⟩
      · obtain rfl : k = F.length := by omega
        have hfin : filesF d.toNat e.toNat [rootNd] F = (0, sks L) := by rw [HFL.out, List.drop_length]; rfl
        have HBE2 : Hid (bootE ⟨a, b, c, d, e⟩ F = execE (sks L) initP true 0 0 b.toNat) := Lib.hid (by rw [HBE.out, hfin]; rfl)
        have HFN := Lib.hid hfin
        clear hfin
        have c5 : wr.cell? ⟨kb, 5, none⟩ = some (.slice none 0 0) := by rw [← HPV.out]; exact HDK.out.blk.cell 5
        have f5 := HDK.out.blk.frozen
        have hkl := HDK.out.blk.lt
        go_upto_region 21 with fail
        have kd : Bel wr (wr.alloc (.cells proc0.toArray 83)) := Bel.start _ _
        have B21 := Blk.new wr proc0 83
        change Code.wp _ _ _ _ (wr.alloc (.cells proc0.toArray 83))
        generalize wr.alloc (.cells proc0.toArray 83) = w20 at *
        generalize wr.heap.size = pb at *
        have c5 := cell_bel kd c5
        have f5 := (HDK.out.blk.bel kd).frozen
        have hkl := (HDK.out.blk.bel kd).lt
        obtain ⟨cs, hcs⟩ : ∃ cs, proc0 = cs := ⟨_, rfl⟩
        have hcl : cs.length = 31 := by rw [← hcs]; rfl
        have hu := Tryz.underlying83
        have hi : (Tryz.prog.info? 83).map (·.size) = some cs.length := by rw [hcl]; kernel_rfl
        have hbs := run_buildSlice_one (P := Tryz.prog) 65 83 cs Tryz.underlying65 (by rw [hcl]; exact procInfoR) (by omega) (by omega)
        have HPO : Hid (∀ u ∈ cs, u.oneCell' = true) := Lib.hid (by rw [← hcs]; intro u hu; simp [proc0] at hu; rcases hu with rfl | rfl | rfl | rfl | rfl | rfl <;> rfl)
        rw [hcs] at B21
        have hr : w20.rangeAt pb 0 cs := by have := B21.range 0; simpa using this
        have HB21 := Lib.hid B21
        have HCS := Lib.hid hcs
        have HCL := Lib.hid hcl
        have HKD := Lib.hid kd
        clear B21 hcs hcl kd
        have HAPP : Hid (∀ (p8 : Option Addr) (c8 : Nat) (w8 : World), w8.ownsRow (kb + 1) 83 31 (.slice p8 (0 + 1) c8) (0 + 1) ([] ++ cs) → Keep (fun q => (Value.slice none 0 0).ownBlock = some q) (w20.drew.alloc (.cells cs.toArray 83)) w8 → Hid (w8.ownsRow (kb + 1) 83 31 (.slice p8 (0 + 1) c8) (0 + 1) cs ∧ Bel w20 w8) ∧ w8.cell? ⟨kb, 5, none⟩ = some (.slice none 0 0) ∧ (∀ j, w8.frozen? ⟨kb, j, none⟩ = false) ∧ kb < w8.heap.size) := Lib.hid fun p8 c8 w8 R8 K8 => by
          have ka : Bel w20 (w20.drew.alloc (.cells cs.toArray 83)) := (Bel.drew (Bel.refl w20)).ac _
          have k8 : Bel w20 w8 := ka.tr ⟨K8.os, K8.tape, K8.output, K8.size, fun k hk => K8.block k hk (fun e => by cases e)⟩
          exact ⟨Lib.hid ⟨R8, k8⟩, cell_bel k8 c5, ((HDK.out.blk.bel HKD.out).bel k8).frozen, ((HDK.out.blk.bel HKD.out).bel k8).lt⟩
        go_cut [] (fun wx => Hid (ProcAt wx kb s iv L cs w20))
        case first =>
          refine wp_region_any (by kernel_rfl) ?_
          change wpAny _ _ _ _ _ _ _ (World.drew _)
          have kdd : Bel w20 w20.drew := Bel.drew (Bel.refl _)
          have c5 : w20.drew.cell? ⟨kb, 5, none⟩ = some (.slice none 0 0) := c5
          have hr : w20.drew.rangeAt pb 0 cs := hr
          have c5a : ∀ o, (w20.drew.alloc o).cell? ⟨kb, 5, none⟩ = some (.slice none 0 0) := fun o => cell_bel (Bel.start _ o) c5
          have hwd : kb ≤ w20.drew.heap.size := by show kb ≤ w20.heap.size; omega
          generalize w20.drew = wd at *
          refine wpAny_take (i := 0) (v := ?v0) rfl (by kernel_rfl) (by kernel_rfl) (by kernel_rfl) (fun _ _ _ h => h) (Or.inl ⟨by rfl, ?h0⟩) ?r0
          case h0 => (intro w; go_simp; with_reducible rfl)
          refine wpAny_take (i := 1) (v := ?v1) rfl (by kernel_rfl) (by kernel_rfl) (by kernel_rfl) (fun _ _ _ h => h) (Or.inl ⟨by rfl, ?h1⟩) ?r1
          case h1 => (intro w; go_simp; with_reducible rfl)
          refine wpAny_take (i := 2) (v := ?v2) rfl (by kernel_rfl) (by kernel_rfl) (by kernel_rfl) (fun _ _ _ h => h) (Or.inl ⟨by rfl, ?h2⟩) ?r2
          case h2 => (intro w; go_simp; with_reducible rfl)
          refine wpAny_take (i := 3) (v := ?v3) rfl (by kernel_rfl) (by kernel_rfl) (by kernel_rfl) (fun _ _ _ h => h) (Or.inl ⟨by rfl, ?h3⟩) ?r3
          case h3 => (intro w; go_simp; with_reducible rfl)
          refine wpAny_ready (rs := [4, 5]) (by kernel_rfl) (by simp) ?_
          refine AllReady.cons rfl (fun K hK => ?o4) ?x4
          case o4 =>
            go_simp
            refine hK _ _ ?_
            clear hK K
            refine wpAny_ready (rs := [5]) (by kernel_rfl) (by simp) ?_
            refine AllReady.cons rfl (fun K hK => ?_) AllReady.nil
            refine step_load_mid rfl 83 (.tmp 14) rfl pb 0 rfl cs _ hr hu rfl hi ?_
            refine hK _ _ ?_
            clear hK K
            refine wpAny_ready (rs := [6]) (by kernel_rfl) (by simp) ?_
            refine AllReady.cons rfl (fun K hK => ?_) AllReady.nil
            refine step_buildSlice_one rfl 65 83 (.tmp 117) rfl cs rfl Tryz.underlying65 (by rw [HCL.out]; exact procInfoR) (by have := HCL.out; omega) (by have := HCL.out; omega) ?_
            refine hK _ _ ?_
            clear hK K
            refine wpAny_ready (rs := [7]) (by kernel_rfl) (by simp) ?_
            refine AllReady.cons rfl (fun K hK => ?_) AllReady.nil
            refine step_append_cells (base := kb + 1) (n := 0) (xs := []) (size := 31) (bytes := 264) rfl (.tmp 116) (.tmp 118) 65 rfl Tryz.underlying65 procInfoR (by omega) rfl (World.ownsRow_nil _ _ _ _) wd.heap.size 1 1 cs rfl (fun j u hj => by rw [← hj]; exact (Blk.new wd cs 83).cell j) (by rw [HCL.out]) HPO.out (by unfold maxLen; omega) (by omega) (by simp; omega) ?_
            intro p8 c8 w8 R8 K8
            obtain ⟨HX8, c58, f58, hl8⟩ := HAPP.out p8 c8 w8 R8 K8
            clear R8 K8
            refine hK _ _ ?_
            clear hK K
            refine wpAny_take (i := 8) (v := ?v8a) rfl (by kernel_rfl) (by kernel_rfl) (by kernel_rfl) (fun _ _ _ h => h) (Or.inl ⟨by rfl, ?h8a⟩) ?r8a
            case h8a => (intro w; go_simp; with_reducible rfl)
            refine wpAny_take (i := 9) (v := ?v9a) rfl (by kernel_rfl) (by kernel_rfl) (by kernel_rfl) (fun _ _ _ h => h) (Or.inl ⟨by rfl, ?h9a⟩) ?r9a
            case h9a => (intro w; go_simp; with_reducible rfl)
            refine wpAny_ready (rs := [10]) (by kernel_rfl) (by simp) ?_
            refine AllReady.cons rfl (fun K hK => ?_) AllReady.nil
            go_simp
            refine hK _ _ ?_
            clear hK K
            refine wpAny_done (by kernel_rfl) ?_ _
            go_wp2_with fail
            go_meet
            exact Lib.hid (procAt_mk (HDK.out.bel HKD.out) HCL.out HX8.out.1 HX8.out.2)
          case x4 =>
            refine AllReady.cons rfl (fun K hK => ?_) AllReady.nil
            refine step_load_mid rfl 83 (.tmp 14) rfl pb 0 rfl cs _ hr hu rfl hi ?_
            refine hK _ _ ?_
            clear hK K
            refine wpAny_ready (rs := [4, 6]) (by kernel_rfl) (by simp) ?_
            refine AllReady.cons rfl (fun K hK => ?o45) ?x45
            case o45 =>
              go_simp
              refine hK _ _ ?_
              clear hK K
              refine wpAny_ready (rs := [6]) (by kernel_rfl) (by simp) ?_
              refine AllReady.cons rfl (fun K hK => ?_) AllReady.nil
              refine step_buildSlice_one rfl 65 83 (.tmp 117) rfl cs rfl Tryz.underlying65 (by rw [HCL.out]; exact procInfoR) (by have := HCL.out; omega) (by have := HCL.out; omega) ?_
              refine hK _ _ ?_
              clear hK K
              refine wpAny_ready (rs := [7]) (by kernel_rfl) (by simp) ?_
              refine AllReady.cons rfl (fun K hK => ?_) AllReady.nil
              refine step_append_cells (base := kb + 1) (n := 0) (xs := []) (size := 31) (bytes := 264) rfl (.tmp 116) (.tmp 118) 65 rfl Tryz.underlying65 procInfoR (by omega) rfl (World.ownsRow_nil _ _ _ _) wd.heap.size 1 1 cs rfl (fun j u hj => by rw [← hj]; exact (Blk.new wd cs 83).cell j) (by rw [HCL.out]) HPO.out (by unfold maxLen; omega) (by omega) (by simp; omega) ?_
              intro p8 c8 w8 R8 K8
              obtain ⟨HX8, c58, f58, hl8⟩ := HAPP.out p8 c8 w8 R8 K8
              clear R8 K8
              refine hK _ _ ?_
              clear hK K
              refine wpAny_take (i := 8) (v := ?v8b) rfl (by kernel_rfl) (by kernel_rfl) (by kernel_rfl) (fun _ _ _ h => h) (Or.inl ⟨by rfl, ?h8b⟩) ?r8b
              case h8b => (intro w; go_simp; with_reducible rfl)
              refine wpAny_take (i := 9) (v := ?v9b) rfl (by kernel_rfl) (by kernel_rfl) (by kernel_rfl) (fun _ _ _ h => h) (Or.inl ⟨by rfl, ?h9b⟩) ?r9b
              case h9b => (intro w; go_simp; with_reducible rfl)
              refine wpAny_ready (rs := [10]) (by kernel_rfl) (by simp) ?_
              refine AllReady.cons rfl (fun K hK => ?_) AllReady.nil
              go_simp
              refine hK _ _ ?_
              clear hK K
              refine wpAny_done (by kernel_rfl) ?_ _
              go_wp2_with fail
              go_meet
              exact Lib.hid (procAt_mk (HDK.out.bel HKD.out) HCL.out HX8.out.1 HX8.out.2)
            case x45 =>
              refine AllReady.cons rfl (fun K hK => ?_) AllReady.nil
              refine step_buildSlice_one rfl 65 83 (.tmp 117) rfl cs rfl Tryz.underlying65 (by rw [HCL.out]; exact procInfoR) (by have := HCL.out; omega) (by have := HCL.out; omega) ?_
              refine hK _ _ ?_
              clear hK K
              refine wpAny_ready (rs := [4]) (by kernel_rfl) (by simp) ?_
              refine AllReady.cons rfl (fun K hK => ?_) AllReady.nil
              go_simp
              refine hK _ _ ?_
              clear hK K
              refine wpAny_ready (rs := [7]) (by kernel_rfl) (by simp) ?_
              refine AllReady.cons rfl (fun K hK => ?_) AllReady.nil
              refine step_append_cells (base := kb + 1) (n := 0) (xs := []) (size := 31) (bytes := 264) rfl (.tmp 116) (.tmp 118) 65 rfl Tryz.underlying65 procInfoR (by omega) rfl (World.ownsRow_nil _ _ _ _) wd.heap.size 1 1 cs rfl (fun j u hj => by rw [← hj]; exact (Blk.new wd cs 83).cell j) (by rw [HCL.out]) HPO.out (by unfold maxLen; omega) (by omega) (by simp; omega) ?_
              intro p8 c8 w8 R8 K8
              obtain ⟨HX8, c58, f58, hl8⟩ := HAPP.out p8 c8 w8 R8 K8
              clear R8 K8
              refine hK _ _ ?_
              clear hK K
              refine wpAny_take (i := 8) (v := ?v8c) rfl (by kernel_rfl) (by kernel_rfl) (by kernel_rfl) (fun _ _ _ h => h) (Or.inl ⟨by rfl, ?h8c⟩) ?r8c
              case h8c => (intro w; go_simp; with_reducible rfl)
              refine wpAny_take (i := 9) (v := ?v9c) rfl (by kernel_rfl) (by kernel_rfl) (by kernel_rfl) (fun _ _ _ h => h) (Or.inl ⟨by rfl, ?h9c⟩) ?r9c
              case h9c => (intro w; go_simp; with_reducible rfl)
              refine wpAny_ready (rs := [10]) (by kernel_rfl) (by simp) ?_
              refine AllReady.cons rfl (fun K hK => ?_) AllReady.nil
              go_simp
              refine hK _ _ ?_
              clear hK K
              refine wpAny_done (by kernel_rfl) ?_ _
              go_wp2_with fail
              go_meet
              exact Lib.hid (procAt_mk (HDK.out.bel HKD.out) HCL.out HX8.out.1 HX8.out.2)
        case rest =>
          obtain ⟨g8, c8, cells, hb8, htk, hc8, hcl8, hg8, hdk8, hk8⟩ := hcut.out
          have c5 : wc.cell? ⟨kb, 5, none⟩ = some (.slice (some ⟨g8, 0, none⟩) 1 c8) := hdk8.blk.cell 5
          have f5 := hdk8.blk.frozen
          have hkl := hdk8.blk.lt
          have hcs0 : cells.take 31 = proc0 := htk.trans HCS.out.symm
          have hmf : b.toNat ≤ 1000 := by omega
          have hsb : s.b = (b.toNat : Int) := by rw [HS.out]; show b = _; omega
          have hsum : sumB (sks L) ≤ 100000 := by have := HSM.out; omega
          have hex := fun (W : World) (gs : Nat) (hW : Bel wc W) (hgs : Blk W gs [.string ⟨#[105, 110, 105, 116]⟩] 9) => execD_init kb s iv L g8 c8 b.toNat gs cells W (hdk8.bel hW) (hb8.bel hW) hcs0 hcl8 hc8 HOV.out hsb hmf hsum (by rw [← isDir_sk]; exact HRT.out) hg8 hgs
          have HEX := Lib.hid hex
          have hbe3 : bootE ⟨a, b, c, d, e⟩ F = execE L initP true 0 0 b.toNat := HBE2.out.trans (execE_sk _ _ _ _ _ _)
          obtain ⟨ec, hec⟩ : ∃ ec, execE L initP true 0 0 b.toNat = ec := ⟨_, rfl⟩
          rw [hec] at HEX hbe3
          have HBE3 := Lib.hid hbe3
          have H8 := Lib.hid (And.intro hb8 (And.intro hcs0 (And.intro hdk8 hk8)))
          have hci : (0 : Int) < (1 : Int) := by omega
          clear hex hbe3 hec hb8 htk hdk8 hk8 hcs0 hsb hsum
          by_cases h0 : ec = 0
          · have hrb : ((ec : Int) == 0) = true := by rw [h0]; rfl
            have H0 := Lib.hid h0
            clear h0
            go_wp2_with (first
              | (refine wpList_buildSlice_one rfl 50 9 (.const (.string ⟨#[105, 110, 105, 116]⟩)) rfl [.string ⟨#[105, 110, 105, 116]⟩] rfl Tryz.underlying50 strInfo3 (by show 0 < 1; omega) (by show 1 ≤ 2 ^ 24; omega) ?_; intro w9 B9 K9; have HK9 : Hid (Bel wc w9) := Lib.hid K9; have HB9 : Hid (Blk w9 wc.heap.size [.string ⟨#[105, 110, 105, 116]⟩] 9) := Lib.hid B9.out; clear B9 K9)
              | (go_at_call 30; ((with_reducible refine Calls.mono (HEX.out _ _ HK9.out HB9.out) ?_); rintro e2 w10 ⟨rfl, k10, h10⟩; have H10 := Lib.hid (And.intro k10 h10); clear k10 h10)))
            go_ret2
            have hkA : Keep (fun q => kb ≤ q) w w9 := (((HKW.out.tr HKR.out).tr (Keep.of_bel _ HKD.out)).tr H8.out.2.2.2).tr (Keep.of_bel _ HK9.out)
            have hkB : Keep (fun q => kb ≤ q) w w10 := hkA.tr (H10.out.1.mono fun q h => by have h : q = g8 := h; omega)
            refine ⟨hkB.below _ (Nat.le_refl _) (fun q hq => by have hq : kb ≤ q := hq; omega), fun h => absurd (HBE3.out.trans H0.out) h, fun _ => ⟨kb, rfl, by omega, ?_⟩⟩
            obtain ⟨v, hrow, hblk⟩ := H10.out.2 H0.out
            obtain ⟨hl0, x, hxm, hxb⟩ := execE_load (by rw [← HBE2.out.trans (execE_sk _ _ _ _ _ _)]; exact HBE3.out.trans H0.out)
            have hbb : ∀ y ∈ execB L initP, 0 ≤ y ∧ y ≤ 255 := by rw [hxb]; exact (HDK.out.byts x hxm).1.1
            have hlow := (spaceL_ok hbb hl0).2
            refine ⟨iv, L, { s with pv := .slice (some ⟨g8, 0, none⟩) 1 c8 }, g8, c8, execC cells 0 v (numAt (execB L initP) 24 8) (spOf (stAll initSS) 1), v, ?_, ?_, ?_, ?_, ?_, hblk, hc8, execC_take _ _ _ _ H8.out.2.1, ?_⟩
            · exact (H8.out.2.2.1.bel HK9.out).keepBlk (H8.out.1.bel HK9.out) H10.out.1
            · rw [HFN.out]
            · rw [← isDir_sk]; exact HRT.out
            · have := HSM.out; omega
            · rw [HS.out]
            · rw [refRow_stack _ _ hlow]
              exact ownsRow_base_a hrow (by have := H8.out.2.2.1.blk.lt; have := HK9.out.size; omega)
          · have hrb : ((ec : Int) == 0) = false := beq_eq_false_iff_ne.2 (by omega)
            have H0 := Lib.hid h0
            clear h0
            go_wp2_with (first
              | (refine wpList_buildSlice_one rfl 50 9 (.const (.string ⟨#[105, 110, 105, 116]⟩)) rfl [.string ⟨#[105, 110, 105, 116]⟩] rfl Tryz.underlying50 strInfo3 (by show 0 < 1; omega) (by show 1 ≤ 2 ^ 24; omega) ?_; intro w9 B9 K9; have HK9 : Hid (Bel wc w9) := Lib.hid K9; have HB9 : Hid (Blk w9 wc.heap.size [.string ⟨#[105, 110, 105, 116]⟩] 9) := Lib.hid B9.out; clear B9 K9)
              | (go_at_call 30; ((with_reducible refine Calls.mono (HEX.out _ _ HK9.out HB9.out) ?_); rintro e2 w10 ⟨rfl, k10, h10⟩; have H10 := Lib.hid (And.intro k10 h10); clear k10 h10)))
            go_ret2
            have hkA : Keep (fun q => kb ≤ q) w w9 := (((HKW.out.tr HKR.out).tr (Keep.of_bel _ HKD.out)).tr H8.out.2.2.2).tr (Keep.of_bel _ HK9.out)
            have hkB : Keep (fun q => kb ≤ q) w w10 := hkA.tr (H10.out.1.mono fun q h => by have h : q = g8 := h; omega)
            exact ⟨hkB.below _ (Nat.le_refl _) (fun q hq => by have hq : kb ≤ q := hq; omega), fun _ => by rw [HBE3.out]; rfl, fun h => absurd (HBE3.out.symm.trans h) H0.out⟩
end Go.Proofs.YtkcjafnaephjiaaGreatDoor
