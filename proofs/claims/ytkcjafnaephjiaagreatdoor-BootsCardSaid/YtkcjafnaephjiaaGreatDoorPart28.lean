/- The document's exec. -/
import Derived.Test.YtkcjafnaephjiaaGreatDoorPart26
import Derived.Test.YtkcjafnaephjiaaGreatDoorPart27
set_option linter.unusedVariables false
set_option linter.unusedSimpArgs false
namespace Go.Proofs.YtkcjafnaephjiaaGreatDoor
open Go.RowKit Go.Maps
set_option maxRecDepth 100000

noncomputable def execE (L : List Nd) (path : List UInt8) (sok : Bool) (own used mf : Nat) : Nat :=
  if (docWalk L path).2.2.2 ≠ 0 then (docWalk L path).2.2.2 else if (docWalk L path).2.2.1 = 0 then 9 else
  match L[(docWalk L path).2.2.1 - 1]? with
  | none => 11
  | some x => if x.dir = true then 11 else if loadE x.byt ≠ 0 then loadE x.byt else if sok = false then 6 else if mf < used - own + (pageNums (spaceL x.byt)).length + 2 then 7 else 0
/-- The bytes that are executed. -/
def execB (L : List Nd) (path : List UInt8) : List Int := (L[(docWalk L path).2.2.1 - 1]?.map Nd.byt).getD []
/-- A process of the document's with new pages. -/
def execC (cells : List Value) (o : Nat) (v : Value) (E sp : Int) : List Value := ((splice ((cells.set (o + 22) v).set (o + 5) (.int .u64 E)) (o + 6) (List.replicate 16 (.int .u64 0))).set (o + 21) (.int .u64 sp))
def ExecDRes (w : World) (pb o : Nat) (cells : List Value) (c : Nat) (B : List Int) (srow : List Value) (sp : Int) (e : Ending) (w' : World) : Prop :=
  e = .returned (.tuple #[.int .i64 0, .int .i64 (c : Nat)]) ∧ Keep (fun q => q = pb) w w' ∧ (c = 0 → ∃ v, w'.ownsRow w.heap.size 168 258 v ((pageNums (spaceL B)).length + 2) (refRow (spaceL B) ++ srow) ∧ Blk w' pb (execC cells o v (numAt B 24 8) sp) 83)

theorem wpList_append_cells {P : Program} {w : World} {base : Nat} {e : TypeId} {size : Nat} {v : Value} {n : Nat} {xs : List Value} {ops : Array Oper} {rest : List Oper} {o : Oper} {a : Act} {Q : Exit → Act → World → Prop} (hgd : o.guard = none) (s x : Operand) (t : TypeId)
    (ho : o.op = .call { callee := .builtin .append, args := #[s, x], argTypes := #[t, t] }) {bytes : Nat} (ht : P.underlying t = some (.slice e))
    (hi : (P.info? e).map (fun i => (i.size, i.bytes, (i.zero.map (·.cells.size)))) = some (size, bytes, some size)) (hsz : 0 < size)
    (hs : a.eval s = v) (hown : w.ownsRow base e size v n xs) (g m c : Nat) (cs : List Value) (hx : a.eval x = .slice (some ⟨g, 0, none⟩) m c) (hB : ∀ j u, cs[j]? = some u → w.cell? ⟨g, j, none⟩ = some u) (hl : cs.length = m * size) (h1 : ∀ u ∈ cs, u.oneCell' = true)
    (h63 : n + m ≤ maxLen) (hbytes : (n + m) * bytes ≤ 140737488355328) (hbase : base ≤ w.heap.size)
    (h : ∀ p cp w', w'.ownsRow base e size (.slice p (n + m) cp) (n + m) (xs ++ cs) → Keep (fun q => v.ownBlock = some q) w w' → wpList P ops Q rest (a.put o.dst (.slice p (n + m) cp)) w') : wpList P ops Q (o :: rest) a w := by
  obtain ⟨i, z, hi, hz, e1, e2, e3⟩ := info_of hi
  refine wpList_append_own w hgd s x t ho base e i z size bytes ht hi hz e1 e2 e3 hsz v n xs hs hown ⟨g, 0, none⟩ m c cs hx hl (fun j u hj => ?_) h1 h63 hbytes hbase fun v' w' k1 k2 _ => ?_
  · rw [show (⟨g, 0, none⟩ : Addr).add j = ⟨g, j, none⟩ from by unfold Addr.add; split <;> simp_all]
    exact hB j u hj
  · obtain ⟨p, cp, rfl, _⟩ := row_slice k1
    exact h p cp w' k1 ⟨k2.os, k2.tape, k2.output, k2.size, fun k hk hn => k2.block k hk fun e => hn e.symm⟩

theorem Rw.bs {w : World} {v : Value} {L : List Int} (h : Rw w v L) {p : Option Addr} {n cap : Nat} (hv : v = .slice p n cap) : BS w p L := by
  refine ⟨h.1, fun h0 => ?_⟩
  rcases h.2 with ⟨_, h2⟩ | ⟨g, c, cur, h1, hb, _⟩
  · rw [h2] at h0; simp at h0
  · rw [hv] at h1
    cases h1
    obtain ⟨g2, hg2, hc⟩ := h.cells hv
    cases hg2
    exact ⟨g, 0, rfl, hb.lt, ⟨fun i hi => by rw [Nat.zero_add, hc i ((L.map (Value.int .u8))[i]'(by simpa using hi)) (List.getElem?_eq_getElem _)]; simp [List.getElem?_eq_getElem hi], h.1⟩⟩

set_option maxHeartbeats 16000000 in
theorem execD_any (kb : Nat) (s : KV) (iv : Value) (L : List Nd) (nm : ByteArray) (pb o own used mf a1 a2 a3 a4 : Nat) (cells : List Value) (q : Option Addr) (qc : Nat) (sv : Value) (sok : Bool) (sp : Int) (srow : List Value) (w : World) (h : DK w kb s iv L) (hb : s.b = mf) (hmf : mf ≤ 1000) (hs : nm.size ≤ 1000000) (hsum : sumB (sks L) ≤ 100000)
    (hP : Blk w pb cells 83) (ho : o + 31 ≤ cells.length) (hc22 : cells[o + 22]? = some (.slice q own qc)) (hown : own ≤ used) (hused : used ≤ 100000) (hpk : pb ≠ kb) (hroot : isDir L 1 = true)
    (hU : ∀ W, Bel w W → Calls Tryz.prog 24 #[.pointer (some ⟨kb, 0, none⟩)] W fun e w' => e = .returned (.agg (usedC a1 used a2 a3 a4).toArray) ∧ Bel W w')
    (hst : ∀ W, Bel w W → Calls Tryz.prog 49 #[sv] W fun e w' => Bel W w' ∧ (sok = true → ∃ g c, e = .returned (.tuple #[.slice (some ⟨g, 0, none⟩) 2 c, .int .u64 sp, .int .i64 0]) ∧ (∀ j u, srow[j]? = some u → w'.cell? ⟨g, j, none⟩ = some u) ∧ srow.length = 516 ∧ (∀ u ∈ srow, u.oneCell' = true)) ∧ (sok = false → e = .returned (.tuple #[.slice none 0 0, .int .u64 0, .int .i64 6]))) :
    Calls Tryz.prog 30 #[.pointer (some ⟨kb, 0, none⟩), .pointer (some ⟨pb, o, none⟩), .string nm, sv] w fun e w' => ExecDRes w pb o cells (execE L nm.data.toList sok own used mf) (execB L nm.data.toList) srow sp e w' := by
  obtain ⟨g, cap, hiv, ht, hg⟩ := h.tree
  have hw := walk_any kb g cap L w ht nm hs (by have := h.few; omega)
  have hold := docWalk_old (L := L) (s := nm.data.toList) hroot
  have hfew := h.few
  unfold execE execB
  obtain ⟨d, x, n, c, hr⟩ : ∃ d x n c, docWalk L nm.data.toList = (d, x, n, c) := ⟨_, _, _, _, rfl⟩
  rw [hr] at hw hold ⊢
  simp only [walkV] at hw hold ⊢
  have HW := Lib.hid hw
  have HDK := Lib.hid h
  have HTR := Lib.hid ht
  have HU := Lib.hid hU
  have HST := Lib.hid hst
  have HP := Lib.hid hP
  have HC22 := Lib.hid hc22
  have HB := Lib.hid hb
  clear hw h ht hU hst hP hc22 hr hiv hb hroot
  by_cases hc : c = 0
  · subst hc
    rw [if_neg (by simp)]
    have hle := hold rfl
    by_cases hn : n = 0
    · subst hn
      rw [if_pos rfl]
      clear hold hle
      go_enter Tryz.func30, Tryz.ntmps30
      go_wp2_with (go_at_call 46; ((with_reducible refine Calls.mono HW.out ?_); rintro e w1 ⟨rfl, k1⟩))
      go_ret2
      exact ⟨rfl, Keep.of_bel _ k1, fun h => by cases h⟩
    · rw [if_neg hn]
      have hlt : n - 1 < L.length := by omega
      have hy := List.getElem?_eq_getElem hlt
      rw [hy]
      simp only
      have hyb := HDK.out.byts L[n - 1] (List.getElem_mem hlt)
      have hyl : L[n - 1].byt.length ≤ 100000 := by
        have := sumB_set (sks L) (n - 1) L[n - 1].sk { L[n - 1].sk with byt := [] } (by unfold sks; rw [List.getElem?_map, hy]; rfl)
        simp [Nd.sk] at this
        omega
      have hrg := HTR.out.2.2 (n - 1) L[n - 1] hy
      have hin := fun (W : World) (hW : Bel w W) => inode_any kb g cap L W (HTR.out.bel hW) n (by omega) hle (by omega)
      generalize L[n - 1] = y at *
      obtain ⟨bq, bc, hbv, hbc, _, _⟩ := hyb.1.slice
      have HRG := Lib.hid hrg
      have HIN := Lib.hid hin
      have HYB := Lib.hid hyb
      have HBV := Lib.hid hbv
      have hnb : ((n : Int) == 0) = false := beq_eq_false_iff_ne.2 (by omega)
      have hn1 : (0 : Int) ≤ ((n - 1 : Nat) : Int) := by omega
      have hn2 : ((n - 1 : Nat) : Int) < (L.length : Int) := by omega
      have hcl := HTR.out.2.1
      clear hold hy hyb hrg hin hbv hn
      simp only [Option.map_some, Option.getD_some]
      cases hyd : y.dir with
      | true =>
        rw [if_pos rfl]
        have hc3 := fun (W : World) (hW : Bel w W) => (show W.cell? ⟨g, (n - 1) * 5 + 3, none⟩ = some (.bool true) from by rw [← hyd]; exact cell_bel hW (HRG.out 3 _ rfl))
        have HC3 := Lib.hid hc3
        clear hyd hc3
        go_enter Tryz.func30, Tryz.ntmps30
        go_wp2_with (first
          | (go_at_call 46; ((with_reducible refine Calls.mono HW.out ?_); rintro e w1 ⟨rfl, k1⟩; have HK1 := Lib.hid k1; clear k1))
          | (go_at_call 34; ((with_reducible refine Calls.mono (HIN.out w1 HK1.out) ?_); rintro e w2 ⟨rfl, hh⟩; subst hh; have c3 := HC3.out w1 HK1.out; have c7 := (HTR.out.bel HK1.out).1)))
        go_ret2
        exact ⟨rfl, Keep.of_bel _ HK1.out, fun h => by cases h⟩
      | false =>
        rw [if_neg (by simp)]
        have hc3 := fun (W : World) (hW : Bel w W) => (show W.cell? ⟨g, (n - 1) * 5 + 3, none⟩ = some (.bool false) from by rw [← hyd]; exact cell_bel hW (HRG.out 3 _ rfl))
        have hc4 := fun (W : World) (hW : Bel w W) => (show W.cell? ⟨g, (n - 1) * 5 + 4, none⟩ = some (.slice bq y.byt.length bc) from by rw [← HBV.out]; exact cell_bel hW (HRG.out 4 _ rfl))
        have HC3 := Lib.hid hc3
        have HC4 := Lib.hid hc4
        have hld := fun (W : World) (hW : Bel w W) => loadRD_of bq bc y.byt hbc (by omega) W ((HYB.out.1.bel hW).bs HBV.out)
        clear hyd hc3 hc4
        by_cases hl : loadE y.byt = 0
        · rw [if_neg (by simpa using hl)]
          obtain ⟨l1, l2, l3, l4⟩ := loadE_ok hl
          have hld2 := fun (W : World) (hW : Bel w W) => (hld W hW).mono fun e w' h => And.intro (h.2.ok l1 l2 l3 l4) h.1
          have HLD := Lib.hid hld2
          obtain ⟨m, hm⟩ : ∃ m, spaceTo y.byt (segN y.byt).toNat = m := ⟨_, rfl⟩
          have hms : spaceL y.byt = m := hm
          obtain ⟨E, hE⟩ : ∃ E, numAt y.byt 24 8 = E := ⟨_, rfl⟩
          rw [hm, hE] at HLD
          rw [hms]
          have hpl := pageNums_length m
          have HMS := Lib.hid hms
          have HEQ := Lib.hid hE
          clear hl l1 l2 l3 l4 hld hld2 hm hms hE
          cases sok with
          | false =>
            rw [if_pos rfl]
            have HSB := Lib.hid fun W hW => (HST.out W hW).mono fun e w' h => And.intro (h.2.2 rfl) h.1
            go_enter Tryz.func30, Tryz.ntmps30
            go_wp2_with (first
              | (go_at_call 46; ((with_reducible refine Calls.mono HW.out ?_); rintro e w1 ⟨rfl, k1⟩; have HK1 := Lib.hid k1; clear k1))
              | (go_at_call 34; ((with_reducible refine Calls.mono (HIN.out w1 HK1.out) ?_); rintro e w2 ⟨rfl, hh⟩; subst hh; have c3 := HC3.out w1 HK1.out; have c4 := HC4.out w1 HK1.out; have c7 := (HTR.out.bel HK1.out).1))
              | (go_at_call 48; ((with_reducible refine Calls.mono (HLD.out w1 HK1.out) ?_); rintro e w3 ⟨⟨v, rfl, hrow⟩, k3⟩; have HK3 := Lib.hid (HK1.out.tr k3); clear k3 hrow))
              | (go_at_call 49; ((with_reducible refine Calls.mono (HSB.out w3 HK3.out) ?_); rintro e w4 ⟨rfl, k4⟩; have HK4 := Lib.hid (HK3.out.tr k4); clear k4)))
            go_ret2
            exact ⟨rfl, Keep.of_bel _ HK4.out, fun h => by cases h⟩
          | true =>
            rw [if_neg (by simp)]
            have HSG := Lib.hid fun W hW => (HST.out W hW).mono fun e w' h => And.intro (h.2.1 rfl) h.1
            have hw1 : IntKind.i64.wrap ((used : Int) - (own : Int)) = (used : Int) - (own : Int) := by rw [IntKind.wrap_i64]; omega
            have hw2 : IntKind.i64.wrap ((used : Int) - (own : Int) + ((pageNums m).length : Int)) = (used : Int) - (own : Int) + ((pageNums m).length : Int) := by rw [IntKind.wrap_i64]; omega
            have hw3 : IntKind.i64.wrap ((used : Int) - (own : Int) + ((pageNums m).length : Int) + 2) = (used : Int) - (own : Int) + ((pageNums m).length : Int) + 2 := by rw [IntKind.wrap_i64]; omega
            have HW1 := Lib.hid hw1
            have HW2 := Lib.hid hw2
            have HW3 := Lib.hid hw3
            obtain ⟨N, hN⟩ : ∃ N, (pageNums m).length = N := ⟨_, rfl⟩
            rw [hN] at HLD HW2 HW3 hpl ⊢
            have HN := Lib.hid hN
            obtain ⟨ec, hec⟩ : ∃ ec : Nat, (if mf < used - own + N + 2 then 7 else 0) = ec := ⟨_, rfl⟩
            rw [hec]
            have HEC := Lib.hid hec
            clear hw1 hw2 hw3 hN hec
            go_enter Tryz.func30, Tryz.ntmps30
            go_upto_region 16 with (first
              | (go_at_call 46; ((with_reducible refine Calls.mono HW.out ?_); rintro e w1 ⟨rfl, k1⟩; have HK1 := Lib.hid k1; clear k1))
              | (go_at_call 34; ((with_reducible refine Calls.mono (HIN.out w1 HK1.out) ?_); rintro e w2 ⟨rfl, hh⟩; subst hh; have c3 := HC3.out w1 HK1.out; have c4 := HC4.out w1 HK1.out; have c7 := (HTR.out.bel HK1.out).1))
              | (go_at_call 48; ((with_reducible refine Calls.mono (HLD.out w1 HK1.out) ?_); rintro e w3 ⟨⟨v, rfl, hrow⟩, k3⟩; obtain ⟨pv, cv, rfl, hcv, hcm, _⟩ := row_slice hrow; have HROW := Lib.hid (hrow.mono HK1.out.size); have HK3 := Lib.hid (HK1.out.tr k3); clear k3 hrow))
              | (go_at_call 49; ((with_reducible refine Calls.mono (HSG.out w3 HK3.out) ?_); rintro e w4 ⟨⟨g2, c2, rfl, hsc, hsl, hso⟩, k4⟩; have HSC := Lib.hid hsc; have HSL := Lib.hid hsl; have HSO := Lib.hid hso; have HROW4 := Lib.hid (row_bel HROW.out k4); have HK34 := Lib.hid k4; have HK4 := Lib.hid (HK3.out.tr k4); clear k4 hsc hsl hso))
              | (go_at_call 24; ((with_reducible refine Calls.mono (HU.out w4 HK4.out) ?_); rintro e w5 ⟨rfl, k5⟩; have HK45 := Lib.hid k5; clear k5))
              | (refine wpList_store_blk rfl 59 (.tmp 21) (.tmp 72) rfl rfl w5.heap.size (usedC a1 used a2 a3 a4) (usedC 0 0 0 0 0) 59 (Blk.new w5 _ _) rfl rfl (by kernel_rfl) rfl (by intro v hv; simp [usedC] at hv; rcases hv with rfl | rfl | rfl | rfl | rfl <;> rfl) ?_; intro w6 B6 K6))
            have kc : Bel w5 w6 := (Below.heap_alloc' w5 _).trans (K6.below _ (by simp) (fun k hk => by omega))
            have cu : w6.cell? ⟨w5.heap.size, 1, none⟩ = some (.int .i64 (used : Int)) := B6.out.cell 1
            have HK6 := Lib.hid ((HK4.out.tr HK45.out).tr kc)
            have HK46 := Lib.hid (HK45.out.tr kc)
            generalize w5.heap.size = g21 at *
            have c22 : w6.cell? ⟨pb, o + 22, none⟩ = some (.slice q own qc) := by rw [(HP.out.bel HK6.out).cell]; exact HC22.out
            have cf : w6.cell? ⟨kb, 1, none⟩ = some (.int .i64 (mf : Int)) := by rw [← HB.out]; exact (HDK.out.bel HK6.out).blk.cell 1
            have hw1 := HW1.out
            have hw2 := HW2.out
            have hw3 := HW3.out
            clear kc B6 K6 c3 c4 c7
            by_cases hmm : mf < used - own + N + 2
            · have HE7 : Hid (ec = 7) := Lib.hid (by rw [← HEC.out, if_pos hmm])
              have hgt : (mf : Int) < (used : Int) - (own : Int) + (N : Int) + 2 := by omega
              clear hmm
              go_quiet (fail)
              go_wp2
              go_ret2
              exact ⟨by rw [HE7.out]; rfl, Keep.of_bel _ (bel_drewN HK6.out nq), fun h => by rw [HE7.out] at h; cases h⟩
            · have HE0 : Hid (ec = 0) := Lib.hid (by rw [← HEC.out, if_neg hmm])
              have hgt : ¬ ((mf : Int) < (used : Int) - (own : Int) + (N : Int) + 2) := by omega
              clear hmm
              go_quiet (fail)
              have kd : Bel w6 (w6.drewN nq) := bel_drewN (Bel.refl _) nq
              generalize w6.drewN nq = w7 at *
              have HK7 := Lib.hid (HK6.out.tr kd)
              have HROW7 := Lib.hid ((row_bel HROW4.out (HK46.out.tr kd)).mono (Nat.le_refl _))
              have HSC7 : Hid (∀ j u, srow[j]? = some u → w7.cell? ⟨g2, j, none⟩ = some u) := Lib.hid fun j u hj => cell_bel (HK46.out.tr kd) (HSC.out j u hj)
              clear kd cu c22 cf hw1 hw2 hw3 hgt
              have HP7 := Lib.hid (HP.out.bel HK7.out)
              have hpbl := HP.out.lt
              have HNE8 : Hid (∀ g', (Value.slice pv N cv).ownBlock = some g' → w.heap.size ≤ g') := Lib.hid (own_ge HROW7.out)
              go_upto_region 19 with (refine wpList_append_cells (n := N) (size := 258) (bytes := 272) rfl (.tmp 92) (.tmp 93) 80 rfl Tryz.underlying80 pageInfoR (by omega) rfl HROW7.out g2 2 c2 srow rfl HSC7.out HSL.out HSO.out (by unfold maxLen; omega) (by omega) HK7.out.size ?_; intro p8 c8 w8 R8 K8; have HR8 := Lib.hid R8; have HP8 := Lib.hid (HP7.out.keep K8 (fun e => by have := HNE8.out _ e; omega)); have HK8 := Lib.hid K8; have c22 : w8.cell? ⟨pb, o + 22, none⟩ = some (.slice q own qc) := (HP8.out.cell _).trans HC22.out; have f22 := HP8.out.frozen; have hl8 := HP8.out.lt; clear R8 K8)
              have HP9 := HP8.out.setCell (o := o + 22) (.slice p8 (N + 2) c8)
              have HR9 := row_keep HR8.out (Keep.setCell w8 pb (o + 22) (.slice p8 (N + 2) c8)) (fun g' hg' e => by omega)
              have HK9 : Hid (Keep (fun q => q = pb ∨ w.heap.size ≤ q) w (w8.setCell ⟨pb, o + 22, none⟩ (.slice p8 (N + 2) c8))) := Lib.hid (((Keep.of_bel _ HK7.out).tr (HK8.out.mono fun q h => .inr (HNE8.out _ h))).tr ((Keep.setCell w8 pb _ _).mono fun q h => .inl h))
              clear c22 f22 hl8
              generalize w8.setCell ⟨pb, o + 22, none⟩ (.slice p8 (N + 2) c8) = w9 at *
              obtain ⟨cs9, hcs9⟩ : ∃ c, cells.set (o + 22) (.slice p8 (N + 2) c8) = c := ⟨_, rfl⟩
              rw [hcs9] at HP9
              have hl9 : cs9.length = cells.length := by rw [← hcs9, List.length_set]
              have c5 : w9.cell? ⟨pb, o + 5, none⟩ = some (cs9[o + 5]'(by omega)) := by rw [HP9.cell]; exact List.getElem?_eq_getElem _
              have f5 := HP9.frozen
              have hw9 := HP9.lt
              have HCS9 := Lib.hid hcs9
              have HPB9 := Lib.hid HP9
              have HRB9 := Lib.hid HR9
              generalize cs9[o + 5]'(by omega) = old5 at *
              clear HP9 HR9 hcs9
              go_upto_region 20 with fail
              have HP10 := HPB9.out.setCell (o := o + 5) (.int .u64 E)
              have HR10 := row_keep HRB9.out (Keep.setCell w9 pb (o + 5) (.int .u64 E)) (fun g' hg' e => by omega)
              have HK10 : Hid (Keep (fun q => q = pb ∨ w.heap.size ≤ q) w (w9.setCell ⟨pb, o + 5, none⟩ (.int .u64 E))) := Lib.hid (HK9.out.tr ((Keep.setCell w9 pb _ _).mono fun q h => .inl h))
              clear c5 f5 hw9
              generalize w9.setCell ⟨pb, o + 5, none⟩ (.int .u64 E) = w10 at *
              have hth : w10.there pb (o + 6) 16 := fun j hj => ⟨by rw [HP10.cell, List.getElem?_eq_getElem (by simp; omega)]; rfl, HP10.frozen _⟩
              have HTH := Lib.hid hth
              have HPB10 := Lib.hid HP10
              have HRB10 := Lib.hid HR10
              clear hth HP10 HR10
              go_upto_region 21 with (refine wpList_store_mid rfl 75 (.tmp 104) (.tmp 102) rfl pb (o + 6) (List.replicate 16 (Value.int .u64 0)).toArray rfl rfl HTH.out (by kernel_rfl) (all_oneCell_toArray (by intro v hv; rw [List.eq_of_mem_replicate hv]; rfl)) ?_)
              have HP11 := HPB10.out.setCells (o + 6) (List.replicate 16 (Value.int .u64 0)) (by simp; omega)
              have hk11 := Keep.setCells w10 pb (o + 6) (List.replicate 16 (Value.int .u64 0))
              have HR11 := row_keep HRB10.out hk11 (fun g' hg' e => by omega)
              have HK11 : Hid (Keep (fun q => q = pb ∨ w.heap.size ≤ q) w (w10.setCells pb (o + 6) (List.replicate 16 (Value.int .u64 0)))) := Lib.hid (HK10.out.tr (hk11.mono fun q h => .inl h))
              generalize w10.setCells pb (o + 6) (List.replicate 16 (Value.int .u64 0)) = w11 at *
              obtain ⟨cs11, hcs11⟩ : ∃ c, splice (cs9.set (o + 5) (.int .u64 E)) (o + 6) (List.replicate 16 (Value.int .u64 0)) = c := ⟨_, rfl⟩
              rw [hcs11] at HP11
              have hl11 : cs11.length = cells.length := by rw [← hcs11, length_splice _ _ _ (by simp; omega), List.length_set]; exact hl9
              have c21 : w11.cell? ⟨pb, o + 6 + 15, none⟩ = some (cs11[o + 6 + 15]'(by omega)) := by rw [HP11.cell]; exact List.getElem?_eq_getElem _
              have f21 := HP11.frozen
              have hw11 := HP11.lt
              have HC11 := Lib.hid hcs11
              have HPB11 := Lib.hid HP11
              have HRB11 := Lib.hid HR11
              generalize cs11[o + 6 + 15]'(by omega) = old21 at *
              clear HP11 HR11 hcs11 hk11
              go_wp2
              go_ret2
              refine ⟨by rw [HE0.out]; rfl, ?_, fun _ => ⟨.slice p8 (N + 2) c8, ?_, ?_⟩⟩
              · have hk := HK11.out.tr ((Keep.setCell w11 pb (o + 6 + 15) (.int .u64 sp)).mono fun q h => .inl h)
                exact ⟨hk.os, hk.tape, hk.output, hk.size, fun k hk1 hn => hk.block k hk1 fun h => by
                  rcases h with h | h
                  · exact hn h
                  · omega⟩
              · have := row_keep HRB11.out (Keep.setCell w11 pb (o + 6 + 15) (.int .u64 sp)) (fun g' hg' e => by omega)
                rw [HMS.out, HN.out]
                unfold refRow
                exact this
              · have := HPB11.out.setCell (o := o + 6 + 15) (.int .u64 sp)
                unfold execC
                rw [HEQ.out, HCS9.out, HC11.out, show o + 21 = o + 6 + 15 from by omega]
                exact this
        · rw [if_pos hl]
          have hld2 := fun (W : World) (hW : Bel w W) => (hld W hW).mono fun e w' h => And.intro (h.2.err hl) h.1
          obtain ⟨c, hcc⟩ : ∃ c, loadE y.byt = c := ⟨_, rfl⟩
          rw [hcc] at hl hld2 ⊢
          have HLD := Lib.hid hld2
          have hcb : ((c : Int) == 0) = false := beq_eq_false_iff_ne.2 (by omega)
          have HCN := Lib.hid hl
          clear hl hld hld2 hcc
          go_enter Tryz.func30, Tryz.ntmps30
          go_wp2_with (first
            | (go_at_call 46; ((with_reducible refine Calls.mono HW.out ?_); rintro e w1 ⟨rfl, k1⟩; have HK1 := Lib.hid k1; clear k1))
            | (go_at_call 34; ((with_reducible refine Calls.mono (HIN.out w1 HK1.out) ?_); rintro e w2 ⟨rfl, hh⟩; subst hh; have c3 := HC3.out w1 HK1.out; have c4 := HC4.out w1 HK1.out; have c7 := (HTR.out.bel HK1.out).1))
            | (go_at_call 48; ((with_reducible refine Calls.mono (HLD.out w1 HK1.out) ?_); rintro e w3 ⟨rfl, k3⟩; have HK3 := Lib.hid (HK1.out.tr k3); clear k3)))
          go_ret2
          exact ⟨rfl, Keep.of_bel _ HK3.out, fun h => absurd h HCN.out⟩
  · rw [if_pos hc]
    have hcb : ((c : Int) == 0) = false := beq_eq_false_iff_ne.2 (by omega)
    have HC := Lib.hid hc
    clear hc hold
    go_enter Tryz.func30, Tryz.ntmps30
    go_wp2_with (go_at_call 46; ((with_reducible refine Calls.mono HW.out ?_); rintro e w1 ⟨rfl, k1⟩))
    go_ret2
    exact ⟨rfl, Keep.of_bel _ k1, fun h => absurd h HC.out⟩
end Go.Proofs.YtkcjafnaephjiaaGreatDoor

/- Boot in plain words. -/
namespace Go.Proofs.YtkcjafnaephjiaaGreatDoor
open Go.RowKit
set_option maxRecDepth 100000

/-- One of Boot's files, as it lies in memory. -/
structure FileA where
  path : ByteArray
  dir : Bool
  p : Option Addr
  cap : Nat
  byt : List Int
def rootNd : Nd := ⟨0, ⟨#[]⟩, true, [], emptyB⟩
def filesF (mi mb : Nat) : List Nd → List FileA → Nat × List Nd
  | N, [] => (0, N)
  | N, f :: fs => if (fileF mi mb N f.path.data.toList f.dir f.byt).1 ≠ 0 then ((fileF mi mb N f.path.data.toList f.dir f.byt).1, N) else filesF mi mb (fileF mi mb N f.path.data.toList f.dir f.byt).2 fs
structure Lims where
  a : Int
  b : Int
  c : Int
  d : Int
  e : Int
/-- Are the limits those of a kernel? -/
def Lims.okA (l : Lims) : Bool := decide (1 ≤ l.a ∧ l.a ≤ 16 ∧ 1 ≤ l.b ∧ l.b ≤ 1000)
def Lims.okB (l : Lims) : Bool := decide (0 ≤ l.c ∧ l.c ≤ 100000 ∧ 0 ≤ l.d ∧ l.d ≤ 100000 ∧ 0 ≤ l.e ∧ l.e ≤ 100000)
def initP : List UInt8 := [47, 105, 110, 105, 116]
/-- Boot's error; 0: none. -/
noncomputable def bootE (l : Lims) (F : List FileA) : Nat :=
  if l.okA = false then 6 else if l.okB = false then 6 else if l.d = 0 then 12 else
  if (filesF l.d.toNat l.e.toNat [rootNd] F).1 ≠ 0 then (filesF l.d.toNat l.e.toNat [rootNd] F).1 else
  execE (filesF l.d.toNat l.e.toNat [rootNd] F).2 initP true 0 0 l.b.toNat

theorem isDir_app {N M : List Nd} (h : isDir N 1 = true) : isDir (N ++ M) 1 = true := by
  obtain ⟨x, hx, hd⟩ := isDir_lt h
  unfold isDir
  rw [List.getElem?_append_left (List.getElem?_eq_some_iff.1 hx).1, hx]
  exact hd
theorem putB_inv {mb : Nat} {N : List Nd} {n : Nat} {b : List Int} (hs : sumB N ≤ mb) (hr : isDir N 1 = true) (h : (putB mb N n b).1 = 0) : sumB (putB mb N n b).2 ≤ mb ∧ isDir (putB mb N n b).2 1 = true ∧ (putB mb N n b).2.length = N.length := by
  unfold putB at h ⊢
  cases hx : N[n - 1]? with
  | none => rw [hx] at h; cases h
  | some x =>
    rw [hx] at h
    simp only at h ⊢
    by_cases h1 : x.dir = true
    · rw [if_pos h1] at h; cases h
    · rw [if_neg h1] at h ⊢
      by_cases h2 : 0 < b.length ∧ mb < sumB N + (b.length - x.byt.length)
      · rw [if_pos h2] at h; cases h
      · rw [if_neg h2]
        refine ⟨?_, ?_, by simp⟩
        · have := sumB_set N (n - 1) x { x with byt := b ++ x.byt.drop b.length } hx
          simp only [List.length_append, List.length_drop] at this
          show sumB (N.set (n - 1) _) ≤ mb
          by_cases h0 : 0 < b.length
          · have h3 : ¬ mb < sumB N + (b.length - x.byt.length) := fun h => h2 ⟨h0, h⟩
            omega
          · omega
        · show isDir (N.set (n - 1) _) 1 = true
          obtain ⟨y, hy, hyd⟩ := isDir_lt hr
          unfold isDir
          by_cases e : n - 1 = 1 - 1
          · rw [← e] at hy
            rw [hx] at hy
            cases hy
            exact absurd hyd h1
          · rw [List.getElem?_set_ne e, hy]
            exact hyd
theorem fileF_inv {mi mb : Nat} {N : List Nd} {path : List UInt8} {is : Bool} {b : List Int} (hs : sumB N ≤ mb) (hr : isDir N 1 = true) (h : (fileF mi mb N path is b).1 = 0) :
    sumB (fileF mi mb N path is b).2 ≤ mb ∧ isDir (fileF mi mb N path is b).2 1 = true ∧ (fileF mi mb N path is b).2.length ≤ N.length + 1 := by
  unfold fileF at h ⊢
  cases is with
  | true =>
    simp only [if_true] at h ⊢
    unfold mkF at h ⊢
    split at h
    · rename_i h1; exact absurd h h1
    · rename_i h1
      rw [if_neg h1]
      split at h
      · cases h
      · rename_i h2
        rw [if_neg h2]
        split at h
        · cases h
        · rename_i h3
          rw [if_neg h3]
          refine ⟨?_, isDir_app hr, by simp⟩
          show sumB (N ++ _) ≤ mb
          rw [sumB_app]
          exact hs
  | false =>
    simp only [Bool.false_eq_true, if_false] at h ⊢
    split at h
    · rename_i h1; exact absurd h h1
    · rename_i h1
      rw [if_neg h1]
      split at h
      · rename_i h2
        rw [if_pos h2]
        split at h
        · cases h
        · rename_i h3
          rw [if_neg h3]
          obtain ⟨k1, k2, k3⟩ := putB_inv (mb := mb) (N := N ++ [⟨(docWalk N path).1, (docWalk N path).2.1, false, [], emptyB⟩]) (by rw [sumB_app]; exact hs) (isDir_app hr) h
          exact ⟨k1, k2, by rw [k3]; simp⟩
      · rename_i h2
        rw [if_neg h2]
        obtain ⟨k1, k2, k3⟩ := putB_inv hs hr h
        exact ⟨k1, k2, by omega⟩
theorem rootNd_ok (mb : Nat) : sumB [rootNd] ≤ mb ∧ isDir [rootNd] 1 = true := ⟨Nat.zero_le _, rfl⟩
end Go.Proofs.YtkcjafnaephjiaaGreatDoor
