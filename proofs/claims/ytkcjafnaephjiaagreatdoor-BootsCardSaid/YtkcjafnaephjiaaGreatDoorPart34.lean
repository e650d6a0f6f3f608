/- (*Tree).All: the closure that calls itself. -/
import Derived.Maps.AppendAt
import Derived.Deep.RegionHeld3
import Derived.Deep.DrawnRows
import Derived.Deep.DeepCutAuto
import Derived.Test.YtkcjafnaephjiaaGreatDoorPart33
set_option linter.unusedVariables false
set_option linter.unusedSimpArgs false
namespace Go.Proofs.YtkcjafnaephjiaaGreatDoor
open Go.RowKit
set_option maxRecDepth 100000

/-- append of an own row by one step; where the row lies. -/
theorem step_append_at {P : Program} {w : World} {base : Nat} {e : TypeId} {size : Nat} {v : Value} {n : Nat} {xs : List Value} {ops : Array Oper} {o : Oper} {a : Act} {K : Act → World → Prop} {Q : Exit → Act → World → Prop} {E : Prop} (hgd : o.guard = none) (s x : Operand) (t : TypeId)
    (ho : o.op = .call { callee := .builtin .append, args := #[s, x], argTypes := #[t, t] }) {bytes : Nat} (ht : P.underlying t = some (.slice e))
    (hi : (P.info? e).map (fun i => (i.size, i.bytes, (i.zero.map (·.cells.size)))) = some (size, bytes, some size)) (hsz : 0 < size)
    (hs : a.eval s = v) (hown : w.ownsRow base e size v n xs) (g m c : Nat) (cs : List Value) (hx : a.eval x = .slice (some ⟨g, 0, none⟩) m c) (hB : ∀ j u, cs[j]? = some u → w.cell? ⟨g, j, none⟩ = some u) (hl : cs.length = m * size) (h1 : ∀ u ∈ cs, u.oneCell' = true)
    (h63 : n + m ≤ maxLen) (hbytes : (n + m) * bytes ≤ 140737488355328) (hbase : base ≤ w.heap.size)
    (h : ∀ p cp w', w'.ownsRow base e size (.slice p (n + m) cp) (n + m) (xs ++ cs) → Keep (fun q => v.ownBlock = some q) w w' → (∀ q, (Value.slice p (n + m) cp).ownBlock = some q → v.ownBlock = some q ∨ q = w.heap.size) → K (a.put o.dst (.slice p (n + m) cp)) w') : if Region.wanted o (yielded ops a.tmps) = true then Oper.wp P o a w K Q else E := by
  have hw : Region.wanted o (yielded ops a.tmps) = true := by simp [Region.wanted, hgd]
  rw [if_pos hw]
  obtain ⟨i, z, hi, hz, e1, e2, e3⟩ := info_of hi
  obtain ⟨v', w', hrun, k1, k2, _, k3⟩ := run_append_own_at (P := P) w base t o.type e i z size bytes ht hi hz e1 e2 e3 hsz v n xs hown ⟨g, 0, none⟩ m c cs hl (fun j u hj => by
    rw [show (⟨g, 0, none⟩ : Addr).add j = ⟨g, j, none⟩ from by unfold Addr.add; split <;> simp_all]
    exact hB j u hj) h1 h63 hbytes hbase
  obtain ⟨p, cp, rfl, _⟩ := row_slice k1
  unfold Oper.wp
  simp [execOp, ho, resolve, invoke, builtin, hs, hx, hrun, Result.andThen]
  exact h p cp w' k1 ⟨k2.os, k2.tape, k2.output, k2.size, fun k hk hn => k2.block k hk fun e => hn e.symm⟩ fun q hq => by
    rcases k3 with k3 | k3
    · exact .inl (k3 ▸ hq)
    · exact .inr (Option.some.inj (hq.symm.trans k3))
set_option maxHeartbeats 4000000 in
theorem sortedN_none (w : World) : Calls Tryz.prog 80 #[.map none] w fun e w' => e = .returned (.slice none 0 0) ∧ Bel w w' := by
  go_enter Tryz.func80, Tryz.ntmps80
  go_wp2_with (first
    | (go_at_call 98; refine (keysS_any _ _).mono ?_; rintro e w1 ⟨rfl, rfl⟩)
    | (go_at_call 97; refine (sortedS_none w.heap.size _ (by simp) (by simp)).mono ?_; rintro e w2 ⟨rfl, k2⟩; have HK2 : Hid (Bel w w2) := Lib.hid ((Bel.start w _).tr k2); clear k2))
  refine wp_loop_rounds 1 ?_
  rw [rounds_succ]
  go_wp2
  go_ret
  exact ⟨rfl, HK2.out⟩

theorem byteInfoA : (Tryz.prog.info? 5).map (fun i => (i.size, i.bytes, (i.zero.map (·.cells.size)))) = some (1, 1, some 1) := by kernel_rfl
def fileInfo0 : Prop := (Tryz.prog.info? 44).map (fun i => (i.size, i.bytes, (i.zero.map (·.cells.size)))) = some (3, 48, some 3)
theorem fileInfo : fileInfo0 := by unfold fileInfo0; kernel_rfl
/-- What is handed out of a node. -/
def nodeK (T : List Pn) (k : Nat) : List UInt8 × Bool × List Int := (pathL (nds T) k, ((T[k - 1]?).map Pn.dir).getD false, ((T[k - 1]?).map Pn.byt).getD [])
def FileR.key (r : FileR) : List UInt8 × Bool × List Int := (r.path, r.dir, r.byt)
/-- The closure's two variables. -/
structure Boxes (w : World) (bl bw : Nat) (v : Value) : Prop where
  l : Blk w bl [v] 24
  f : Blk w bw [.func (.func 79) #[] #[.pointer (some ⟨bl, 0, none⟩), .pointer (some ⟨bw, 0, none⟩)]] 223
/-- Behind a call: the nodes of D were appended. -/
structure AllRes (W : World) (bl bw base : Nat) (v : Value) (R : List FileR) (T : List Pn) (D : List Nat) (w' : World) : Prop where
  out : ∃ (v' : Value) (E : List Nat) (Rn : List FileR), E.Perm D ∧ Rn.map FileR.key = E.map (nodeK T) ∧ Boxes w' bl bw v' ∧ FRows w' base v' (R ++ Rn) ∧ Keep (fun q => q = bl ∨ v.ownBlock = some q) W w' ∧ ∀ q, v'.ownBlock = some q → v.ownBlock = some q ∨ W.heap.size ≤ q
theorem all_step {wr w5 w8 : World} {base bl bw n c5 c8 : Nat} {v' : Value} {RR : List FileR} {p5 p8 : Option Addr} {o : Obj} {r : FileR} {cs : List Value} (hbx : Boxes wr bl bw v') (hfr : FRows wr base v' RR) (hbb : bl < base) (hbw : bw < base) (hne : bl ≠ bw) (hk5 : Bel wr w5)
    (h5 : Rw w5 (.slice p5 n c5) r.byt) (h6 : ∀ g, (Value.slice p5 n c5).ownBlock = some g → wr.heap.size ≤ g) (hbase : base ≤ wr.heap.size)
    (R8 : w8.ownsRow base 44 3 (.slice p8 (RR.length + 1) c8) (RR.length + 1) (RR.flatMap FileR.cells ++ cs)) (K8 : Keep (fun q => v'.ownBlock = some q) (w5.alloc o) w8) (O8 : ∀ q, (Value.slice p8 (RR.length + 1) c8).ownBlock = some q → v'.ownBlock = some q ∨ q = (w5.alloc o).heap.size)
    (hr : r.cells = cs) (hrb : r.bv = .slice p5 n c5) :
    Boxes (w8.setCell ⟨bl, 0, none⟩ (.slice p8 (RR.length + 1) c8)) bl bw (.slice p8 (RR.length + 1) c8) ∧ FRows (w8.setCell ⟨bl, 0, none⟩ (.slice p8 (RR.length + 1) c8)) base (.slice p8 (RR.length + 1) c8) (RR ++ [r]) ∧
      Keep (fun q => q = bl ∨ v'.ownBlock = some q) wr (w8.setCell ⟨bl, 0, none⟩ (.slice p8 (RR.length + 1) c8)) ∧ ∀ q, (Value.slice p8 (RR.length + 1) c8).ownBlock = some q → v'.ownBlock = some q ∨ wr.heap.size ≤ q := by
  have hv : ∀ q, v'.ownBlock = some q → base ≤ q := fun q hq => (row_blk hfr.row hq).1
  have ka : Bel wr (w5.alloc o) := hk5.ac o
  have B8 := (hbx.l.bel ka).keep K8 (fun e => by have := hv _ e; omega)
  have F8 := (hbx.f.bel ka).keep K8 (fun e => by have := hv _ e; omega)
  have ks := Keep.setCell w8 bl 0 (.slice p8 (RR.length + 1) c8)
  refine ⟨⟨B8.setCell (o := 0) _, F8.keep ks (fun e => hne e.symm)⟩, ?_, ?_, ?_⟩
  · have hfa := hfr.bel ka
    have h5a : Rw (w5.alloc o) r.bv r.byt := by rw [hrb]; exact h5.bel (Bel.start w5 o)
    have hs := hfa.snoc (r := r) h5a (fun g hg => by rw [hrb] at hg; have := h6 g hg; omega) (by decide) (by rw [hr]; exact R8) K8
    exact hs.keep ks (fun g hg _ e => by have e : g = bl := e; omega)
  · exact ((Keep.of_bel _ ka).tr (K8.mono fun q h => .inr h)).tr (ks.mono fun q h => .inl h)
  · intro q hq
    rcases O8 q hq with h | h
    · exact .inl h
    · have := ka.size
      exact .inr (by omega)
set_option maxHeartbeats 16000000 in
theorem all1_any (A : Adr) (T : List Pn) (hl : T.length ≤ 8000) (hlv : Live T) (hs : ∀ n ∈ nds T, n.name.size ≤ 1000) (hby : ∀ n ∈ T, n.byt.length ≤ 1000000) (bl bw base : Nat) (hbb : bl < base) (hbw : bw < base) (hbne : bl ≠ bw) (hfoot : ∀ q, TFoot A T q → q < base ∧ q ≠ bl) :
    ∀ (f d : Nat) (n : Pn) (W : World) (v : Value) (R : List FileR), T.length ≤ d + f → T[d]? = some n → n.gone = false → PTree W A T → base ≤ W.heap.size → Boxes W bl bw v → FRows W base v R → R.length + (descF (nds T) f (d + 1)).length ≤ 100000 →
    Calls Tryz.prog 79 #[A.ptr (d + 1), .pointer (some ⟨bl, 0, none⟩), .pointer (some ⟨bw, 0, none⟩)] W fun e w' => e = .returned (.tuple #[]) ∧ AllRes W bl bw base v R T (descF (nds T) f (d + 1)) w' := by
  intro f
  induction f with
  | zero =>
    intro d n W v R hf hd
    have := (List.getElem?_eq_some_iff.1 hd).1
    omega
  | succ f ih =>
    intro d n W v R hf hd hg ht hbase hbx hfr hcnt
    have hB := ht.node d n hd
    have c2 : W.cell? ⟨A.nb (d + 1), 2, none⟩ = some (.map (n.map A (d + 1))) := hB.cell 2
    rw [show A.ptr (d + 1) = .pointer (some ⟨A.nb (d + 1), 0, none⟩) from rfl]
    cases hdir : n.dir with
    | false =>
      have hkn : kidN (nds T) (d + 1) = [] := by
        refine List.eq_nil_iff_forall_not_mem.2 fun k hk => ?_
        obtain ⟨j, x, hj, hp, rfl⟩ := kidN_mem.1 hk
        unfold nds at hj
        rw [List.getElem?_map] at hj
        cases hy : T[j]? with
        | none => rw [hy] at hj; cases hj
        | some y =>
          rw [hy] at hj
          simp only [Option.map_some, Option.some.injEq] at hj
          subst hj
          have hyp : y.par = d + 1 := by
            have : (if y.gone then 0 else y.par) = d + 1 := hp
            split at this
            · omega
            · exact this
          obtain ⟨p, h1, h2⟩ := ht.pdir j y hy (by omega)
          rw [hyp, Nat.add_sub_cancel, hd] at h1
          cases h1
          rw [hdir] at h2
          cases h2
      rw [show n.map A (d + 1) = none from by unfold Pn.map; rw [hdir]; rfl] at c2
      have HFR := Lib.hid hfr
      have HBX := Lib.hid hbx
      clear hfr hbx hB ht
      go_enter Tryz.func79, Tryz.ntmps79
      go_wp2_with (go_at_call 80; ((with_reducible refine Calls.mono (sortedN_none _) ?_); rintro e w1 ⟨rfl, k1⟩; have HK1 := Lib.hid k1; clear k1))
      refine wp_loop_rounds 1 ?_
      rw [rounds_succ]
      go_wp2
      go_end0
      refine ⟨rfl, ⟨v, [], [], ?_, rfl, ⟨HBX.out.l.bel HK1.out, HBX.out.f.bel HK1.out⟩, by rw [List.append_nil]; exact HFR.out.bel HK1.out, Keep.of_bel _ HK1.out, fun q hq => .inl hq⟩⟩
      unfold descF
      rw [hkn]
      exact List.Perm.nil
    | true =>
      have hvl : ∀ q, v.ownBlock = some q → base ≤ q ∧ q < W.heap.size := fun q hq => by
        obtain ⟨h1, cur, h2⟩ := row_blk hfr.row hq
        exact ⟨h1, h2.lt⟩
      have hso := fun W' (hW : Bel W W') => sortedN_any A T d n W' (ht.bel hW) hl hd hdir hs
      rw [show n.map A (d + 1) = some (A.mb (d + 1)) from by unfold Pn.map; rw [hdir]; rfl] at c2
      have HSO := Lib.hid hso
      have HFR := Lib.hid hfr
      have HBX := Lib.hid hbx
      have HT := Lib.hid ht
      have HVL := Lib.hid hvl
      have HD := Lib.hid (And.intro hd (And.intro hg hdir))
      clear hfr hbx hB ht hso hvl hd hg hdir
      go_enter Tryz.func79, Tryz.ntmps79
      go_wp2_with (go_at_call 80; ((with_reducible refine Calls.mono (HSO.out _ (Bel.refl _)) ?_); rintro e w1 ⟨⟨v1, E, rfl, hE, hrow⟩, k1⟩; obtain ⟨ps, cap, rfl, hcap, hcm, hps⟩ := row_slice hrow; have HK1 := Lib.hid k1; have HE := Lib.hid hE; have HPS := Lib.hid hps; clear k1 hE hrow hps))
      have hel : E.length ≤ 8000 := by
        have h1 := HE.out.length_eq
        have h2 := kidF_len (d + 1) 0 (nds T)
        rw [nds_len] at h2
        unfold kidN at h1
        omega
      clear c2
      go_loopw [14] (fun i wr => ∃ (k : Nat) (v' : Value) (D : List Nat) (Rn : List FileR), k ≤ E.length ∧ i = .int .i64 k ∧ D.Perm ((E.take k).flatMap fun x => x :: descF (nds T) f x) ∧ Rn.map FileR.key = D.map (nodeK T) ∧ Boxes wr bl bw v' ∧ FRows wr base v' (R ++ Rn) ∧ Keep (fun q => q = bl ∨ v.ownBlock = some q) w1 wr ∧ ∀ q, v'.ownBlock = some q → v.ownBlock = some q ∨ w1.heap.size ≤ q) (fun i _ => E.length - (intOf i).toNat)
      case atStart => exact ⟨0, v, [], [], Nat.zero_le _, rfl, List.Perm.nil, rfl, ⟨HBX.out.l.bel HK1.out, HBX.out.f.bel HK1.out⟩, by rw [List.append_nil]; exact HFR.out.bel HK1.out, Keep.refl _ _, fun q hq => .inl hq⟩
      case round =>
        obtain ⟨k, v', D, Rn, hk, rfl, hD, hRn, hbx, hfr, hkr, hvo⟩ := hrel
        have HDP := Lib.hid (And.intro hD hRn)
        have HBX2 := Lib.hid hbx
        have HFR2 := Lib.hid hfr
        have HKR := Lib.hid hkr
        have HVO := Lib.hid hvo
        clear hD hRn hbx hfr hkr hvo
        by_cases hlt : k < E.length
        · have hx := List.getElem?_eq_getElem hlt
          have hxm := HE.out.mem_iff.1 (List.getElem_mem hlt)
          obtain ⟨j, xn, hj, hp, hxe⟩ := kidN_mem.1 hxm
          obtain ⟨m, hm, rfl⟩ : ∃ m, T[j]? = some m ∧ xn = m.nd := by
            unfold nds at hj
            rw [List.getElem?_map] at hj
            cases hy : T[j]? with
            | none => rw [hy] at hj; cases hj
            | some y => rw [hy] at hj; simp at hj; exact ⟨y, rfl, hj.symm⟩
          have hmg : m.gone = false := by
            have : (if m.gone then 0 else m.par) = d + 1 := hp
            cases hc : m.gone with
            | false => rfl
            | true => rw [hc] at this; simp at this
          have hdj : d < j := by
            have := kidN_gt HT.out.down (d := d + 1) (by omega) hxm
            omega
          obtain ⟨g, rfl, hgb, hgl, hcell, _⟩ := HPS.out.resolve_left (by omega)
          have hgw := HK1.out.size
          have kw : Keep (fun q => q = bl ∨ v.ownBlock = some q) W wr := (Keep.of_bel _ HK1.out).tr HKR.out
          have htr : PTree wr A T := HT.out.keep kw fun q hq => by
            have h1 := hfoot q hq
            rintro (h2 | h2)
            · exact h1.2 h2
            · have := (HVL.out q h2).1; omega
          have hcp : wr.cell? ⟨g, k, none⟩ = some (.pointer (some ⟨A.nb (j + 1), 0, none⟩)) := by
            rw [HKR.out.cell ⟨g, k, none⟩ hgl (by
              rintro (h2 | h2)
              · have h2 : g = bl := h2; omega
              · have := (HVL.out g h2).2; omega), hcell k (by simpa using hlt), List.getElem?_map, hx, hxe]
            rfl
          have hB := htr.node j m hm
          have c3 : wr.cell? ⟨A.nb (j + 1), 3, none⟩ = some m.bv := hB.cell 3
          have c2 : wr.cell? ⟨A.nb (j + 1), 2, none⟩ = some (.map (m.map A (j + 1))) := hB.cell 2
          have cl : wr.cell? ⟨bl, 0, none⟩ = some v' := HBX2.out.l.cell 0
          have hpa := pathP_any A T wr htr hl hlv hs j m hm hmg
          rw [show A.ptr (j + 1) = .pointer (some ⟨A.nb (j + 1), 0, none⟩) from rfl] at hpa
          have HPA := Lib.hid hpa
          have HTR := Lib.hid htr
          have HX := Lib.hid hxe
          have HM := Lib.hid (And.intro hm (And.intro hmg (And.intro hp hx)))
          have HRW := Lib.hid (htr.byts j m hm)
          have hbl : m.byt.length ≤ 1000000 := hby m (List.mem_of_getElem? hm)
          have HKW := Lib.hid kw
          have hnl := hB.lt
          have hll := HBX2.out.l.lt
          clear hpa hxm hxe hj hp hx hm hmg htr hB hcell kw
          have hnbl : A.nb (j + 1) ≠ bl := (hfoot _ ⟨j, m, HM.out.1, .inl rfl⟩).2
          have hnbl2 : bl ≠ A.nb (j + 1) := fun e => hnbl e.symm
          have hnbb : A.nb (j + 1) < base := (hfoot _ ⟨j, m, HM.out.1, .inl rfl⟩).1
          generalize hnbe : A.nb (j + 1) = nbj at *
          have HNBE := Lib.hid hnbe
          clear hnbe
          go_upto_region 4 with (go_at_call 81; ((with_reducible refine Calls.mono HPA.out ?_); rintro e wx ⟨rfl, hh⟩; subst hh))
          have hvb : ∀ q, v'.ownBlock = some q → base ≤ q ∧ q < wr.heap.size := fun q hq => by
            obtain ⟨h1, cur, h2⟩ := row_blk HFR2.out.row hq
            exact ⟨h1, h2.lt⟩
          have HVB := Lib.hid hvb
          have hrl : (R ++ Rn).length ≤ 100000 := by
            have h1 := congrArg List.length HDP.out.2
            have h2 := HDP.out.1.length_eq
            have h3 : ((E.take k).flatMap fun x => x :: descF (nds T) f x).length ≤ (E.flatMap fun x => x :: descF (nds T) f x).length := by
              conv => rhs; rw [← List.take_append_drop k E, List.flatMap_append, List.length_append]
              omega
            have h4 := (HE.out.flatMap_right fun x => x :: descF (nds T) f x).length_eq
            rw [show descF (nds T) (f + 1) (d + 1) = (kidN (nds T) (d + 1)).flatMap fun k => k :: descF (nds T) f k from rfl] at hcnt
            simp only [List.length_map] at h1
            rw [List.length_append]
            omega
          have hbr : base ≤ wr.heap.size := Nat.le_trans hbase HKW.out.size
          obtain ⟨RR, hRR⟩ : ∃ RR, R ++ Rn = RR := ⟨_, rfl⟩
          rw [hRR] at HFR2 hrl
          have HRR := Lib.hid hRR
          have HPK : Hid (nodeK T (j + 1) = (pathL (nds T) (j + 1), (m.map A (j + 1)).isSome, m.byt)) := Lib.hid (by
            unfold nodeK
            rw [Nat.add_sub_cancel, HM.out.1]
            show (_, m.dir, m.byt) = _
            congr 2
            unfold Pn.map
            cases m.dir <;> rfl)
          obtain ⟨pt, hpt⟩ : ∃ pt, pathL (nds T) (j + 1) = pt := ⟨_, rfl⟩
          rw [hpt] at HPK ⊢
          rw [show strV pt = .string ⟨pt.toArray⟩ from rfl]
          obtain ⟨sb, hsb⟩ : ∃ sb : ByteArray, ⟨pt.toArray⟩ = sb := ⟨_, rfl⟩
          rw [hsb]
          have HSB := Lib.hid hsb
          generalize m.map A (j + 1) = mm at *
          clear hRR hpt hvb hcp hsb
          go_cut [] (fun wx => Hid (∃ (v2 : Value) (r : FileR), r.key = nodeK T (j + 1) ∧ Boxes wx bl bw v2 ∧ FRows wx base v2 (RR ++ [r]) ∧ Keep (fun q => q = bl ∨ v'.ownBlock = some q) wr wx ∧ ∀ q, v2.ownBlock = some q → v'.ownBlock = some q ∨ wr.heap.size ≤ q))
          case first =>
            refine wp_region_noPanic ?_
            refine wp_region_held_drew (S := fun w' => w'.cell? ⟨nbj, 3, none⟩ = some m.bv ∧ w'.cell? ⟨nbj, 2, none⟩ = some (.map mm)) (by kernel_rfl) ⟨c3, c2⟩ (fun hHeld => ?_)
            refine wpAnyH_take (i := 1) (v := ?vq1) rfl (by kernel_rfl) (by kernel_rfl) (by kernel_rfl) (fun _ _ _ h => h) (Or.inl ⟨by rfl, ?hq1⟩) (by assumption) ?rq1
            case hq1 => (intro w hSw; (try dsimp only at hSw); go_simp; with_reducible rfl)
            (try simp only [Act.put, List.setIfInBounds_toArray, List.set_cons_zero, List.set_cons_succ, List.getElem_toArray, List.getElem_cons_zero, List.getElem_cons_succ])
            refine wpAnyH_take (i := 2) (v := ?vq2) rfl (by kernel_rfl) (by kernel_rfl) (by kernel_rfl) (fun _ _ _ h => h) (Or.inl ⟨by rfl, ?hq2⟩) (by assumption) ?rq2
            case hq2 => (intro w hSw; (try dsimp only at hSw); go_simp; with_reducible rfl)
            (try simp only [Act.put, List.setIfInBounds_toArray, List.set_cons_zero, List.set_cons_succ, List.getElem_toArray, List.getElem_cons_zero, List.getElem_cons_succ])
            refine wpAnyH_take (i := 4) (v := ?vq3) rfl (by kernel_rfl) (by kernel_rfl) (by kernel_rfl) (fun _ _ _ h => h) (Or.inl ⟨by rfl, ?hq3⟩) (by assumption) ?rq3
            case hq3 => (intro w hSw; (try dsimp only at hSw); go_simp; with_reducible rfl)
            (try simp only [Act.put, List.setIfInBounds_toArray, List.set_cons_zero, List.set_cons_succ, List.getElem_toArray, List.getElem_cons_zero, List.getElem_cons_succ])
            refine wpAnyH_take (i := 5) (v := ?vq4) rfl (by kernel_rfl) (by kernel_rfl) (by kernel_rfl) (fun _ _ _ h => h) (Or.inl ⟨by rfl, ?hq4⟩) (by assumption) ?rq4
            case hq4 => (intro w hSw; (try dsimp only at hSw); go_simp; with_reducible rfl)
            (try simp only [Act.put, List.setIfInBounds_toArray, List.set_cons_zero, List.set_cons_succ, List.getElem_toArray, List.getElem_cons_zero, List.getElem_cons_succ])
            refine wpAnyH_take (i := 6) (v := ?vq5) rfl (by kernel_rfl) (by kernel_rfl) (by kernel_rfl) (fun _ _ _ h => h) (Or.inl ⟨by rfl, ?hq5⟩) (by assumption) ?rq5
            case hq5 => (intro w hSw; (try dsimp only at hSw); go_simp; with_reducible rfl)
            (try simp only [Act.put, List.setIfInBounds_toArray, List.set_cons_zero, List.set_cons_succ, List.getElem_toArray, List.getElem_cons_zero, List.getElem_cons_succ])
            refine wpAnyH_take (i := 7) (v := ?vq6) rfl (by kernel_rfl) (by kernel_rfl) (by kernel_rfl) (fun _ _ _ h => h) (Or.inl ⟨by rfl, ?hq6⟩) (by assumption) ?rq6
            case hq6 => (intro w hSw; (try dsimp only at hSw); go_simp; with_reducible rfl)
            (try simp only [Act.put, List.setIfInBounds_toArray, List.set_cons_zero, List.set_cons_succ, List.getElem_toArray, List.getElem_cons_zero, List.getElem_cons_succ])
            refine wpAnyH_ready (rs := [0, 3]) (by kernel_rfl) (by simp) ?_
            refine AllReadyH.cons rfl (fun K hK => ?ob7) ?xb7
            case ob7 =>
              go_simp
              refine hK.out _ _ (by (try dsimp only); first | assumption | (go_keep; done)) (fun hH => ?_)
              clear hK K
              (try simp only [Act.put, List.setIfInBounds_toArray, List.set_cons_zero, List.set_cons_succ, List.getElem_toArray, List.getElem_cons_zero, List.getElem_cons_succ])
              refine wpAnyH_ready (rs := [3]) (by kernel_rfl) (by simp) ?_
              refine AllReadyH.cons rfl (fun K hK => ?_) AllReadyH.nil
              go_simp; go_at_call 59; ((with_reducible refine Calls.mono (dir_any nbj mm _ (by go_split_ands; assumption)) ?_); rintro e wx ⟨rfl, hh⟩; subst hh)
              refine hK.out _ _ (by (try dsimp only); first | assumption | (go_keep; done)) (fun hH => ?_)
              clear hK K
              (try simp only [Act.put, List.setIfInBounds_toArray, List.set_cons_zero, List.set_cons_succ, List.getElem_toArray, List.getElem_cons_zero, List.getElem_cons_succ])
              refine wpAnyH_ready (rs := [8]) (by kernel_rfl) (by simp) ?_
              refine AllReadyH.cons rfl (fun K hK => ?_) AllReadyH.nil
              refine step_append_copy rfl (.tmp 30) 32 rfl Tryz.underlying32 byteInfoA m.byt m.bv rfl (HRW.out.bel (Bel.drew (Bel.refl _))) hbl ?_; intro bv2 w5 h5 h6 k5; obtain ⟨p5, c5, rfl, _, _, _⟩ := h5.slice; have kk5 : Bel wr w5 := (Bel.drew (Bel.refl wr)).tr k5; have cl5 := cell_bel kk5 cl; have cal5 : ∀ o, (w5.alloc o).cell? ⟨bl, 0, none⟩ = some v' := fun o => cell_bel (Bel.start w5 o) cl5; have c35 := cell_bel kk5 c3; have c25 := cell_bel kk5 c2; have HK5 := Lib.hid kk5; have hb5 : base ≤ w5.heap.size := Nat.le_trans hbr kk5.size; have hl5 : bl < w5.heap.size := (by omega); have hn5 : nbj < w5.heap.size := (by omega); have HR5 := Lib.hid (And.intro h5 h6); clear h5 h6 k5 kk5
              refine hK.out _ _ (by (try dsimp only); first | assumption | (go_keep; done)) (fun hH => ?_)
              clear hK K
              (try simp only [Act.put, List.setIfInBounds_toArray, List.set_cons_zero, List.set_cons_succ, List.getElem_toArray, List.getElem_cons_zero, List.getElem_cons_succ])
              refine wpAnyH_take (i := 9) (v := ?vq8) rfl (by kernel_rfl) (by kernel_rfl) (by kernel_rfl) (fun _ _ _ h => h) (Or.inl ⟨by rfl, ?hq8⟩) (by assumption) ?rq8
              case hq8 => (intro w hSw; (try dsimp only at hSw); go_simp; with_reducible rfl)
              (try simp only [Act.put, List.setIfInBounds_toArray, List.set_cons_zero, List.set_cons_succ, List.getElem_toArray, List.getElem_cons_zero, List.getElem_cons_succ])
              refine wpAnyH_ready (rs := [10]) (by kernel_rfl) (by simp) ?_
              refine AllReadyH.cons rfl (fun K hK => ?_) AllReadyH.nil
              go_simp
              refine hK.out _ _ (by (try dsimp only); first | assumption | (go_keep; done)) (fun hH => ?_)
              clear hK K
              (try simp only [Act.put, List.setIfInBounds_toArray, List.set_cons_zero, List.set_cons_succ, List.getElem_toArray, List.getElem_cons_zero, List.getElem_cons_succ])
              refine wpAnyH_ready (rs := [11]) (by kernel_rfl) (by simp) ?_
              refine AllReadyH.cons rfl (fun K hK => ?_) AllReadyH.nil
              refine step_append_at (base := base) (n := RR.length) (xs := RR.flatMap FileR.cells) (size := 3) (bytes := 48) rfl (.tmp 23) (.tmp 33) 24 rfl Tryz.underlying24 fileInfo (by omega) rfl (row_bel HFR2.out.row (HK5.out.ac _)) w5.heap.size 1 1 [.string sb, .bool mm.isSome, .slice p5 m.byt.length c5] rfl (fun j u hj => by rw [← hj]; exact (Blk.new w5 [.string sb, .bool mm.isSome, .slice p5 m.byt.length c5] 44).cell j) rfl (by intro v hv; simp at hv; rcases hv with rfl | rfl | rfl <;> rfl) (by unfold maxLen; omega) (by omega) (by simp; omega) ?_; intro p8 c8 w8 R8 K8 O8; have cl8 : w8.cell? ⟨bl, 0, none⟩ = some v' := (K8.cell ⟨bl, 0, none⟩ (by simp; omega) (fun e => by have := (HVB.out _ e).1; simp at this; omega)).trans (cell_bel (Bel.start w5 _) cl5); have c38 : w8.cell? ⟨nbj, 3, none⟩ = some m.bv := (K8.cell ⟨nbj, 3, none⟩ (by simp; omega) (fun e => by have := (HVB.out _ e).1; simp at this; omega)).trans (cell_bel (Bel.start w5 _) c35); have c28 : w8.cell? ⟨nbj, 2, none⟩ = some (.map mm) := (K8.cell ⟨nbj, 2, none⟩ (by simp; omega) (fun e => by have := (HVB.out _ e).1; simp at this; omega)).trans (cell_bel (Bel.start w5 _) c25); have HST := Lib.hid (all_step (r := ⟨pt, mm.isSome, m.byt, p5, c5⟩) HBX2.out HFR2.out hbb hbw hbne HK5.out HR5.out.1 HR5.out.2 hbr R8 K8 O8 (by unfold FileR.cells strV FileR.bv; rw [HSB.out]) rfl); have f8 : w8.frozen? ⟨bl, 0, none⟩ = false := (((HBX2.out.l.bel HK5.out).alloc _).keep K8 (fun e => by have := (HVB.out _ e).1; omega)).frozen 0; have hl8 : bl < w8.heap.size := Nat.lt_of_lt_of_le hl5 (Nat.le_trans (by simp) K8.size); clear R8 K8 O8
              refine hK.out _ _ (by (try dsimp only); first | assumption | (go_keep; done)) (fun hH => ?_)
              clear hK K
              (try simp only [Act.put, List.setIfInBounds_toArray, List.set_cons_zero, List.set_cons_succ, List.getElem_toArray, List.getElem_cons_zero, List.getElem_cons_succ])
              refine wpAnyH_ready (rs := [12]) (by kernel_rfl) (by simp) ?_
              refine AllReadyH.cons rfl (fun K hK => ?_) AllReadyH.nil
              go_simp
              refine hK.out _ _ (by (try dsimp only); first | assumption | (go_keep; done)) (fun hH => ?_)
              clear hK K
              (try simp only [Act.put, List.setIfInBounds_toArray, List.set_cons_zero, List.set_cons_succ, List.getElem_toArray, List.getElem_cons_zero, List.getElem_cons_succ])
              refine wpAnyH_done (by kernel_rfl) ?_ _
              refine NoPanic.normal ?_
              go_wp2_with fail
              go_meet
              exact Lib.hid ⟨_, ⟨pt, mm.isSome, m.byt, p5, c5⟩, HPK.out.symm, HST.out⟩
            case xb7 =>
              refine AllReadyH.cons rfl (fun K hK => ?ob9) AllReadyH.nil
              case ob9 =>
                go_simp; go_at_call 59; ((with_reducible refine Calls.mono (dir_any nbj mm _ (by go_split_ands; assumption)) ?_); rintro e wx ⟨rfl, hh⟩; subst hh)
                refine hK.out _ _ (by (try dsimp only); first | assumption | (go_keep; done)) (fun hH => ?_)
                clear hK K
                (try simp only [Act.put, List.setIfInBounds_toArray, List.set_cons_zero, List.set_cons_succ, List.getElem_toArray, List.getElem_cons_zero, List.getElem_cons_succ])
                refine wpAnyH_ready (rs := [0, 8]) (by kernel_rfl) (by simp) ?_
                refine AllReadyH.cons rfl (fun K hK => ?ob10) ?xb10
                case ob10 =>
                  go_simp
                  refine hK.out _ _ (by (try dsimp only); first | assumption | (go_keep; done)) (fun hH => ?_)
                  clear hK K
                  (try simp only [Act.put, List.setIfInBounds_toArray, List.set_cons_zero, List.set_cons_succ, List.getElem_toArray, List.getElem_cons_zero, List.getElem_cons_succ])
                  refine wpAnyH_ready (rs := [8]) (by kernel_rfl) (by simp) ?_
                  refine AllReadyH.cons rfl (fun K hK => ?_) AllReadyH.nil
                  refine step_append_copy rfl (.tmp 30) 32 rfl Tryz.underlying32 byteInfoA m.byt m.bv rfl (HRW.out.bel (Bel.drew (Bel.refl _))) hbl ?_; intro bv2 w5 h5 h6 k5; obtain ⟨p5, c5, rfl, _, _, _⟩ := h5.slice; have kk5 : Bel wr w5 := (Bel.drew (Bel.refl wr)).tr k5; have cl5 := cell_bel kk5 cl; have cal5 : ∀ o, (w5.alloc o).cell? ⟨bl, 0, none⟩ = some v' := fun o => cell_bel (Bel.start w5 o) cl5; have c35 := cell_bel kk5 c3; have c25 := cell_bel kk5 c2; have HK5 := Lib.hid kk5; have hb5 : base ≤ w5.heap.size := Nat.le_trans hbr kk5.size; have hl5 : bl < w5.heap.size := (by omega); have hn5 : nbj < w5.heap.size := (by omega); have HR5 := Lib.hid (And.intro h5 h6); clear h5 h6 k5 kk5
                  refine hK.out _ _ (by (try dsimp only); first | assumption | (go_keep; done)) (fun hH => ?_)
                  clear hK K
                  (try simp only [Act.put, List.setIfInBounds_toArray, List.set_cons_zero, List.set_cons_succ, List.getElem_toArray, List.getElem_cons_zero, List.getElem_cons_succ])
                  refine wpAnyH_take (i := 9) (v := ?vq11) rfl (by kernel_rfl) (by kernel_rfl) (by kernel_rfl) (fun _ _ _ h => h) (Or.inl ⟨by rfl, ?hq11⟩) (by assumption) ?rq11
                  case hq11 => (intro w hSw; (try dsimp only at hSw); go_simp; with_reducible rfl)
                  (try simp only [Act.put, List.setIfInBounds_toArray, List.set_cons_zero, List.set_cons_succ, List.getElem_toArray, List.getElem_cons_zero, List.getElem_cons_succ])
                  refine wpAnyH_ready (rs := [10]) (by kernel_rfl) (by simp) ?_
                  refine AllReadyH.cons rfl (fun K hK => ?_) AllReadyH.nil
                  go_simp
                  refine hK.out _ _ (by (try dsimp only); first | assumption | (go_keep; done)) (fun hH => ?_)
                  clear hK K
                  (try simp only [Act.put, List.setIfInBounds_toArray, List.set_cons_zero, List.set_cons_succ, List.getElem_toArray, List.getElem_cons_zero, List.getElem_cons_succ])
                  refine wpAnyH_ready (rs := [11]) (by kernel_rfl) (by simp) ?_
                  refine AllReadyH.cons rfl (fun K hK => ?_) AllReadyH.nil
                  refine step_append_at (base := base) (n := RR.length) (xs := RR.flatMap FileR.cells) (size := 3) (bytes := 48) rfl (.tmp 23) (.tmp 33) 24 rfl Tryz.underlying24 fileInfo (by omega) rfl (row_bel HFR2.out.row (HK5.out.ac _)) w5.heap.size 1 1 [.string sb, .bool mm.isSome, .slice p5 m.byt.length c5] rfl (fun j u hj => by rw [← hj]; exact (Blk.new w5 [.string sb, .bool mm.isSome, .slice p5 m.byt.length c5] 44).cell j) rfl (by intro v hv; simp at hv; rcases hv with rfl | rfl | rfl <;> rfl) (by unfold maxLen; omega) (by omega) (by simp; omega) ?_; intro p8 c8 w8 R8 K8 O8; have cl8 : w8.cell? ⟨bl, 0, none⟩ = some v' := (K8.cell ⟨bl, 0, none⟩ (by simp; omega) (fun e => by have := (HVB.out _ e).1; simp at this; omega)).trans (cell_bel (Bel.start w5 _) cl5); have c38 : w8.cell? ⟨nbj, 3, none⟩ = some m.bv := (K8.cell ⟨nbj, 3, none⟩ (by simp; omega) (fun e => by have := (HVB.out _ e).1; simp at this; omega)).trans (cell_bel (Bel.start w5 _) c35); have c28 : w8.cell? ⟨nbj, 2, none⟩ = some (.map mm) := (K8.cell ⟨nbj, 2, none⟩ (by simp; omega) (fun e => by have := (HVB.out _ e).1; simp at this; omega)).trans (cell_bel (Bel.start w5 _) c25); have HST := Lib.hid (all_step (r := ⟨pt, mm.isSome, m.byt, p5, c5⟩) HBX2.out HFR2.out hbb hbw hbne HK5.out HR5.out.1 HR5.out.2 hbr R8 K8 O8 (by unfold FileR.cells strV FileR.bv; rw [HSB.out]) rfl); have f8 : w8.frozen? ⟨bl, 0, none⟩ = false := (((HBX2.out.l.bel HK5.out).alloc _).keep K8 (fun e => by have := (HVB.out _ e).1; omega)).frozen 0; have hl8 : bl < w8.heap.size := Nat.lt_of_lt_of_le hl5 (Nat.le_trans (by simp) K8.size); clear R8 K8 O8
                  refine hK.out _ _ (by (try dsimp only); first | assumption | (go_keep; done)) (fun hH => ?_)
                  clear hK K
                  (try simp only [Act.put, List.setIfInBounds_toArray, List.set_cons_zero, List.set_cons_succ, List.getElem_toArray, List.getElem_cons_zero, List.getElem_cons_succ])
                  refine wpAnyH_ready (rs := [12]) (by kernel_rfl) (by simp) ?_
                  refine AllReadyH.cons rfl (fun K hK => ?_) AllReadyH.nil
                  go_simp
                  refine hK.out _ _ (by (try dsimp only); first | assumption | (go_keep; done)) (fun hH => ?_)
                  clear hK K
                  (try simp only [Act.put, List.setIfInBounds_toArray, List.set_cons_zero, List.set_cons_succ, List.getElem_toArray, List.getElem_cons_zero, List.getElem_cons_succ])
                  refine wpAnyH_done (by kernel_rfl) ?_ _
                  refine NoPanic.normal ?_
                  go_wp2_with fail
                  go_meet
                  exact Lib.hid ⟨_, ⟨pt, mm.isSome, m.byt, p5, c5⟩, HPK.out.symm, HST.out⟩
                case xb10 =>
                  refine AllReadyH.cons rfl (fun K hK => ?ob12) AllReadyH.nil
                  case ob12 =>
                    refine step_append_copy rfl (.tmp 30) 32 rfl Tryz.underlying32 byteInfoA m.byt m.bv rfl (HRW.out.bel (Bel.drew (Bel.refl _))) hbl ?_; intro bv2 w5 h5 h6 k5; obtain ⟨p5, c5, rfl, _, _, _⟩ := h5.slice; have kk5 : Bel wr w5 := (Bel.drew (Bel.refl wr)).tr k5; have cl5 := cell_bel kk5 cl; have cal5 : ∀ o, (w5.alloc o).cell? ⟨bl, 0, none⟩ = some v' := fun o => cell_bel (Bel.start w5 o) cl5; have c35 := cell_bel kk5 c3; have c25 := cell_bel kk5 c2; have HK5 := Lib.hid kk5; have hb5 : base ≤ w5.heap.size := Nat.le_trans hbr kk5.size; have hl5 : bl < w5.heap.size := (by omega); have hn5 : nbj < w5.heap.size := (by omega); have HR5 := Lib.hid (And.intro h5 h6); clear h5 h6 k5 kk5
                    refine hK.out _ _ (by (try dsimp only); first | assumption | (go_keep; done)) (fun hH => ?_)
                    clear hK K
                    (try simp only [Act.put, List.setIfInBounds_toArray, List.set_cons_zero, List.set_cons_succ, List.getElem_toArray, List.getElem_cons_zero, List.getElem_cons_succ])
                    refine wpAnyH_take (i := 9) (v := ?vq13) rfl (by kernel_rfl) (by kernel_rfl) (by kernel_rfl) (fun _ _ _ h => h) (Or.inl ⟨by rfl, ?hq13⟩) (by assumption) ?rq13
                    case hq13 => (intro w hSw; (try dsimp only at hSw); go_simp; with_reducible rfl)
                    (try simp only [Act.put, List.setIfInBounds_toArray, List.set_cons_zero, List.set_cons_succ, List.getElem_toArray, List.getElem_cons_zero, List.getElem_cons_succ])
                    refine wpAnyH_ready (rs := [0, 10]) (by kernel_rfl) (by simp) ?_
                    refine AllReadyH.cons rfl (fun K hK => ?ob14) ?xb14
                    case ob14 =>
                      go_simp
                      refine hK.out _ _ (by (try dsimp only); first | assumption | (go_keep; done)) (fun hH => ?_)
                      clear hK K
                      (try simp only [Act.put, List.setIfInBounds_toArray, List.set_cons_zero, List.set_cons_succ, List.getElem_toArray, List.getElem_cons_zero, List.getElem_cons_succ])
                      refine wpAnyH_ready (rs := [10]) (by kernel_rfl) (by simp) ?_
                      refine AllReadyH.cons rfl (fun K hK => ?_) AllReadyH.nil
                      go_simp
                      refine hK.out _ _ (by (try dsimp only); first | assumption | (go_keep; done)) (fun hH => ?_)
                      clear hK K
                      (try simp only [Act.put, List.setIfInBounds_toArray, List.set_cons_zero, List.set_cons_succ, List.getElem_toArray, List.getElem_cons_zero, List.getElem_cons_succ])
                      refine wpAnyH_ready (rs := [11]) (by kernel_rfl) (by simp) ?_
                      refine AllReadyH.cons rfl (fun K hK => ?_) AllReadyH.nil
                      refine step_append_at (base := base) (n := RR.length) (xs := RR.flatMap FileR.cells) (size := 3) (bytes := 48) rfl (.tmp 23) (.tmp 33) 24 rfl Tryz.underlying24 fileInfo (by omega) rfl (row_bel HFR2.out.row (HK5.out.ac _)) w5.heap.size 1 1 [.string sb, .bool mm.isSome, .slice p5 m.byt.length c5] rfl (fun j u hj => by rw [← hj]; exact (Blk.new w5 [.string sb, .bool mm.isSome, .slice p5 m.byt.length c5] 44).cell j) rfl (by intro v hv; simp at hv; rcases hv with rfl | rfl | rfl <;> rfl) (by unfold maxLen; omega) (by omega) (by simp; omega) ?_; intro p8 c8 w8 R8 K8 O8; have cl8 : w8.cell? ⟨bl, 0, none⟩ = some v' := (K8.cell ⟨bl, 0, none⟩ (by simp; omega) (fun e => by have := (HVB.out _ e).1; simp at this; omega)).trans (cell_bel (Bel.start w5 _) cl5); have c38 : w8.cell? ⟨nbj, 3, none⟩ = some m.bv := (K8.cell ⟨nbj, 3, none⟩ (by simp; omega) (fun e => by have := (HVB.out _ e).1; simp at this; omega)).trans (cell_bel (Bel.start w5 _) c35); have c28 : w8.cell? ⟨nbj, 2, none⟩ = some (.map mm) := (K8.cell ⟨nbj, 2, none⟩ (by simp; omega) (fun e => by have := (HVB.out _ e).1; simp at this; omega)).trans (cell_bel (Bel.start w5 _) c25); have HST := Lib.hid (all_step (r := ⟨pt, mm.isSome, m.byt, p5, c5⟩) HBX2.out HFR2.out hbb hbw hbne HK5.out HR5.out.1 HR5.out.2 hbr R8 K8 O8 (by unfold FileR.cells strV FileR.bv; rw [HSB.out]) rfl); have f8 : w8.frozen? ⟨bl, 0, none⟩ = false := (((HBX2.out.l.bel HK5.out).alloc _).keep K8 (fun e => by have := (HVB.out _ e).1; omega)).frozen 0; have hl8 : bl < w8.heap.size := Nat.lt_of_lt_of_le hl5 (Nat.le_trans (by simp) K8.size); clear R8 K8 O8
                      refine hK.out _ _ (by (try dsimp only); first | assumption | (go_keep; done)) (fun hH => ?_)
                      clear hK K
                      (try simp only [Act.put, List.setIfInBounds_toArray, List.set_cons_zero, List.set_cons_succ, List.getElem_toArray, List.getElem_cons_zero, List.getElem_cons_succ])
                      refine wpAnyH_ready (rs := [12]) (by kernel_rfl) (by simp) ?_
                      refine AllReadyH.cons rfl (fun K hK => ?_) AllReadyH.nil
                      go_simp
                      refine hK.out _ _ (by (try dsimp only); first | assumption | (go_keep; done)) (fun hH => ?_)
                      clear hK K
                      (try simp only [Act.put, List.setIfInBounds_toArray, List.set_cons_zero, List.set_cons_succ, List.getElem_toArray, List.getElem_cons_zero, List.getElem_cons_succ])
                      refine wpAnyH_done (by kernel_rfl) ?_ _
                      refine NoPanic.normal ?_
                      go_wp2_with fail
                      go_meet
                      exact Lib.hid ⟨_, ⟨pt, mm.isSome, m.byt, p5, c5⟩, HPK.out.symm, HST.out⟩
                    case xb14 =>
                      refine AllReadyH.cons rfl (fun K hK => ?ob15) AllReadyH.nil
                      case ob15 =>
                        go_simp
                        refine hK.out _ _ (by (try dsimp only); first | assumption | (go_keep; done)) (fun hH => ?_)
                        clear hK K
                        (try simp only [Act.put, List.setIfInBounds_toArray, List.set_cons_zero, List.set_cons_succ, List.getElem_toArray, List.getElem_cons_zero, List.getElem_cons_succ])
                        refine wpAnyH_ready (rs := [0]) (by kernel_rfl) (by simp) ?_
                        refine AllReadyH.cons rfl (fun K hK => ?_) AllReadyH.nil
                        go_simp
                        refine hK.out _ _ (by (try dsimp only); first | assumption | (go_keep; done)) (fun hH => ?_)
                        clear hK K
                        (try simp only [Act.put, List.setIfInBounds_toArray, List.set_cons_zero, List.set_cons_succ, List.getElem_toArray, List.getElem_cons_zero, List.getElem_cons_succ])
                        refine wpAnyH_ready (rs := [11]) (by kernel_rfl) (by simp) ?_
                        refine AllReadyH.cons rfl (fun K hK => ?_) AllReadyH.nil
                        refine step_append_at (base := base) (n := RR.length) (xs := RR.flatMap FileR.cells) (size := 3) (bytes := 48) rfl (.tmp 23) (.tmp 33) 24 rfl Tryz.underlying24 fileInfo (by omega) rfl (row_bel HFR2.out.row (HK5.out.ac _)) w5.heap.size 1 1 [.string sb, .bool mm.isSome, .slice p5 m.byt.length c5] rfl (fun j u hj => by rw [← hj]; exact (Blk.new w5 [.string sb, .bool mm.isSome, .slice p5 m.byt.length c5] 44).cell j) rfl (by intro v hv; simp at hv; rcases hv with rfl | rfl | rfl <;> rfl) (by unfold maxLen; omega) (by omega) (by simp; omega) ?_; intro p8 c8 w8 R8 K8 O8; have cl8 : w8.cell? ⟨bl, 0, none⟩ = some v' := (K8.cell ⟨bl, 0, none⟩ (by simp; omega) (fun e => by have := (HVB.out _ e).1; simp at this; omega)).trans (cell_bel (Bel.start w5 _) cl5); have c38 : w8.cell? ⟨nbj, 3, none⟩ = some m.bv := (K8.cell ⟨nbj, 3, none⟩ (by simp; omega) (fun e => by have := (HVB.out _ e).1; simp at this; omega)).trans (cell_bel (Bel.start w5 _) c35); have c28 : w8.cell? ⟨nbj, 2, none⟩ = some (.map mm) := (K8.cell ⟨nbj, 2, none⟩ (by simp; omega) (fun e => by have := (HVB.out _ e).1; simp at this; omega)).trans (cell_bel (Bel.start w5 _) c25); have HST := Lib.hid (all_step (r := ⟨pt, mm.isSome, m.byt, p5, c5⟩) HBX2.out HFR2.out hbb hbw hbne HK5.out HR5.out.1 HR5.out.2 hbr R8 K8 O8 (by unfold FileR.cells strV FileR.bv; rw [HSB.out]) rfl); have f8 : w8.frozen? ⟨bl, 0, none⟩ = false := (((HBX2.out.l.bel HK5.out).alloc _).keep K8 (fun e => by have := (HVB.out _ e).1; omega)).frozen 0; have hl8 : bl < w8.heap.size := Nat.lt_of_lt_of_le hl5 (Nat.le_trans (by simp) K8.size); clear R8 K8 O8
                        refine hK.out _ _ (by (try dsimp only); first | assumption | (go_keep; done)) (fun hH => ?_)
                        clear hK K
                        (try simp only [Act.put, List.setIfInBounds_toArray, List.set_cons_zero, List.set_cons_succ, List.getElem_toArray, List.getElem_cons_zero, List.getElem_cons_succ])
                        refine wpAnyH_ready (rs := [12]) (by kernel_rfl) (by simp) ?_
                        refine AllReadyH.cons rfl (fun K hK => ?_) AllReadyH.nil
                        go_simp
                        refine hK.out _ _ (by (try dsimp only); first | assumption | (go_keep; done)) (fun hH => ?_)
                        clear hK K
                        (try simp only [Act.put, List.setIfInBounds_toArray, List.set_cons_zero, List.set_cons_succ, List.getElem_toArray, List.getElem_cons_zero, List.getElem_cons_succ])
                        refine wpAnyH_done (by kernel_rfl) ?_ _
                        refine NoPanic.normal ?_
                        go_wp2_with fail
                        go_meet
                        exact Lib.hid ⟨_, ⟨pt, mm.isSome, m.byt, p5, c5⟩, HPK.out.symm, HST.out⟩
          case rest =>
            obtain ⟨v2, r, hrk, hbx2, hfr2, hk2, hv2⟩ := hcut.out
            have kwc : Keep (fun q => q = bl ∨ v.ownBlock = some q) W wc := HKW.out.tr_new hk2 (fun q hq => by
              rcases hq with h | h
              · exact .inl (.inl h)
              · rcases HVO.out q h with h | h
                · exact .inl (.inr h)
                · exact .inr (Nat.le_trans HK1.out.size h))
            have htc : PTree wc A T := HT.out.keep kwc fun q hq => by
              have h1 := hfoot q hq
              rintro (h2 | h2)
              · exact h1.2 h2
              · have := (HVL.out q h2).1; omega
            have cbw : wc.cell? ⟨bw, 0, none⟩ = some (.func (.func 79) #[] #[.pointer (some ⟨bl, 0, none⟩), .pointer (some ⟨bw, 0, none⟩)]) := hbx2.f.cell 0
            have hih := ih j m wc v2 (RR ++ [r]) (by omega) HM.out.1 HM.out.2.1 htc (Nat.le_trans hbase kwc.size) hbx2 hfr2 (by
              have h1 := congrArg List.length HDP.out.2
              have h2 := HDP.out.1.length_eq
              have h3 : ((E.take k).flatMap fun x => x :: descF (nds T) f x).length + (descF (nds T) f (j + 1)).length + 1 ≤ (E.flatMap fun x => x :: descF (nds T) f x).length := by
                conv => rhs; rw [← List.take_append_drop k E, List.flatMap_append, List.length_append]
                rw [List.drop_eq_getElem_cons hlt, List.flatMap_cons, List.length_append, HX.out, List.length_cons]
                omega
              have h4 := (HE.out.flatMap_right fun x => x :: descF (nds T) f x).length_eq
              rw [show descF (nds T) (f + 1) (d + 1) = (kidN (nds T) (d + 1)).flatMap fun k => k :: descF (nds T) f k from rfl] at hcnt
              simp only [List.length_map] at h1
              have h5 := congrArg List.length HRR.out
              rw [List.length_append] at h5
              rw [List.length_append, List.length_singleton]
              omega)
            rw [show A.ptr (j + 1) = .pointer (some ⟨nbj, 0, none⟩) from by rw [← HNBE.out]; rfl] at hih
            have HIH := Lib.hid hih
            have HR2 := Lib.hid (And.intro hrk (And.intro hk2 hv2))
            have HKC := Lib.hid kwc
            clear hih hrk hbx2 hfr2 hk2 hv2 htc kwc
            go_wp2_with (go_at_call 79; ((with_reducible refine Calls.mono HIH.out ?_); rintro e w9 ⟨rfl, h9⟩; have HR9 := Lib.hid h9; clear h9))
            go_roundw
            case rel =>
              obtain ⟨v3, E3, Rn3, hp3, hk3, hbx3, hfr3, hkk3, hv3⟩ := HR9.out.out
              have hk4 : Keep (fun q => q = bl ∨ v.ownBlock = some q) w1 wc := HKR.out.tr_new HR2.out.2.1 (fun q hq => by
                rcases hq with h | h
                · exact .inl (.inl h)
                · rcases HVO.out q h with h | h
                  · exact .inl (.inr h)
                  · exact .inr h)
              have hv4 : ∀ q, v2.ownBlock = some q → v.ownBlock = some q ∨ w1.heap.size ≤ q := fun q hq => by
                rcases HR2.out.2.2 q hq with h | h
                · exact HVO.out q h
                · exact .inr (Nat.le_trans HKR.out.size h)
              refine ⟨k + 1, v3, D ++ (j + 1) :: E3, Rn ++ r :: Rn3, by omega, by go_num, ?_, ?_, hbx3, ?_, ?_, ?_⟩
              · rw [List.take_succ_eq_append_getElem hlt, List.flatMap_append, List.flatMap_singleton, HX.out]
                exact HDP.out.1.append (hp3.cons _)
              · rw [List.map_append, List.map_append, List.map_cons, List.map_cons, HDP.out.2, hk3, HR2.out.1]
              · have e : R ++ (Rn ++ r :: Rn3) = RR ++ [r] ++ Rn3 := by rw [← HRR.out]; simp
                rw [e]
                exact hfr3
              · exact hk4.tr_new hkk3 (fun q hq => by
                  rcases hq with h | h
                  · exact .inl (.inl h)
                  · rcases hv4 q h with h | h
                    · exact .inl (.inr h)
                    · exact .inr h)
              · intro q hq
                rcases hv3 q hq with h | h
                · exact hv4 q h
                · exact .inr (Nat.le_trans hk4.size h)
            case measure => simp [intOf] <;> omega
        · obtain rfl : k = E.length := by omega
          go_wp2_with fail
          go_end0
          refine ⟨rfl, ⟨v', D, Rn, ?_, HDP.out.2, HBX2.out, HFR2.out, (Keep.of_bel _ HK1.out).tr HKR.out, fun q hq => ?_⟩⟩
          · have := HDP.out.1
            rw [List.take_length] at this
            exact this.trans (HE.out.flatMap_right _)
          · rcases HVO.out q hq with h | h
            · exact .inl h
            · exact .inr (Nat.le_trans HK1.out.size h)
end Go.Proofs.YtkcjafnaephjiaaGreatDoor
