/- The law Loads: Load of any bytes answers as the document says, and keeps the bytes. No condition; the card ties errors.errorType and machine.fixed to the program's text. -/
import Derived.Test.YtologfdegdljeaaDoorLoadsW
import Derived.Test.YtologfdegdljeaaDoorWrap
import Derived.Deep.Strs
namespace Go.Proofs.YtologfdegdljeaaDoor.loads
open Go.ChangeShapes Go.WideShapes Go.ChangeAt Go.RowKit
set_option maxRecDepth 100000

theorem u8_bounds {n : Int} (h : (Lit.int .u8 n).wf = true) : 0 ≤ n ∧ n ≤ 255 := by
  simp [Lit.wf, IntKind.min, IntKind.max, IntKind.signed, IntKind.bits] at h; omega

/-- What machine.Load answers of the laws' own copy. -/
theorem loadM_of (L : List Int) (hby : ∀ x ∈ L, 0 ≤ x ∧ x ≤ 255) (hlen : L.length ≤ 200000) (W : World) (g : Nat) (hB : Blk W g ((L ++ [71, 72]).map (Value.int .u8)) 5) (hfix : FixVar W) (W' : World) (hb : Bel W W') :
    Calls Tryd.prog 27 #[.slice (some ⟨g, 0, none⟩) L.length (L.length + 2)] W' fun e w' => Bel W' w' ∧ LoadRes L W'.heap.size e w' :=
  loadM_any g (L.length + 2) L W' ⟨fun i hi => by rw [Nat.zero_add, (hB.bel hb).cell, List.getElem?_map, List.getElem?_append_left hi], hby⟩ (by omega) hlen (hfix.bel hb)
theorem loadR_of (p : Option Addr) (cap : Nat) (L : List Int) (hcap : L.length ≤ cap) (hlen : L.length ≤ 200000) (W : World) (hr : BS W p L) :
    Calls Tryd.prog 18 #[.slice p L.length cap] W fun e w' => Bel W w' ∧ LoadResR L W.heap.size e w' := by
  by_cases h : L.length < 64
  · have hh : headerOk L = false := by simp [headerOk, show ¬ 64 ≤ L.length from by omega]
    refine (loadR_short p L.length cap W h).mono ?_
    rintro e w' ⟨rfl, rfl⟩
    exact ⟨Below.refl _ _, ⟨fun _ => rfl, fun h => (by rw [hh] at h; cases h), fun h => (by rw [hh] at h; cases h), fun h => (by rw [hh] at h; cases h), fun h => (by rw [hh] at h; cases h)⟩⟩
  · obtain ⟨b, o, rfl, _, h3⟩ := hr.2 (by omega)
    exact loadR_any b o cap L W h3 hcap hlen

theorem loads_any (p : Option Addr) (cap : Nat) (L : List Int) (w : World) (hr : BS w p L) (hcap : L.length ≤ cap) (hm : L.length ≤ 9223372036854775807) (hfix : FixVar w) (herr : ErrVar w) :
    Calls Tryd.prog 5 #[.slice p L.length cap] w fun e w' => e = .returned (.bool true) ∧ Bel w w' := by
  by_cases hl : 200000 < L.length
  · exact loads_long p L.length cap w hl hm
  have hlen : L.length ≤ 200000 := by omega
  have hM := loadM_of L hr.1 hlen
  have hR := loadR_of p cap L hcap hlen
  cases hh : headerOk L with
  | false =>
    exact loads_err 2 p cap L w hr hlen hfix herr (by decide) (fun W g hB hf => loadT_err _ 2 W fun W' hb => (hM W g hB hf W' hb).mono fun e w' h => ⟨h.2.header hh, h.1⟩) (fun W hW => (hR W hW).mono fun e w' h => ⟨h.2.header hh, h.1⟩)
  | true =>
    cases hs : segsOk L with
    | false => exact loads_err 3 p cap L w hr hlen hfix herr (by decide) (fun W g hB hf => loadT_err _ 3 W fun W' hb => (hM W g hB hf W' hb).mono fun e w' h => ⟨h.2.segs hh hs, h.1⟩) (fun W hW => (hR W hW).mono fun e w' h => ⟨h.2.segs hh hs, h.1⟩)
    | true =>
      by_cases hf : ∀ k, k < (segN L).toNat → FreeAt L k
      · cases he : entryOk L with
        | false => exact loads_err 5 p cap L w hr hlen hfix herr (by decide) (fun W g hB hx => loadT_err _ 5 W fun W' hb => (hM W g hB hx W' hb).mono fun e w' h => ⟨h.2.entry hh hs hf he, h.1⟩) (fun W hW => (hR W hW).mono fun e w' h => ⟨h.2.entry hh hs hf he, h.1⟩)
        | true =>
          have hhead : segN L ≤ 8 ∧ 64 + 56 * segN L ≤ L.length := by
            have := hh
            simp only [headerOk, Bool.and_eq_true, decide_eq_true_eq] at this
            exact ⟨this.1.2, this.2⟩
          have hfit : ∀ i, i < (segN L).toNat → SegFits L (segAt L i) := fun i hi => segFits L hr.1 i (by omega) (List.all_eq_true.1 hs i (List.mem_range.2 hi))
          have hwf := spaceTo_wf L hr.1 (segN L).toNat hfit (segN L).toNat (Nat.le_refl _)
          obtain ⟨m, hmm⟩ : ∃ m, m = spaceTo L (segN L).toNat := ⟨_, rfl⟩
          rw [← hmm] at hwf
          refine loads_ok (numAt L 24 8) ((pageNums m).map fun n => (n, (m n).getD Pg.zero)) p cap L w hr hlen hfix herr (by rw [List.length_map]; exact pageNums_length m) (fun q hq => ?_) (fun W g hB hx => ?_) (fun W hW => ?_)
          · obtain ⟨n, _, rfl⟩ := List.mem_map.1 hq
            cases h : m n with
            | none => exact Pg.zero_wf
            | some p => exact hwf.wf n p h
          · refine (loadT_ok _ (numAt L 24 8) m W hwf fun W' hb => (hM W g hB hx W' hb).mono fun e w' h => ?_).mono fun e w' h => ?_
            · obtain ⟨mb, h1, _, h2⟩ := h.2.ok hh hs hf he
              exact ⟨⟨mb, h1, by rw [hmm]; exact h2⟩, h.1⟩
            · obtain ⟨v, h1, h2, h3⟩ := h
              refine ⟨v, h1, ?_, h3⟩
              rw [List.length_map, List.flatMap_map]
              exact h2
          · refine (hR W hW).mono fun e w' h => ?_
            obtain ⟨v, h1, h2⟩ := h.2.ok hh hs hf he
            refine ⟨v, h1, ?_, h.1⟩
            rw [← hmm] at h2
            rw [List.length_map, List.flatMap_map]
            exact h2
      · exact loads_err 4 p cap L w hr hlen hfix herr (by decide) (fun W g hB hx => loadT_err _ 4 W fun W' hb => (hM W g hB hx W' hb).mono fun e w' h => ⟨h.2.overlap hh hs hf, h.1⟩) (fun W hW => (hR W hW).mono fun e w' h => ⟨h.2.overlap hh hs hf, h.1⟩)

/-! ### machine.fixed out of the row's list -/
theorem fixName : Tryd.prog.globalNamed "tinyos/machine.fixed" = some 1 := by kernel_rfl
theorem fixType : (Tryd.prog.globals[1]?).map (·.type) = some 146 := by kernel_rfl
theorem fixData : (Rows.laid_tinyos_machine_fixed : DataW Unit) = .agg (fixedL.map fun q => .agg [.lit (.int .i64 q.1), .lit (.int .i64 q.2.1), .lit (.int .u64 q.2.2)]) := rfl
theorem take1 {c : List Value} {k : Nat} {v : Value} (h : (c.drop k).take 1 = [v]) : c[k]? = some v := by
  have := congrArg (·[0]?) h
  simpa [List.getElem?_take, List.getElem?_drop] using this
theorem field_cells {w : World} {m : Nat} {c : List Value} {p : List MemPlace} {q : Nat × Nat × Int}
    (h : DataW.trod (fun _ => ()) Tryd.prog w 0 (fun _ => true) false m 145 c = some (.agg [.lit (.int .i64 q.1), .lit (.int .i64 q.2.1), .lit (.int .u64 q.2.2)], p)) : c = [.int .i64 q.1, .int .i64 q.2.1, .int .u64 q.2.2] := by
  obtain ⟨y0, y1, y2, n, hx, hl, h0, h1, h2⟩ := Deep.trod_struct3 Tryd.underlying145 h
  simp only [Prod.mk.injEq, DataW.agg.injEq, List.cons.injEq, and_true] at hx
  obtain ⟨⟨e0, e1, e2⟩, _⟩ := hx
  obtain ⟨z0, c0, r0, _⟩ := DataW.trod_int Tryd.underlying3 h0
  obtain ⟨z1, c1, r1, _⟩ := DataW.trod_int Tryd.underlying3 h1
  obtain ⟨z2, c2, r2, _⟩ := DataW.trod_int Tryd.underlying42 h2
  rw [r0] at e0; rw [r1] at e1; rw [r2] at e2
  simp only [DataW.lit.injEq, Lit.int.injEq, true_and] at e0 e1 e2
  have a0 := take1 c0
  have a1 := take1 c1
  have a2 := take1 c2
  have hl3 : c.length = 3 := hl.trans (by kernel_rfl)
  rw [← e0] at a0; rw [← e1] at a1; rw [← e2] at a2
  match c, hl3 with
  | [x, y, z], _ =>
    have b0 : some x = some (Value.int .i64 (q.1 : Int)) := a0
    have b1 : some y = some (Value.int .i64 (q.2.1 : Int)) := a1
    have b2 : some z = some (Value.int .u64 q.2.2) := a2
    rw [Option.some.inj b0, Option.some.inj b1, Option.some.inj b2]
theorem fixVar {W : World} (h : laidMetH Tryd.prog Rows.loadsRow.laid W) : FixVar W := by
  have h' : laidMet Tryd.prog [("tinyos/machine.fixed", Rows.laid_tinyos_machine_fixed)] W ∧ handlesMet Tryd.prog [("errors.errorType", Rows.laid_errors_errorType)] W := h
  obtain ⟨ps, ⟨g', t', cs, fuel, p, q, hg', ht', hvar, hd, _, _⟩, _⟩ := h'.1
  obtain rfl := Option.some.inj (fixName.symm.trans hg')
  obtain rfl := Option.some.inj (fixType.symm.trans ht')
  have hcell := fun i => World.var?_cell fixName hvar i
  rw [fixData] at hd
  obtain ⟨xs, m, _, hx, hl, hxl, hel⟩ := DataW.trod_array Tryd.underlying146 hd
  have hxm : xs.map (·.1) = fixedL.map fun q => (DataW.agg [.lit (.int .i64 q.1), .lit (.int .i64 q.2.1), .lit (.int .u64 q.2.2)] : DataW Unit) := by
    have := congrArg Prod.fst hx
    simpa using this.symm
  have hch : ∀ i, i < 8 → ∀ q, fixedL[i]? = some q → (cs.toList.drop (i * 3)).take 3 = [.int .i64 q.1, .int .i64 q.2.1, .int .u64 q.2.2] := by
    intro i hi q hq
    have h1 := hel i hi
    rw [show Tryd.prog.cellsOf 145 = 3 from by kernel_rfl] at h1
    have h2 := congrArg (·[i]?) hxm
    simp only [List.getElem?_map, hq, Option.map_some] at h2
    cases hxi : xs[i]? with
    | none => rw [hxi] at h2; cases h2
    | some y =>
      rw [hxi] at h1 h2
      simp only [Option.map_some, Option.some.injEq] at h2
      obtain ⟨d, pp⟩ := y
      simp only at h2
      subst h2
      exact field_cells h1
  have hlt : 1 < W.heap.size := by
    have h0 := hcell 0
    have h1 := hch 0 (by omega) _ rfl
    have h2 := congrArg (·[0]?) h1
    simp only [List.getElem?_take, List.getElem?_drop, Nat.zero_mul, Nat.zero_add, if_pos (show 0 < 3 by omega), Array.getElem?_toList] at h2
    rw [h2] at h0
    have := World.block_lt_of_cell? _ _ h0
    simpa using this
  refine ⟨fun j v hv => ?_, hlt⟩
  rw [Nat.zero_add, hcell j, ← hv]
  have hj : j < 24 := by have := (List.getElem?_eq_some_iff.1 hv).1; simpa [fixedV, fixedL] using this
  have e : j = (j / 3) * 3 + j % 3 := by omega
  have hf := flat_at (fun q : Nat × Nat × Int => [Value.int .i64 q.1, .int .i64 q.2.1, .int .u64 q.2.2]) 3 fixedL (fun _ _ => rfl) (j / 3) (j % 3) (by omega)
  rw [← e] at hf
  show cs[j]? = (fixedL.flatMap _)[j]?
  rw [hf]
  have hq : j / 3 < fixedL.length := by show j / 3 < 8; omega
  rw [List.getElem?_eq_getElem hq]
  have h1 := congrArg (·[j % 3]?) (hch (j / 3) (by omega) _ (List.getElem?_eq_getElem hq))
  simp only [List.getElem?_take, List.getElem?_drop, if_pos (show j % 3 < 3 by omega), ← e, Array.getElem?_toList] at h1
  rw [h1]
  rfl
theorem errVar {W : World} (h : laidMetH Tryd.prog Rows.loadsRow.laid W) : ErrVar W := by
  have h' : laidMet Tryd.prog [("tinyos/machine.fixed", Rows.laid_tinyos_machine_fixed)] W ∧ handlesMet Tryd.prog [("errors.errorType", Rows.laid_errors_errorType)] W := h
  exact errVar_of (by simp) h'.2

theorem contract (H : Type) (enc : TypeId × Value → H) (W : World) (base : Nat) (args : Array Value) (ds gs : List (DataW H)) (before : List MemPlace)
    (hval : ∀ (j : Nat) t v, Tryd.f5.params[j]? = some t → args[j]? = some v → Value.okWide Tryd.prog W .any base t v)
    (hW : DataW.Whole enc Tryd.prog Tryd.f5.params.toList Rows.loadsSpec.vars false W args.toList ds gs before) (hL : laidMetH Tryd.prog Rows.loadsRow.laid W) :
    Calls Tryd.prog 5 args W fun e W' => ∃ v, e = .returned v ∧ Rows.loadsSpec.post enc Tryd.prog Tryd.f5 false true false false W args v W' := by
  have hW' := hW
  obtain ⟨p, q, hA0, hV, rfl, hfz, hnd⟩ := hW
  have hA : DataW.TrodAll enc Tryd.prog W 0 (fun _ => true) true Tryd.f5.params.toList args.toList ds p := hA0
  rw [Tryd.params5] at hA hval
  obtain ⟨v0, d0, rfl, rfl, h0⟩ := trodAll_one hA
  obtain ⟨rfl, rfl⟩ := trodVars_none hV
  obtain ⟨a1, len, cap, rfl⟩ := okWide_slice Tryd.underlying51 (hval 0 51 v0 rfl rfl)
  clear hA0 hA
  obtain ⟨L, hlen, hbs, hcap, hmax⟩ : ∃ L : List Int, len = L.length ∧ BS W a1 L ∧ L.length ≤ cap ∧ L.length ≤ 9223372036854775807 := by
    obtain ⟨fuel, hf⟩ := h0
    rcases open_ints Tryd.underlying51 Tryd.underlying5 (by kernel_rfl) hf with ⟨hcs, hx⟩ | ⟨a, len', cap', zs, hcs, _, hl, hm, hz, hx, hcell, hwz⟩
    · simp [Value.cells] at hcs
      obtain ⟨rfl, rfl, rfl⟩ := hcs
      exact ⟨[], rfl, ⟨fun x hx => (by cases hx), fun h => absurd h (by simp)⟩, Nat.zero_le _, by simp⟩
    · simp [Value.cells] at hcs
      obtain ⟨rfl, rfl, rfl⟩ := hcs
      simp only [if_true] at hz
      have hlz : len ≤ zs.length := by omega
      refine ⟨zs.take len, by simp; omega, ⟨fun x hx => u8_bounds (hwz x (List.mem_of_mem_take hx)), fun h0 => ?_⟩, by simp; omega, by simp; unfold maxLen at hm; omega⟩
      have hl0 : 0 < len := by simp at h0; omega
      obtain ⟨ab, ao, spot⟩ := a
      have hspot : spot = none := by simpa [Addr.add] using World.cell?_spot (hcell 0 (by omega))
      subst hspot
      have hc : ∀ i, i < len → W.cell? ⟨ab, ao + i, none⟩ = ((zs.take len)[i]?).map (Value.int .u8) := fun i hi => by
        have := hcell i (by omega)
        rw [Addr.add_lit] at this
        rw [this, List.getElem?_take, if_pos hi, List.getD_eq_getElem?_getD, List.getElem?_eq_getElem (by omega)]
        rfl
      refine ⟨ab, ao, rfl, ?_, ⟨fun i hi => hc i (by simp at hi; omega), fun x hx => u8_bounds (hwz x (List.mem_of_mem_take hx))⟩⟩
      have h1 := hc 0 hl0
      rw [List.getElem?_take, if_pos hl0, List.getElem?_eq_getElem (by omega)] at h1
      have := World.block_lt_of_cell? _ _ h1
      simpa using this
  subst hlen
  refine (loads_any a1 cap L W hbs hcap hmax (fixVar hL) (errVar hL)).mono fun e W' ⟨he, hb⟩ => ?_
  subst he
  exact ⟨_, rfl, law_post hW' rfl (by kernel_rfl) (by rw [Tryd.params5]; intro t ht; simp at ht; rcases ht with rfl; exact ⟨by kernel_rfl, of_decide_eq_true (by kernel_rfl)⟩) rfl hb⟩

/-- A variable's cells, laid. -/
def putCells (cs : Array Value) : Obj → Obj
  | .cells _ t frozen => .cells cs t frozen
  | o => o
/-- A world for the witness: the settled one, errors.errorType and machine.fixed laid. -/
noncomputable def laidWorld (os : Os) : World :=
  { World.holding Tryd.prog os ⟨#[], #[], []⟩ with heap := ((World.holding Tryd.prog os ⟨#[], #[], []⟩).heap.modify 0 (putCells #[.iface 127 (.agg #[.pointer (some ⟨2, 28, none⟩)])])).modify 1 (putCells fixedV.toArray) }
abbrev wArgs : Array Value := #[.slice none 0 0]
theorem laid_met (os : Os) : laidMetH Tryd.prog Rows.loadsRow.laid ((laidWorld os).forCall (fun _ _ => 0) ⟨#[], wArgs, []⟩).memory :=
  laidMetH_of_parts (laidMet_of_run' 8 (by kernel_rfl) (by kernel_rfl)) (by kernel_rfl)
theorem reads (os : Os) {H : Type} (enc : TypeId × Value → H) : ∃ places, DataW.whole enc Tryd.prog ((laidWorld os).forCall (fun _ _ => 0) ⟨#[], wArgs, []⟩).memory Tryd.f5.params.toList Rows.loadsSpec.vars false wArgs.toList 8 =
    some ([.nil], [], places) :=
  ⟨[], by kernel_rfl⟩

theorem lifted (os : Os) (started : os.Started) (H : Type) (enc : TypeId × Value → H) (F : Stop.Interp) :
    ReturnsInHanded {} Tryd.checked os 5 .any ((OpenSpec.ofChange Rows.loadsSpec).preRow enc Tryd.prog Tryd.f5 Rows.loadsRow.domain false Rows.loadsRow.laid) (((OpenSpec.ofChange Rows.loadsSpec).at F).post enc Tryd.prog Tryd.f5 false true false false) := by
  obtain ⟨places, hx⟩ := reads os enc
  refine returnsInHanded_of_row (C := Tryd.checked) (s := OpenSpec.ofChange Rows.loadsSpec) own started (by kernel_rfl) Tryd.func5
    (witness_row_at (enc := enc) (C := Tryd.checked) false (laidWorld os) wArgs rfl (by kernel_rfl) (by kernel_rfl) (by kernel_rfl)
      (OpenSpec.preRow_of_cond 8 hx (by kernel_rfl) (fun k hk => by cases hk) (by kernel_rfl) (laid_met os))) ?_
  intro W base args ds gs before hval hW _ _ _ hL _ _
  exact contract H enc W base args ds gs before hval hW hL

theorem said : Rows.LoadsSaid :=
  OpenClaim.holds_of_cond 5 Tryd.f5 rfl rfl rfl rfl rfl rfl rfl ⟨rfl, rfl, rfl, rfl, rfl⟩ rfl rfl rfl rfl rfl (by kernel_rfl) Tryd.func5 (by kernel_rfl)
    (of_decide_eq_true (by kernel_rfl)) (by unfold Func.isWrapper; rw [if_neg (of_decide_eq_false (by kernel_rfl))]; exact ⟨rfl, rfl⟩)
    (fun os started H enc _ F => by rw [OpenClaim.pre_eq_preRow]; exact lifted os started H enc F)

theorem plain (f : FuncId) (fn : Func) (hf : Tryd.pinned.checked.prog.funcNamed "tinyos/tinyoslaw.Loads" = some f) (hfn : Tryd.pinned.checked.prog.funcs[f]? = some fn) :
    true = Tryd.pinned.checked.prog.looks [] ∧ ∀ (j : Nat) t, fn.params[j]? = some t → Tryd.pinned.checked.prog.wantsStandIn t = false := by
  obtain rfl : f = 5 := Option.some.inj ((show Tryd.prog.funcNamed "tinyos/tinyoslaw.Loads" = some 5 by kernel_rfl).symm.trans hf) |>.symm
  obtain rfl : fn = Tryd.f5 := (Option.some.inj (Tryd.func5.symm.trans hfn)).symm
  refine ⟨by kernel_rfl, fun j t ht => ?_⟩
  rw [Tryd.params5] at ht
  have hm := Array.mem_of_getElem? ht
  simp at hm
  rcases hm with rfl
  exact (show Tryd.prog.wantsStandIn 51 = false by kernel_rfl)

theorem card : Rows.LoadsCardSaid :=
  Claim7.holds_tied_plain_at .later [] _ _ _ _ said (fun _ h => by cases h) (by kernel_rfl) (fun _ h => by cases h) loads_row_tie rfl ⟨rfl, rfl⟩ (by kernel_rfl) rfl plain (by kernel_rfl)
#print axioms card
end Go.Proofs.YtologfdegdljeaaDoor.loads
