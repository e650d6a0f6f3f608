/- samePages: rows of pages, the program's and the document's. -/
import Derived.Test.YtkcjafnaephjiaaGreatDoorPart17
import Derived.Test.YtkcjafnaephjiaaGreatDoorPart15
import Derived.Test.YtkcjafnaephjiaaGreatDoorPart16
namespace Go.Proofs.YtkcjafnaephjiaaGreatDoor
open Go.RowKit Go.Maps
set_option maxRecDepth 100000

def refCells (n : Nat) (p : Pg) : List Value := .int .i64 n :: .int .i64 p.perm :: p.bytes.map (Value.int .u8)

theorem flat_at {α β : Type} (f : α → List β) (s : Nat) : ∀ (L : List α), (∀ x ∈ L, (f x).length = s) → ∀ k j, j < s → (L.flatMap f)[k * s + j]? = L[k]?.bind (fun x => (f x)[j]?)
  | [], _, k, j, _ => by simp
  | x :: L, h, k, j, hj => by
    have hx := h x List.mem_cons_self
    cases k with
    | zero =>
      rw [List.flatMap_cons, Nat.zero_mul, Nat.zero_add, List.getElem?_append_left (by omega)]
      rfl
    | succ k =>
      rw [List.flatMap_cons, List.getElem?_append_right (by rw [hx, Nat.succ_mul]; omega), hx, show (k + 1) * s + j - s = k * s + j from by rw [Nat.succ_mul]; omega, flat_at f s L (fun y hy => h y (List.mem_cons_of_mem _ hy)) k j hj]
      rfl
theorem flat_length {α β : Type} (f : α → List β) (s : Nat) : ∀ (L : List α), (∀ x ∈ L, (f x).length = s) → (L.flatMap f).length = L.length * s
  | [], _ => by simp
  | x :: L, h => by
    rw [List.flatMap_cons, List.length_append, h x List.mem_cons_self, flat_length f s L fun y hy => h y (List.mem_cons_of_mem _ hy), List.length_cons, Nat.succ_mul]
    omega

theorem quiet_load_mid {P : Program} {C : World → Prop} {a : Act} {o : Oper} {K : Act → Prop} (ty : TypeId) (x : Operand) (ho : o.op = .load ty x) (b off : Nat) (hx : a.eval x = .pointer (some ⟨b, off, none⟩)) (cs : List Value) (d : TypeDesc) (hc : ∀ w, C w → w.rangeAt b off cs)
    (hu : P.underlying ty = some d) (hd : d.isRow = true) (hi : (P.info? ty).map (·.size) = some cs.length) (hk : K (a.put o.dst (.agg cs.toArray))) : o.quiet P a C K :=
  ⟨_, fun w hw => by
    unfold Oper.quietAt
    simp only [execOp, ho, hx, run_loadAt_mid w b off ty cs d (hc w hw) hu hd hi, Sem.run_bind, Result.andThen_ok, Sem.run_pure]
    exact ⟨rfl, rfl⟩, hk⟩
theorem quiet_neq_arr {P : Program} {C : World → Prop} {a : Act} {o : Oper} {K : Act → Prop} (ty rt : TypeId) (x y : Operand) (ho : o.op = .binOp .neq ty x y rt) (xs ys : Array Value) (r : Bool) (hx : a.eval x = .agg xs) (hy : a.eval y = .agg ys) (hm : P.eqGuardType P.depth ty = false) (hr : ∀ w, (binOp .neq ty (.agg xs) (.agg ys)).run P w = .ok (.bool r) w) (hk : K (a.put o.dst (.bool r))) : o.quiet P a C K :=
  ⟨_, fun w _ => by
    unfold Oper.quietAt
    simp only [execOp, ho, hx, hy, run_eqGuard_agg w .neq ty x y xs ys hm, hr w, Sem.run_bind, Result.andThen_ok, Sem.run_pure]
    exact ⟨rfl, rfl⟩, hk⟩

/-- A slice of n elements whose cells read as xs. -/
def Rd (w : World) (v : Value) (n : Nat) (xs : List Value) : Prop :=
  ∃ p cap, v = .slice p n cap ∧ (0 < n → ∃ g, p = some ⟨g, 0, none⟩ ∧ g < w.heap.size ∧ ∀ j, j < xs.length → w.cell? ⟨g, j, none⟩ = xs[j]?)
theorem Rd.of_row {w : World} {base : Nat} {e : TypeId} {size : Nat} {v : Value} {n : Nat} {xs : List Value} (h : w.ownsRow base e size v n xs) : Rd w v n xs := by
  obtain ⟨p, cap, rfl, _, _, h | ⟨g, rfl, _, h2, h3, _⟩⟩ := row_slice h
  · exact ⟨p, cap, rfl, fun h0 => by omega⟩
  · exact ⟨_, cap, rfl, fun _ => ⟨g, rfl, h2, h3⟩⟩
theorem Rd.bel {w w' : World} {v : Value} {n : Nat} {xs : List Value} (h : Rd w v n xs) (hb : Bel w w') : Rd w' v n xs := by
  obtain ⟨p, cap, rfl, h⟩ := h
  refine ⟨p, cap, rfl, fun h0 => ?_⟩
  obtain ⟨g, rfl, h2, h3⟩ := h h0
  exact ⟨g, rfl, Nat.lt_of_lt_of_le h2 hb.size, fun j hj => (World.cell?_of_block (a := ⟨g, j, none⟩) (hb.block g h2)).trans (h3 j hj)⟩

set_option maxHeartbeats 8000000 in
theorem same_any (va vb : Value) (L : List (Nat × Pg)) (w : World) (hl : L.length ≤ 256) (hwf : ∀ q ∈ L, q.2.wf) (ha : Rd w va L.length (L.flatMap fun q => apiCells q.1 q.2)) (hb : Rd w vb L.length (L.flatMap fun q => refCells q.1 q.2)) :
    Calls Tryz.prog 32 #[va, vb] w fun e w' => e = .returned (.bool true) ∧ ∃ n, w' = w.drewN n := by
  obtain ⟨pa, capa, rfl, ha⟩ := ha
  obtain ⟨pb, capb, rfl, hb⟩ := hb
  have HA := Lib.hid ha
  have HB := Lib.hid hb
  have HW := Lib.hid hwf
  clear ha hb hwf
  go_enter Tryz.func32, Tryz.ntmps32
  go_wp2
  go_loopw [5] (fun i wr => ∃ k nn : Nat, k ≤ L.length ∧ i = .int .i64 k ∧ wr = w.drewN nn) (fun i _ => L.length - (intOf i).toNat)
  case atStart => exact ⟨0, 0, Nat.zero_le _, rfl, rfl⟩
  case round =>
    obtain ⟨k, nn, hk, rfl, rfl⟩ := hrel
    by_cases hlt : k < L.length
    · obtain ⟨ga, rfl, hga, hca⟩ := HA.out (by omega)
      obtain ⟨gb, rfl, hgb, hcb⟩ := HB.out (by omega)
      have hq := HW.out L[k] (List.getElem_mem hlt)
      have la : ∀ q ∈ L, (apiCells q.1 q.2).length = 258 := fun q hq => apiCells_length _ _ (HW.out q hq).len
      have lb : ∀ q ∈ L, (refCells q.1 q.2).length = 258 := fun q hq => by simp [refCells, (HW.out q hq).len]
      have ca : ∀ j, j < 258 → w.cell? ⟨ga, k * 258 + j, none⟩ = (apiCells L[k].1 L[k].2)[j]? := fun j hj => by
        rw [hca _ (by rw [flat_length _ 258 L la]; omega), flat_at _ 258 L la k j hj, List.getElem?_eq_getElem hlt]; rfl
      have cb : ∀ j, j < 258 → w.cell? ⟨gb, k * 258 + j, none⟩ = (refCells L[k].1 L[k].2)[j]? := fun j hj => by
        rw [hcb _ (by rw [flat_length _ 258 L lb]; omega), flat_at _ 258 L lb k j hj, List.getElem?_eq_getElem hlt]; rfl
      obtain ⟨n, p, hnp⟩ : ∃ n p, L[k] = (n, p) := ⟨_, _, rfl⟩
      rw [hnp] at ca cb hq
      have a0 : w.cell? ⟨ga, k * 258, none⟩ = some (.int .i64 n) := ca 0 (by omega)
      have a1 : w.cell? ⟨ga, k * 258 + 1, none⟩ = some (.int .u8 p.perm) := ca 1 (by omega)
      have b0 : w.cell? ⟨gb, k * 258, none⟩ = some (.int .i64 n) := cb 0 (by omega)
      have b1 : w.cell? ⟨gb, k * 258 + 1, none⟩ = some (.int .i64 p.perm) := cb 1 (by omega)
      have a2 : w.rangeAt ga (k * 258 + 2) (p.bytes.map (Value.int .u8)) := fun j v hv => by
        have hj : j < 256 := by have := (List.getElem?_eq_some_iff.1 hv).1; simpa [hq.len] using this
        rw [Nat.add_assoc, ca (2 + j) (by omega), ← hv, Nat.add_comm 2 j]; rfl
      have b2 : w.rangeAt gb (k * 258 + 2) (p.bytes.map (Value.int .u8)) := fun j v hv => by
        have hj : j < 256 := by have := (List.getElem?_eq_some_iff.1 hv).1; simpa [hq.len] using this
        rw [Nat.add_assoc, cb (2 + j) (by omega), ← hv, Nat.add_comm 2 j]; rfl
      have A2 : Hid (∀ w', (∃ n, w' = (w.drewN nn).drewN n) → w'.rangeAt ga (k * 258 + 2) (p.bytes.map (Value.int .u8))) := Lib.hid (by rintro w' ⟨n, rfl⟩; exact a2)
      have B2 : Hid (∀ w', (∃ n, w' = (w.drewN nn).drewN n) → w'.rangeAt gb (k * 258 + 2) (p.bytes.map (Value.int .u8))) := Lib.hid (by rintro w' ⟨n, rfl⟩; exact b2)
      have HL : Hid ((Tryz.prog.info? 85).map (·.size) = some (p.bytes.map (Value.int .u8)).length) := Lib.hid (by rw [List.length_map, hq.len]; kernel_rfl)
      have hp0 := hq.perm.1
      have hp1 := hq.perm.2
      obtain ⟨ie, hie⟩ := Option.isSome_iff_exists.1 (show (Tryz.prog.info? 5).isSome = true by kernel_rfl)
      have hne : ∀ w, (binOp .neq 85 (.agg (p.bytes.map (Value.int .u8)).toArray) (.agg (p.bytes.map (Value.int .u8)).toArray)).run Tryz.prog w = .ok (.bool false) w := fun w => by
        rw [run_neq_arr Tryz.underlying85 Tryz.underlying5 hie (by kernel_rfl) p.bytes p.bytes hq.len hq.len w]; simp
      have HNE := Lib.hid hne
      clear ca cb a2 b2 hca hcb la lb HA HB hie hne
      go_wp2
      refine wp_region_quiet_lit (by kernel_rfl) (by kernel_rfl) ?_
      repeat (first
        | go_big_quiet_skip
        | (go_big_quiet_want; first
            | (refine quiet_load_mid 85 (.tmp 46) rfl ga (k * 258 + 2) rfl _ _ A2.out Tryz.underlying85 rfl HL.out ?_; simp only [Act.put, List.setIfInBounds_toArray, List.set_cons_succ, List.set_cons_zero]; go_big_quiet_on)
            | (refine quiet_load_mid 85 (.tmp 51) rfl gb (k * 258 + 2) rfl _ _ B2.out Tryz.underlying85 rfl HL.out ?_; simp only [Act.put, List.setIfInBounds_toArray, List.set_cons_succ, List.set_cons_zero]; go_big_quiet_on)
            | (refine quiet_neq_arr 85 _ (.tmp 47) (.tmp 52) rfl _ _ false rfl rfl (by kernel_rfl) HNE.out ?_; simp only [Act.put, List.setIfInBounds_toArray, List.set_cons_succ, List.set_cons_zero]; go_big_quiet_on)
            | (go_big_quiet_op; go_big_quiet_on)))
      refine wpQuiet_nil ?_
      rintro _ ⟨nq, rfl⟩
      go_wp2
      go_roundw
      case rel => exact ⟨k + 1, nn + nq, by omega, by go_num, by simp [World.drewN_drewN]⟩
      case measure => simp [intOf] <;> omega
    · obtain rfl : k = L.length := by omega
      go_wp2
      go_ret
      exact ⟨rfl, nn, rfl⟩
end Go.Proofs.YtkcjafnaephjiaaGreatDoor

/- machine.Load. -/
namespace Go.Proofs.YtkcjafnaephjiaaGreatDoor
open Go.RowKit Go.Maps
set_option maxRecDepth 100000

/-- The pages behind the first k segments. -/
def spaceTo (L : List Int) : Nat → Pages
  | 0 => fun _ => none
  | k + 1 => layTo (spaceTo L k) L (segAt L k) ((segAt L k).last + 1)
/-- No page of a segment is there already. -/
def FreeAt (L : List Int) (k : Nat) : Prop := ∀ n, (segAt L k).first ≤ n → n ≤ (segAt L k).last → spaceTo L k n = none
def entryOf (L : List Int) : Int := numAt L 24 8

theorem segFits (L : List Int) (hb : ∀ x ∈ L, 0 ≤ x ∧ x ≤ 255) (i : Nat) (hl : 64 + 56 * i + 56 ≤ L.length) (h : segOk L i = true) : SegFits L (segAt L i) := by
  simp only [segOk, Bool.and_eq_true, beq_iff_eq, decide_eq_true_eq, Bool.not_eq_true', beq_eq_false_iff_ne] at h
  obtain ⟨⟨⟨⟨⟨⟨⟨⟨⟨⟨_, h1⟩, h2⟩, _⟩, h4⟩, h5⟩, h6⟩, h7⟩, _⟩, h9⟩, h10⟩ := h
  have hu := fun k => numAt_u64 L hb k 8 (by omega)
  have hp : 0 ≤ (segAt L i).perm ∧ (segAt L i).perm ≤ 7 := by
    have e : numAt L (64 + 56 * i + 4) 4 = L.getD (64 + 56 * i + 4) 0 + 256 * numV ((L.drop (64 + 56 * i + 5)).take 3) := by
      unfold numAt
      rw [List.drop_eq_getElem_cons (by omega : 64 + 56 * i + 4 < L.length), List.take_succ_cons, numV, List.getD_eq_getElem?_getD, List.getElem?_eq_getElem (by omega)]
      rfl
    have h3 := numV_bound ((L.drop (64 + 56 * i + 5)).take 3) fun x hx => hb x (List.mem_of_mem_drop (List.mem_of_mem_take hx))
    have hx : 0 ≤ L.getD (64 + 56 * i + 4) 0 := by
      rw [List.getD_eq_getElem?_getD, List.getElem?_eq_getElem (by omega)]
      exact (hb _ (List.getElem_mem _)).1
    have : (segAt L i).perm = L.getD (64 + 56 * i + 4) 0 := rfl
    rw [this]
    omega
  have a0 : (segAt L i).off = numAt L (64 + 56 * i + 8) 8 := rfl
  have a1 : (segAt L i).addr = numAt L (64 + 56 * i + 16) 8 := rfl
  have a2 : (segAt L i).file = numAt L (64 + 56 * i + 32) 8 := rfl
  have a3 : (segAt L i).mem = numAt L (64 + 56 * i + 40) 8 := rfl
  have u0 := hu (64 + 56 * i + 8)
  have u1 := hu (64 + 56 * i + 16)
  have u2 := hu (64 + 56 * i + 32)
  have u3 := hu (64 + 56 * i + 40)
  exact ⟨hp, by omega, by omega, by omega, by omega, by omega, by omega, by omega⟩

theorem segPage_wf (L : List Int) (hb : ∀ x ∈ L, 0 ≤ x ∧ x ≤ 255) (s : Seg) (hp : 0 ≤ s.perm ∧ s.perm ≤ 7) (n : Nat) : (segPage L s n).wf := by
  refine ⟨by simp [segPage], fun x hx => ?_, hp⟩
  obtain ⟨j, _, rfl⟩ := List.mem_map.1 hx
  unfold segByte
  split
  · rw [List.getD_eq_getElem?_getD]
    cases h : L[(s.off + (256 * (n : Int) + j - s.addr)).toNat]? with
    | none => simp [IsByte]
    | some x => exact hb x (List.mem_of_getElem? h)
  · simp [IsByte]
theorem spaceTo_wf (L : List Int) (hb : ∀ x ∈ L, 0 ≤ x ∧ x ≤ 255) (N : Nat) (hN : ∀ i, i < N → SegFits L (segAt L i)) : ∀ k, k ≤ N → PagesOk (spaceTo L k)
  | 0, _ => ⟨fun _ _ => rfl, fun n p h => by cases h⟩
  | k + 1, hk => by
    have ih := spaceTo_wf L hb N hN k (by omega)
    have hf := hN k (by omega)
    have hl : (segAt L k).last < 254 := by
      unfold Seg.last
      have := hf.top; have := hf.mem; have := hf.addr
      omega
    refine ⟨fun n hn => ?_, fun n p h => ?_⟩
    · simp only [spaceTo, layTo]
      rw [if_neg (by omega)]
      exact ih.below n hn
    · simp only [spaceTo, layTo] at h
      split at h
      · injection h with h
        subst h
        exact segPage_wf L hb _ hf.perm n
      · exact ih.wf n p h
def segsOk (L : List Int) : Bool := (List.range (segN L).toNat).all (segOk L)
def entryOk (L : List Int) : Bool := numAt L 24 8 % 4 == 0 && mayB (spaceTo L (segN L).toNat) (numAt L 24 8) 1 1
/-- What machine.Load answers. -/
structure LoadRes (L : List Int) (base : Nat) (e : Ending) (w' : World) : Prop where
  header : headerOk L = false → e = .returned (.tuple #[.map none, .int .u64 0, errN 2])
  segs : headerOk L = true → segsOk L = false → e = .returned (.tuple #[.map none, .int .u64 0, errN 3])
  overlap : headerOk L = true → segsOk L = true → (¬ ∀ k, k < (segN L).toNat → FreeAt L k) → e = .returned (.tuple #[.map none, .int .u64 0, errN 4])
  entry : headerOk L = true → segsOk L = true → (∀ k, k < (segN L).toNat → FreeAt L k) → entryOk L = false → e = .returned (.tuple #[.map none, .int .u64 0, errN 5])
  ok : headerOk L = true → segsOk L = true → (∀ k, k < (segN L).toNat → FreeAt L k) → entryOk L = true → ∃ mb, e = .returned (.tuple #[.map (some mb), .int .u64 (numAt L 24 8), .nilIface]) ∧ base ≤ mb ∧ Sp w' mb (spaceTo L (segN L).toNat)

theorem Sp.new (w : World) : Sp (w.alloc (.map #[] 0)) w.heap.size (fun _ => none) :=
  ⟨[], Mp.new keyI w, fun n => rfl, fun p hp => by cases hp⟩

set_option maxHeartbeats 8000000 in
theorem loadM_any (b cap : Nat) (L : List Int) (w : World) (hb : Bts w b 0 L) (hcap : L.length ≤ cap) (hlen : L.length ≤ 200000) (hfix : FixVar w) :
    Calls Tryz.prog 62 #[.slice (some ⟨b, 0, none⟩) L.length cap] w fun e w' => Bel w w' ∧ LoadRes L w.heap.size e w' := by
  have hseg := segments_any b cap L w hb hcap hlen hfix
  cases hh : headerOk L with
  | false =>
    have hs2 := hseg.mono (fun e w' (h : Bel w w' ∧ SegRes L w.heap.size e w') => And.intro (h.2.1 hh) h.1)
    have HS := Lib.hid hs2
    have HH := Lib.hid hh
    clear hseg hs2 hh
    go_enter Tryz.func62, Tryz.ntmps62
    go_wp2_with (go_at_call 84; with_reducible refine Calls.mono HS.out ?_; rintro e w1 ⟨rfl, k1⟩)
    go_ret3
    have hx : headerOk L ≠ true := by rw [HH.out]; decide
    exact ⟨k1, ⟨fun _ => rfl, fun h => absurd h hx, fun h => absurd h hx, fun h => absurd h hx, fun h => absurd h hx⟩⟩
  | true =>
    cases hs : segsOk L with
    | false =>
      have hs2 := hseg.mono (fun e w' (h : Bel w w' ∧ SegRes L w.heap.size e w') => And.intro (h.2.2.1 hh hs) h.1)
      have HS := Lib.hid hs2
      have HH := Lib.hid hh
      have HO := Lib.hid hs
      clear hseg hs2 hh hs
      go_enter Tryz.func62, Tryz.ntmps62
      go_wp2_with (go_at_call 84; with_reducible refine Calls.mono HS.out ?_; rintro e w1 ⟨rfl, k1⟩)
      go_ret3
      have hx : segsOk L ≠ true := by rw [HO.out]; decide
      have hy : headerOk L ≠ false := by rw [HH.out]; decide
      exact ⟨k1, ⟨fun h => absurd h hy, fun _ _ => rfl, fun _ h => absurd h hx, fun _ h => absurd h hx, fun _ h => absurd h hx⟩⟩
    | true =>
      have hs2 := hseg.mono (fun e w' (h : Bel w w' ∧ SegRes L w.heap.size e w') => And.intro (h.2.2.2 hh hs) h.1)
      obtain ⟨N, hN⟩ : ∃ N, (segN L).toNat = N := ⟨_, rfl⟩
      rw [hN] at hs2
      have HS := Lib.hid hs2
      have HH := Lib.hid hh
      have HO := Lib.hid hs
      have hhead : 1 ≤ segN L ∧ segN L ≤ 8 ∧ 64 + 56 * segN L ≤ L.length := by
        have := hh
        simp only [headerOk, Bool.and_eq_true, decide_eq_true_eq] at this
        exact ⟨this.1.1.2, this.1.2, this.2⟩
      have hN8 : N ≤ 8 := by omega
      have hN1 : 1 ≤ N := by omega
      have hNL : 64 + 56 * N ≤ L.length := by omega
      have hfit : ∀ i, i < N → SegFits L (segAt L i) := fun i hi => segFits L hb.byte i (by omega) (List.all_eq_true.1 hs i (List.mem_range.2 (by omega)))
      have HFIT := Lib.hid hfit
      have HWF := Lib.hid (spaceTo_wf L hb.byte N hfit)
      have HN := Lib.hid hN
      have hmm : ∀ w, (Instr.makeMap 132 none).run Tryz.prog w = .ok (.map (some w.heap.size)) (w.alloc (.map #[] 0)) := fun w => by kernel_rfl
      clear hseg hs2 hh hs hhead hN hfit
      go_enter Tryz.func62, Tryz.ntmps62
      go_wp2_with (go_at_call 84; with_reducible refine Calls.mono HS.out ?_; rintro e w1 ⟨⟨v, rfl, hrow⟩, k1⟩
                   obtain ⟨ps, cp, rfl, hcp, hcm, hps⟩ := row_slice hrow
                   have HROW := Lib.hid hrow
                   have HPS := Lib.hid hps
                   clear hrow hps)
      have k2 : Bel w1 (w1.alloc (.map #[] 0)) := Below.heap_alloc' w1 _
      have hsn : Sp (w1.alloc (.map #[] 0)) w1.heap.size (spaceTo L 0) := Sp.new w1
      have hmb : w.heap.size ≤ w1.heap.size := k1.size
      have hgs : ∀ g, g < w1.heap.size → g ≠ w1.heap.size := fun g h => by omega
      have HGS := Lib.hid hgs
      clear hgs
      generalize w1.alloc (.map #[] 0) = w2 at *
      have HK2 := Lib.hid k2
      have hsz2 : w1.heap.size < w2.heap.size := hsn.lt
      generalize hmbe : w1.heap.size = mb at *
      have HMBE := Lib.hid hmbe
      clear hmbe
      have HKW : Hid (Bel w w2) := Lib.hid (k1.tr HK2.out)
      go_loopw [22] (fun i wr => ∃ k : Nat, k ≤ N ∧ i = .int .i64 k ∧ Sp wr mb (spaceTo L k) ∧ Keep (fun i => i = mb) w2 wr ∧ ∀ j, j < k → FreeAt L j) (fun i _ => N - (intOf i).toNat)
      case atStart => exact ⟨0, Nat.zero_le _, rfl, hsn, Keep.refl _ _, fun j hj => by omega⟩
      case round =>
        obtain ⟨k, hk, rfl, hsr, hkr, hall⟩ := hrel
        have HALL := Lib.hid hall
        have HSR := Lib.hid hsr
        clear hall hsr
        by_cases hlt : k < N
        · obtain ⟨gs, rfl, hb0, hb1, hcl, _⟩ := HPS.out.resolve_left (by omega)
          have hrange : wr.rangeAt gs (k * 5) (segAt L k).cells := fun j v hv => by
            have hj : j < 5 := by have := (List.getElem?_eq_some_iff.1 hv).1; simpa [Seg.cells] using this
            have hgl : gs < w2.heap.size := Nat.lt_of_lt_of_le hb1 (Nat.le_of_lt hsz2)
            rw [hkr.cell ⟨gs, k * 5 + j, none⟩ hgl (HGS.out gs hb1), World.cell?_of_block (a := ⟨gs, k * 5 + j, none⟩) (HK2.out.block gs (by rw [HMBE.out]; exact hb1)), hcl _ (by rw [flat_length _ 5 _ (fun _ _ => rfl)]; simp; omega), flat_at _ 5 _ (fun _ _ => rfl) k j hj]
            rw [List.getElem?_range hlt]
            exact hv
          have HR := Lib.hid hrange
          clear hrange hcl
          have hbr : Bts wr b 0 L := (hb.keep (Keep.of_bel (fun _ => False) HKW.out) (fun _ h => h)).keep hkr (fun h0 => hsn.ne (hb.keep (Keep.of_bel (fun _ => False) HKW.out) (fun _ h => h)) h0)
          have hf := HFIT.out k hlt
          have hw := HWF.out k (by omega)
          obtain ⟨s, hs⟩ : ∃ s, segAt L k = s := ⟨_, rfl⟩
          rw [hs] at HR hf
          have hlay := fun W (hW : Sp W mb (spaceTo L k)) (hB : Bts W b 0 L) => lay_any mb b cap (spaceTo L k) L s.perm s.off s.addr s.file s.mem W hW hw.wf hB hcap hlen hf
          have HSG := Lib.hid hs
          have HBR := Lib.hid hbr
          by_cases hfree : FreeAt L k
          · have HLF : Hid (∀ W, Sp W mb (spaceTo L k) → Bts W b 0 L → Calls Tryz.prog 85 #[.map (some mb), .agg s.cells.toArray, .slice (some ⟨b, 0, none⟩) L.length cap] W fun e w' => e = .returned (.bool true) ∧ (Keep (fun k => k = mb) W w' ∧ Sp w' mb (spaceTo L (k + 1)))) := Lib.hid fun W hW hB =>
              (hlay W hW hB).mono fun e w' h => by
                have h2 := h.2.2 (fun n h1 h2 => hfree n (by rw [hs]; exact h1) (by rw [hs]; exact h2))
                exact ⟨h2.1, h.1, by simp only [spaceTo]; rw [hs]; exact h2.2⟩
            have HFREE := Lib.hid hfree
            clear hlay hs hbr hw hf hfree
            go_wp2_with (first
            | (refine wpList_load_mid rfl 235 (.tmp 24) rfl gs (k * 5) rfl s.cells _ HR.out Tryz.underlying235 rfl (by kernel_rfl) ?_)
            | (refine wpList_store_blk rfl 235 (.tmp 9) (.tmp 25) rfl rfl wr.heap.size s.cells [.int .u8 0, .int .u64 0, .int .u64 0, .int .u64 0, .int .u64 0] 235 (Blk.new wr _ _) rfl rfl (by kernel_rfl) rfl (by intro v hv; simp [Seg.cells] at hv; rcases hv with rfl | rfl | rfl | rfl | rfl <;> rfl) ?_; intro w3 B3 K3)
            | (refine wpList_load_mid rfl 235 (.tmp 9) rfl wr.heap.size 0 rfl s.cells _ (by have := B3.out.range 0; simpa using this) Tryz.underlying235 rfl (by kernel_rfl) ?_)
            | (go_at_call 85
               have kc : Bel wr w3 := (Below.heap_alloc' wr _).trans (K3.below _ (by simp) (fun k hk => by omega))
               refine Calls.mono (HLF.out w3 (HSR.out.bel kc) (HBR.out.keep (Keep.of_bel (fun _ => False) kc) (fun _ h => h))) ?_
               rintro e w5 ⟨rfl, r5⟩))
            exact ⟨⟨k + 1, by omega, by go_num, r5.2, hkr.tr ((Keep.of_bel _ kc).tr r5.1), upTo_snoc HALL.out HFREE.out⟩, by simp only [intOf]; omega⟩
          · have hnf : ∃ n, s.first ≤ n ∧ n ≤ s.last ∧ spaceTo L k n ≠ none := by
              refine Classical.byContradiction fun hc => hfree fun n h1 h2 => Classical.byContradiction fun h3 => hc ⟨n, by rw [← hs]; exact h1, by rw [← hs]; exact h2, h3⟩
            have HLF : Hid (∀ W, Sp W mb (spaceTo L k) → Bts W b 0 L → Calls Tryz.prog 85 #[.map (some mb), .agg s.cells.toArray, .slice (some ⟨b, 0, none⟩) L.length cap] W fun e w' => e = .returned (.bool false) ∧ Keep (fun k => k = mb) W w') := Lib.hid fun W hW hB =>
              (hlay W hW hB).mono fun e w' h => ⟨h.2.1 hnf, h.1⟩
            have HFREE := Lib.hid hfree
            clear hlay hs hbr hw hf hfree hnf
            go_wp2_with (first
            | (refine wpList_load_mid rfl 235 (.tmp 24) rfl gs (k * 5) rfl s.cells _ HR.out Tryz.underlying235 rfl (by kernel_rfl) ?_)
            | (refine wpList_store_blk rfl 235 (.tmp 9) (.tmp 25) rfl rfl wr.heap.size s.cells [.int .u8 0, .int .u64 0, .int .u64 0, .int .u64 0, .int .u64 0] 235 (Blk.new wr _ _) rfl rfl (by kernel_rfl) rfl (by intro v hv; simp [Seg.cells] at hv; rcases hv with rfl | rfl | rfl | rfl | rfl <;> rfl) ?_; intro w3 B3 K3)
            | (refine wpList_load_mid rfl 235 (.tmp 9) rfl wr.heap.size 0 rfl s.cells _ (by have := B3.out.range 0; simpa using this) Tryz.underlying235 rfl (by kernel_rfl) ?_)
            | (go_at_call 85
               have kc : Bel wr w3 := (Below.heap_alloc' wr _).trans (K3.below _ (by simp) (fun k hk => by omega))
               refine Calls.mono (HLF.out w3 (HSR.out.bel kc) (HBR.out.keep (Keep.of_bel (fun _ => False) kc) (fun _ h => h))) ?_
               rintro e w5 ⟨rfl, r5⟩))
            go_ret3
            have hkk : Keep (fun i => i = mb) w2 w5 := hkr.tr ((Keep.of_bel _ kc).tr r5)
            have hno : ¬ ∀ k, k < (segN L).toNat → FreeAt L k := fun h => HFREE.out (h k (by rw [HN.out]; exact hlt))
            have hy : headerOk L ≠ false := by rw [HH.out]; decide
            have hz : segsOk L ≠ false := by rw [HO.out]; decide
            exact ⟨Below.trans HKW.out (hkk.below _ HKW.out.size (fun i hi => by omega)), ⟨fun h => absurd h hy, fun _ h => absurd h hz, fun _ _ _ => rfl, fun _ _ h => absurd h hno, fun _ _ h => absurd h hno⟩⟩
        · obtain rfl : k = N := by omega
          have hbr : Bts wr b 0 L := (hb.keep (Keep.of_bel (fun _ => False) HKW.out) (fun _ h => h)).keep hkr (fun h0 => hsn.ne (hb.keep (Keep.of_bel (fun _ => False) HKW.out) (fun _ h => h)) h0)
          have hfree : ∀ j, j < (segN L).toNat → FreeAt L j := by rw [HN.out]; exact HALL.out
          have hbel : Bel w wr := Below.trans HKW.out (hkr.below _ HKW.out.size (fun i hi => by omega))
          have hy : headerOk L ≠ false := by rw [HH.out]; decide
          have hz : segsOk L ≠ false := by rw [HO.out]; decide
          obtain ⟨E, hE⟩ : ∃ E, numAt L 24 8 = E := ⟨_, rfl⟩
          have hEb := numAt_u64 L hb.byte 24 8 (by omega)
          rw [hE] at hEb
          obtain ⟨hE0, hE1⟩ := hEb
          have hnum := number_at b 24 8 (cap - 24) L wr hbr (by omega) (by omega)
          rw [hE] at hnum
          have hmay := may_any mb (spaceTo L k) E 1 1 wr HSR.out hE0 hE1 (by omega) (by omega)
          have hent : entryOk L = (E % 4 == 0 && mayB (spaceTo L k) E 1 1) := by unfold entryOk; rw [HN.out, hE]
          have HNUM := Lib.hid hnum
          have HMAY := Lib.hid hmay
          have HENT := Lib.hid hent
          have HE := Lib.hid hE
          have HFR := Lib.hid hfree
          have HBEL := Lib.hid hbel
          have HCAP : 64 ≤ cap := by omega
          clear hnum hmay hent hE hfree hbel hbr
          by_cases q : E % 4 = 0
          · cases hm : mayB (spaceTo L k) E 1 1 with
            | true =>
              have HO2 : Hid (entryOk L = true) := Lib.hid (by rw [HENT.out, hm]; simp [q])
              rw [hm] at HMAY
              have q1 : (E % 4 != 0) = false := by simp [q]
              clear hm q
              go_wp2_with (first
                | (go_at_call 86; with_reducible refine Calls.mono HNUM.out ?_; rintro e wx ⟨rfl, h⟩; subst h)
                | (go_at_call 87; with_reducible refine Calls.mono HMAY.out ?_; rintro e wx ⟨rfl, h⟩; subst h))
              go_ret3
              exact ⟨HBEL.out, ⟨fun h => absurd h hy, fun _ h => absurd h hz, fun _ _ h => absurd HFR.out h, fun _ _ _ h => absurd HO2.out (by rw [h]; decide), fun _ _ _ _ => ⟨mb, by rw [HE.out]; try rfl, hmb, by rw [HN.out]; exact HSR.out⟩⟩⟩
            | false =>
              have HO2 : Hid (entryOk L = false) := Lib.hid (by rw [HENT.out, hm]; simp)
              rw [hm] at HMAY
              have q1 : (E % 4 != 0) = false := by simp [q]
              clear hm q
              go_wp2_with (first
                | (go_at_call 86; with_reducible refine Calls.mono HNUM.out ?_; rintro e wx ⟨rfl, h⟩; subst h)
                | (go_at_call 87; with_reducible refine Calls.mono HMAY.out ?_; rintro e wx ⟨rfl, h⟩; subst h))
              go_ret3
              exact ⟨HBEL.out, ⟨fun h => absurd h hy, fun _ h => absurd h hz, fun _ _ h => absurd HFR.out h, fun _ _ _ _ => rfl, fun _ _ _ h => absurd HO2.out (by rw [h]; decide)⟩⟩
          · have HO2 : Hid (entryOk L = false) := Lib.hid (by rw [HENT.out]; simp [q])
            have q1 : (E % 4 != 0) = true := by simp [q]
            clear q
            go_wp2_with (first
              | (go_at_call 86; with_reducible refine Calls.mono HNUM.out ?_; rintro e wx ⟨rfl, h⟩; subst h))
            go_ret3
            exact ⟨HBEL.out, ⟨fun h => absurd h hy, fun _ h => absurd h hz, fun _ _ h => absurd HFR.out h, fun _ _ _ _ => rfl, fun _ _ _ h => absurd HO2.out (by rw [h]; decide)⟩⟩
end Go.Proofs.YtkcjafnaephjiaaGreatDoor
