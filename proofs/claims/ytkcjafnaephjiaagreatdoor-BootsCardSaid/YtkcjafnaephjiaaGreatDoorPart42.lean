/- The program's Used, Console, Files. -/
import Derived.Deep.RegionHeld3
import Derived.Deep.DrawnRows
import Derived.Test.YtkcjafnaephjiaaGreatDoorPart39
set_option linter.unusedVariables false
set_option linter.unusedSimpArgs false
namespace Go.Proofs.YtkcjafnaephjiaaGreatDoor
open Go.RowKit Go.Maps
set_option maxRecDepth 100000

set_option maxHeartbeats 4000000 in
theorem treeUsed_any (tb : Nat) (A : Adr) (t : TN) (w : World) (hT : Blk w tb (t.cells A) 175) :
    Calls Tryz.prog 54 #[.pointer (some ⟨tb, 0, none⟩)] w fun e w' => e = .returned (.tuple #[.int .i64 t.inodes, .int .i64 t.bytes]) ∧ ∃ n, w' = w.drewN n := by
  have c1 : w.cell? ⟨tb, 1, none⟩ = some (.int .i64 t.inodes) := hT.cell 1
  have c2 : w.cell? ⟨tb, 2, none⟩ = some (.int .i64 t.bytes) := hT.cell 2
  clear hT
  go_enter Tryz.func54, Tryz.ntmps54
  go_upto_region 1 with fail
  go_quiet (fail)
  go_wp2
  go_ret2
  exact ⟨rfl, nq, rfl⟩
set_option maxHeartbeats 4000000 in
theorem tableUsed_any (ob : Nat) (n m : Int) (w : World) (h : Blk w ob [.int .i64 n, .int .i64 m] 177) :
    Calls Tryz.prog 55 #[.pointer (some ⟨ob, 0, none⟩)] w fun e w' => e = .returned (.int .i64 n) ∧ w = w' := by
  have c0 : w.cell? ⟨ob, 0, none⟩ = some (.int .i64 n) := h.cell 0
  clear h
  go_enter Tryz.func55, Tryz.ntmps55
  go_wp2
  go_ret
  exact ⟨rfl, rfl⟩
theorem Mp.heapLen {w : World} {b : Nat} {kv : List (Int × Value)} (h : Mp keyP w b kv) : ∃ es clock, w.heap[b]? = some (.map es clock) ∧ es.size = kv.length := by
  obtain ⟨es, clock, hb, _, he, _⟩ := h
  have := congrArg List.length he
  simp only [List.length_map, Array.length_toList] at this
  exact ⟨es, clock, hb, this⟩
theorem step_len_map {P : Program} {w : World} {ops : Array Oper} {o : Oper} {a : Act} {K : Act → World → Prop} {Q : Exit → Act → World → Prop} {E : Prop} (hgd : o.guard = none) (x : Operand) (t : TypeId) {k e : TypeId} (ho : o.op = .call { callee := .builtin .len, args := #[x], argTypes := #[t] }) (ht : P.underlying t = some (.map k e))
    (b : Nat) (hx : a.eval x = .map (some b)) {es : Array MapEntry} {clock : Nat} (hb : w.heap[b]? = some (.map es clock)) (n : Nat) (hn : es.size = n)
    (h : K (a.put o.dst (.int .i64 (n : Int))) w) : if Region.wanted o (yielded ops a.tmps) = true then Oper.wp P o a w K Q else E := by
  have hw : Region.wanted o (yielded ops a.tmps) = true := by simp [Region.wanted, hgd]
  rw [if_pos hw]
  have hrun := run_len_map (P := P) (ty := o.type) ht hb
  unfold Oper.wp
  simp [execOp, ho, resolve, invoke, builtin, hx, hrun, Result.andThen]
  rw [hn]
  exact h
set_option maxHeartbeats 8000000 in
theorem usedP_any (kb : Nat) (a b c d e : Int) (pm tb ob cb : Nat) (fr now : Int) (sl : Value) (kv : List (Int × Value)) (A : Adr) (t : TN) (n m : Int) (w : World) (hk : Blk w kb (kerC a b c d e pm tb ob cb fr now sl) 124) (hp : Mp keyP w pm kv) (hT : Blk w tb (t.cells A) 175) (ho : Blk w ob [.int .i64 n, .int .i64 m] 177) :
    Calls Tryz.prog 35 #[.pointer (some ⟨kb, 0, none⟩)] w fun e w' => e = .returned (.agg #[.int .i64 (kv.length : Nat), .int .i64 fr, .int .i64 n, .int .i64 t.inodes, .int .i64 t.bytes]) ∧ Bel w w' := by
  have HK := Lib.hid hk
  have HP := Lib.hid hp
  have HT := Lib.hid hT
  have HO := Lib.hid ho
  have c6 : w.cell? ⟨kb, 6, none⟩ = some (.pointer (some ⟨tb, 0, none⟩)) := hk.cell 6
  have hkl := hk.lt
  clear hk hp hT ho
  go_enter Tryz.func35, Tryz.ntmps35
  go_upto_region 2 with (go_at_call 54; ((with_reducible refine Calls.mono (treeUsed_any tb A t _ (HT.out.alloc _)) ?_); rintro e2 w1 ⟨rfl, nq, h1⟩; have k1 : Bel w w1 := h1 ▸ bel_drewN (Bel.start w _) nq; have B1 : Blk w1 w.heap.size [.int .i64 0, .int .i64 0, .int .i64 0, .int .i64 0, .int .i64 0] 23 := h1 ▸ Blk.new w _ _; have HK1 := Lib.hid k1; have HB1 := Lib.hid B1; clear h1 k1 B1))
  have d5 : w1.cell? ⟨kb, 5, none⟩ = some (.map (some pm)) := (HK.out.bel HK1.out).cell 5
  have d9 : w1.cell? ⟨kb, 9, none⟩ = some (.int .i64 fr) := (HK.out.bel HK1.out).cell 9
  have d7 : w1.cell? ⟨kb, 7, none⟩ = some (.pointer (some ⟨ob, 0, none⟩)) := (HK.out.bel HK1.out).cell 7
  obtain ⟨es, clock, hes, hesl⟩ := (HP.out.bel HK1.out).heapLen
  have HES := Lib.hid (And.intro hes hesl)
  obtain ⟨g, hg⟩ : ∃ g, w.heap.size = g := ⟨_, rfl⟩
  rw [hg] at HB1 ⊢
  have HG := Lib.hid hg
  have r0 : w1.cell? ⟨g, 0, none⟩ = some (.int .i64 0) := HB1.out.cell 0
  have r1 : w1.cell? ⟨g, 1, none⟩ = some (.int .i64 0) := HB1.out.cell 1
  have r2 : w1.cell? ⟨g, 2, none⟩ = some (.int .i64 0) := HB1.out.cell 2
  have r3 : w1.cell? ⟨g, 3, none⟩ = some (.int .i64 0) := HB1.out.cell 3
  have r4 : w1.cell? ⟨g, 4, none⟩ = some (.int .i64 0) := HB1.out.cell 4
  have rf := HB1.out.frozen
  have rl := HB1.out.lt
  have hne : kb ≠ g := by omega
  have hne2 : g ≠ kb := by omega
  clear hes hesl hg c6
  refine wp_region_noPanic ?_
  refine wp_region_held_drew (S := fun w' => w'.cell? ⟨kb, 5, none⟩ = some (.map (some pm)) ∧ w'.cell? ⟨kb, 9, none⟩ = some (.int .i64 fr) ∧ w'.cell? ⟨kb, 7, none⟩ = some (.pointer (some ⟨ob, 0, none⟩))) (by kernel_rfl) (by (try dsimp only); first | (go_keep; done) | assumption) (fun hHeld => ?_)
  refine wpAnyH_take (i := 0) (v := ?vq1) rfl (by kernel_rfl) (by kernel_rfl) (by kernel_rfl) (fun _ _ _ h => h) (Or.inl ⟨by rfl, ?hq1⟩) (by assumption) ?rq1
  case hq1 => (intro w hSw; (try dsimp only at hSw); go_simp; with_reducible rfl)
  (try simp only [Act.put, List.setIfInBounds_toArray, List.set_cons_zero, List.set_cons_succ, List.getElem_toArray, List.getElem_cons_zero, List.getElem_cons_succ])
  refine wpAnyH_take (i := 1) (v := ?vq2) rfl (by kernel_rfl) (by kernel_rfl) (by kernel_rfl) (fun _ _ _ h => h) (Or.inl ⟨by rfl, ?hq2⟩) (by assumption) ?rq2
  case hq2 => (intro w hSw; (try dsimp only at hSw); go_simp; with_reducible rfl)
  (try simp only [Act.put, List.setIfInBounds_toArray, List.set_cons_zero, List.set_cons_succ, List.getElem_toArray, List.getElem_cons_zero, List.getElem_cons_succ])
  refine wpAnyH_take (i := 2) (v := ?vq3) rfl (by kernel_rfl) (by kernel_rfl) (by kernel_rfl) (fun _ _ _ h => h) (Or.inl ⟨by rfl, ?hq3⟩) (by assumption) ?rq3
  case hq3 => (intro w hSw; (try dsimp only at hSw); go_simp; with_reducible rfl)
  (try simp only [Act.put, List.setIfInBounds_toArray, List.set_cons_zero, List.set_cons_succ, List.getElem_toArray, List.getElem_cons_zero, List.getElem_cons_succ])
  refine wpAnyH_take (i := 3) (v := ?vq4) rfl (by kernel_rfl) (by kernel_rfl) (by kernel_rfl) (fun _ _ _ h => h) (Or.inl ⟨by rfl, ?hq4⟩) (by assumption) ?rq4
  case hq4 => (intro w hSw; (try dsimp only at hSw); go_simp; with_reducible rfl)
  (try simp only [Act.put, List.setIfInBounds_toArray, List.set_cons_zero, List.set_cons_succ, List.getElem_toArray, List.getElem_cons_zero, List.getElem_cons_succ])
  refine wpAnyH_take (i := 5) (v := ?vq5) rfl (by kernel_rfl) (by kernel_rfl) (by kernel_rfl) (fun _ _ _ h => h) (Or.inl ⟨by rfl, ?hq5⟩) (by assumption) ?rq5
  case hq5 => (intro w hSw; (try dsimp only at hSw); go_simp; with_reducible rfl)
  (try simp only [Act.put, List.setIfInBounds_toArray, List.set_cons_zero, List.set_cons_succ, List.getElem_toArray, List.getElem_cons_zero, List.getElem_cons_succ])
  refine wpAnyH_take (i := 6) (v := ?vq6) rfl (by kernel_rfl) (by kernel_rfl) (by kernel_rfl) (fun _ _ _ h => h) (Or.inl ⟨by rfl, ?hq6⟩) (by assumption) ?rq6
  case hq6 => (intro w hSw; (try dsimp only at hSw); go_simp; with_reducible rfl)
  (try simp only [Act.put, List.setIfInBounds_toArray, List.set_cons_zero, List.set_cons_succ, List.getElem_toArray, List.getElem_cons_zero, List.getElem_cons_succ])
  refine wpAnyH_take (i := 7) (v := ?vq7) rfl (by kernel_rfl) (by kernel_rfl) (by kernel_rfl) (fun _ _ _ h => h) (Or.inl ⟨by rfl, ?hq7⟩) (by assumption) ?rq7
  case hq7 => (intro w hSw; (try dsimp only at hSw); go_simp; with_reducible rfl)
  (try simp only [Act.put, List.setIfInBounds_toArray, List.set_cons_zero, List.set_cons_succ, List.getElem_toArray, List.getElem_cons_zero, List.getElem_cons_succ])
  refine wpAnyH_take (i := 8) (v := ?vq8) rfl (by kernel_rfl) (by kernel_rfl) (by kernel_rfl) (fun _ _ _ h => h) (Or.inl ⟨by rfl, ?hq8⟩) (by assumption) ?rq8
  case hq8 => (intro w hSw; (try dsimp only at hSw); go_simp; with_reducible rfl)
  (try simp only [Act.put, List.setIfInBounds_toArray, List.set_cons_zero, List.set_cons_succ, List.getElem_toArray, List.getElem_cons_zero, List.getElem_cons_succ])
  refine wpAnyH_take (i := 9) (v := ?vq9) rfl (by kernel_rfl) (by kernel_rfl) (by kernel_rfl) (fun _ _ _ h => h) (Or.inl ⟨by rfl, ?hq9⟩) (by assumption) ?rq9
  case hq9 => (intro w hSw; (try dsimp only at hSw); go_simp; with_reducible rfl)
  (try simp only [Act.put, List.setIfInBounds_toArray, List.set_cons_zero, List.set_cons_succ, List.getElem_toArray, List.getElem_cons_zero, List.getElem_cons_succ])
  refine wpAnyH_take (i := 10) (v := ?vq10) rfl (by kernel_rfl) (by kernel_rfl) (by kernel_rfl) (fun _ _ _ h => h) (Or.inl ⟨by rfl, ?hq10⟩) (by assumption) ?rq10
  case hq10 => (intro w hSw; (try dsimp only at hSw); go_simp; with_reducible rfl)
  (try simp only [Act.put, List.setIfInBounds_toArray, List.set_cons_zero, List.set_cons_succ, List.getElem_toArray, List.getElem_cons_zero, List.getElem_cons_succ])
  refine wpAnyH_take (i := 11) (v := ?vq11) rfl (by kernel_rfl) (by kernel_rfl) (by kernel_rfl) (fun _ _ _ h => h) (Or.inl ⟨by rfl, ?hq11⟩) (by assumption) ?rq11
  case hq11 => (intro w hSw; (try dsimp only at hSw); go_simp; with_reducible rfl)
  (try simp only [Act.put, List.setIfInBounds_toArray, List.set_cons_zero, List.set_cons_succ, List.getElem_toArray, List.getElem_cons_zero, List.getElem_cons_succ])
  refine wpAnyH_take (i := 12) (v := ?vq12) rfl (by kernel_rfl) (by kernel_rfl) (by kernel_rfl) (fun _ _ _ h => h) (Or.inl ⟨by rfl, ?hq12⟩) (by assumption) ?rq12
  case hq12 => (intro w hSw; (try dsimp only at hSw); go_simp; with_reducible rfl)
  (try simp only [Act.put, List.setIfInBounds_toArray, List.set_cons_zero, List.set_cons_succ, List.getElem_toArray, List.getElem_cons_zero, List.getElem_cons_succ])
  refine wpAnyH_take (i := 14) (v := ?vq13) rfl (by kernel_rfl) (by kernel_rfl) (by kernel_rfl) (fun _ _ _ h => h) (Or.inl ⟨by rfl, ?hq13⟩) (by assumption) ?rq13
  case hq13 => (intro w hSw; (try dsimp only at hSw); go_simp; with_reducible rfl)
  (try simp only [Act.put, List.setIfInBounds_toArray, List.set_cons_zero, List.set_cons_succ, List.getElem_toArray, List.getElem_cons_zero, List.getElem_cons_succ])
  refine wpAnyH_take (i := 15) (v := ?vq14) rfl (by kernel_rfl) (by kernel_rfl) (by kernel_rfl) (fun _ _ _ h => h) (Or.inl ⟨by rfl, ?hq14⟩) (by assumption) ?rq14
  case hq14 => (intro w hSw; (try dsimp only at hSw); go_simp; with_reducible rfl)
  (try simp only [Act.put, List.setIfInBounds_toArray, List.set_cons_zero, List.set_cons_succ, List.getElem_toArray, List.getElem_cons_zero, List.getElem_cons_succ])
  refine wpAnyH_ready (rs := [4]) (by kernel_rfl) (by simp) ?_
  refine AllReadyH.cons rfl (fun K hK => ?_) AllReadyH.nil
  refine step_len_map rfl (.tmp 16) 117 rfl Tryz.underlying117 pm rfl (w := w1.drew) HES.out.1 kv.length HES.out.2 ?_
  refine hK.out _ _ (by (try dsimp only); first | assumption | (go_keep; done)) (fun hH => ?_)
  clear hK K
  (try simp only [Act.put, List.setIfInBounds_toArray, List.set_cons_zero, List.set_cons_succ, List.getElem_toArray, List.getElem_cons_zero, List.getElem_cons_succ])
  refine wpAnyH_ready (rs := [13]) (by kernel_rfl) (by simp) ?_
  refine AllReadyH.cons rfl (fun K hK => ?_) AllReadyH.nil
  go_simp; go_at_call 55; ((with_reducible refine Calls.mono (tableUsed_any ob n m _ (HO.out.bel (HK1.out.tr (Bel.drew (Bel.refl _))))) ?_); rintro e3 w3 ⟨rfl, hh⟩; subst hh)
  refine hK.out _ _ (by (try dsimp only); first | assumption | (go_keep; done)) (fun hH => ?_)
  clear hK K
  (try simp only [Act.put, List.setIfInBounds_toArray, List.set_cons_zero, List.set_cons_succ, List.getElem_toArray, List.getElem_cons_zero, List.getElem_cons_succ])
  refine wpAnyH_take (i := 16) (v := ?vq15) rfl (by kernel_rfl) (by kernel_rfl) (by kernel_rfl) (fun _ _ _ h => h) (Or.inl ⟨by rfl, ?hq15⟩) (by assumption) ?rq15
  case hq15 => (intro w hSw; (try dsimp only at hSw); go_simp; with_reducible rfl)
  (try simp only [Act.put, List.setIfInBounds_toArray, List.set_cons_zero, List.set_cons_succ, List.getElem_toArray, List.getElem_cons_zero, List.getElem_cons_succ])
  refine wpAnyH_ready (rs := [17]) (by kernel_rfl) (by simp) ?_
  refine AllReadyH.cons rfl (fun K hK => ?_) AllReadyH.nil
  go_simp
  refine hK.out _ _ ?hS17 (fun hH => ?_)
  case hS17 =>
    have hfar : ∀ (W : World) (i o : Nat) (v : Value), (W.setCell ⟨g, i, none⟩ v).cell? ⟨kb, o, none⟩ = W.cell? ⟨kb, o, none⟩ := fun W i o v => World.cell?_setCell_far W ⟨g, i, none⟩ ⟨kb, o, none⟩ v hne2
    have hdr : ∀ (W : World) (a : Addr), W.drew.cell? a = W.cell? a := fun _ _ => rfl
    refine ⟨?_, ?_, ?_⟩
    · rw [hdr, hfar, hfar, hfar, hfar, hfar]
      exact (hdr w1 _).symm.trans hHeld.1
    · rw [hdr, hfar, hfar, hfar, hfar, hfar]
      exact (hdr w1 _).symm.trans hHeld.2.1
    · rw [hdr, hfar, hfar, hfar, hfar, hfar]
      exact (hdr w1 _).symm.trans hHeld.2.2
  clear hK K
  (try simp only [Act.put, List.setIfInBounds_toArray, List.set_cons_zero, List.set_cons_succ, List.getElem_toArray, List.getElem_cons_zero, List.getElem_cons_succ])
  refine wpAnyH_done (by kernel_rfl) ?_ _
  refine NoPanic.normal ?_
  go_wp2_with fail
  refine bodyPost_ret (v := .agg #[.int .i64 (kv.length : Nat), .int .i64 fr, .int .i64 n, .int .i64 t.inodes, .int .i64 t.bytes]) (by simp [results, Tryz.results35, go_sem, *]) rfl ⟨rfl, ?_⟩
  have hgw : w.heap.size ≤ g := by rw [HG.out]; exact Nat.le_refl _
  exact ((((((HK1.out).store (p := ⟨g, 0, none⟩) hgw _).store (p := ⟨g, 1, none⟩) hgw _).store (p := ⟨g, 2, none⟩) hgw _).store (p := ⟨g, 3, none⟩) hgw _).store (p := ⟨g, 4, none⟩) hgw _).drew
set_option maxHeartbeats 4000000 in
theorem consoleP_any (kb : Nat) (a b c d e : Int) (pm tb ob cb : Nat) (fr now : Int) (sl : Value) (fds : Int) (ty out : Value) (w : World) (hk : Blk w kb (kerC a b c d e pm tb ob cb fr now sl) 124) (hc : Blk w cb [.int .i64 fds, ty, out] 116) :
    Calls Tryz.prog 25 #[.pointer (some ⟨kb, 0, none⟩)] w fun e w' => e = .returned out ∧ Blk w' cb [.int .i64 fds, ty, .slice none 0 0] 116 ∧ Keep (fun q => q = cb) w w' := by
  have c8 : w.cell? ⟨kb, 8, none⟩ = some (.pointer (some ⟨cb, 0, none⟩)) := hk.cell 8
  have c2 : w.cell? ⟨cb, 2, none⟩ = some out := hc.cell 2
  have f2 := hc.frozen
  have hl := hc.lt
  have HC := Lib.hid hc
  clear hk hc
  go_enter Tryz.func25, Tryz.ntmps25
  go_wp2
  go_ret
  exact ⟨rfl, HC.out.setCell (o := 2) _, Keep.setCell _ _ _ _⟩
/-- The wrappers of package tinyos. -/
theorem wrap_tinyos {tk kb : Nat} {w : World} (h : Blk w tk [.pointer (some ⟨kb, 0, none⟩)] 96) : w.cell? ⟨tk, 0, none⟩ = some (.pointer (some ⟨kb, 0, none⟩)) := h.cell 0
set_option maxHeartbeats 4000000 in
theorem tConsole_any (tk kb : Nat) (R : Ending → World → Prop) (v : Value) (Q : World → Prop) (w : World) (h : Blk w tk [.pointer (some ⟨kb, 0, none⟩)] 96) (hk : Calls Tryz.prog 25 #[.pointer (some ⟨kb, 0, none⟩)] w fun e w' => e = .returned v ∧ Q w') :
    Calls Tryz.prog 9 #[.pointer (some ⟨tk, 0, none⟩)] w fun e w' => e = .returned v ∧ Q w' := by
  have c0 := wrap_tinyos h
  have HK := Lib.hid hk
  clear h hk
  go_enter Tryz.func9, Tryz.ntmps9
  go_wp2_with (go_at_call 25; ((with_reducible refine Calls.mono HK.out ?_); rintro e w1 ⟨rfl, h1⟩; have H1 := Lib.hid h1; clear h1))
  go_ret
  exact ⟨rfl, H1.out⟩
set_option maxHeartbeats 4000000 in
theorem tProcs_any (tk kb : Nat) (Q : Value → World → Prop) (w : World) (h : Blk w tk [.pointer (some ⟨kb, 0, none⟩)] 96) (hk : Calls Tryz.prog 31 #[.pointer (some ⟨kb, 0, none⟩)] w fun e w' => ∃ v, e = .returned v ∧ Q v w') :
    Calls Tryz.prog 18 #[.pointer (some ⟨tk, 0, none⟩)] w fun e w' => ∃ v, e = .returned v ∧ Q v w' := by
  have c0 := wrap_tinyos h
  have HK := Lib.hid hk
  clear h hk
  go_enter Tryz.func18, Tryz.ntmps18
  go_wp2_with (go_at_call 31; ((with_reducible refine Calls.mono HK.out ?_); rintro e w1 ⟨v, rfl, h1⟩; have H1 := Lib.hid h1; clear h1))
  go_ret
  exact ⟨v, rfl, H1.out⟩
set_option maxHeartbeats 4000000 in
theorem kFiles_any (kb tb : Nat) (Q : Value → World → Prop) (w : World) (hc : w.cell? ⟨kb, 6, none⟩ = some (.pointer (some ⟨tb, 0, none⟩))) (hk : Calls Tryz.prog 53 #[.pointer (some ⟨tb, 0, none⟩)] w fun e w' => ∃ v, e = .returned v ∧ Q v w') :
    Calls Tryz.prog 33 #[.pointer (some ⟨kb, 0, none⟩)] w fun e w' => ∃ v, e = .returned v ∧ Q v w' := by
  have HK := Lib.hid hk
  clear hk
  go_enter Tryz.func33, Tryz.ntmps33
  go_wp2_with (go_at_call 53; ((with_reducible refine Calls.mono HK.out ?_); rintro e w1 ⟨v, rfl, h1⟩; have H1 := Lib.hid h1; clear h1))
  go_ret
  exact ⟨v, rfl, H1.out⟩
set_option maxHeartbeats 4000000 in
theorem tFiles_any (tk kb : Nat) (Q : Value → World → Prop) (w : World) (h : Blk w tk [.pointer (some ⟨kb, 0, none⟩)] 96) (hk : Calls Tryz.prog 33 #[.pointer (some ⟨kb, 0, none⟩)] w fun e w' => ∃ v, e = .returned v ∧ Q v w') :
    Calls Tryz.prog 20 #[.pointer (some ⟨tk, 0, none⟩)] w fun e w' => ∃ v, e = .returned v ∧ Q v w' := by
  have c0 := wrap_tinyos h
  have HK := Lib.hid hk
  clear h hk
  go_enter Tryz.func20, Tryz.ntmps20
  go_wp2_with (go_at_call 33; ((with_reducible refine Calls.mono HK.out ?_); rintro e w1 ⟨v, rfl, h1⟩; have H1 := Lib.hid h1; clear h1))
  go_ret
  exact ⟨v, rfl, H1.out⟩
set_option maxHeartbeats 4000000 in
theorem tUsed_any (tk kb : Nat) (x0 x1 x2 x3 x4 : Int) (Q : World → Prop) (w : World) (h : Blk w tk [.pointer (some ⟨kb, 0, none⟩)] 96) (hk : ∀ W, Bel w W → Calls Tryz.prog 35 #[.pointer (some ⟨kb, 0, none⟩)] W fun e w' => e = .returned (.agg #[.int .i64 x0, .int .i64 x1, .int .i64 x2, .int .i64 x3, .int .i64 x4]) ∧ Bel W w') :
    Calls Tryz.prog 23 #[.pointer (some ⟨tk, 0, none⟩)] w fun e w' => e = .returned (.agg #[.int .i64 x0, .int .i64 x1, .int .i64 x2, .int .i64 x3, .int .i64 x4]) ∧ Bel w w' := by
  have c0 := wrap_tinyos h
  have hl := h.lt
  have HK := Lib.hid hk
  clear h hk
  go_enter Tryz.func23, Tryz.ntmps23
  go_wp2_with (go_at_call 35; ((with_reducible refine Calls.mono (HK.out _ (Bel.start w _)) ?_); rintro e w1 ⟨rfl, k1⟩; have BB := (Blk.new w [.int .i64 0, .int .i64 0, .int .i64 0, .int .i64 0, .int .i64 0] 23).bel k1; have r0 : w1.cell? ⟨w.heap.size, 0, none⟩ = some (.int .i64 0) := BB.cell 0; have r1 : w1.cell? ⟨w.heap.size, 1, none⟩ = some (.int .i64 0) := BB.cell 1; have r2 : w1.cell? ⟨w.heap.size, 2, none⟩ = some (.int .i64 0) := BB.cell 2; have r3 : w1.cell? ⟨w.heap.size, 3, none⟩ = some (.int .i64 0) := BB.cell 3; have r4 : w1.cell? ⟨w.heap.size, 4, none⟩ = some (.int .i64 0) := BB.cell 4; have rf := BB.frozen; have rl := BB.lt; have H1 := Lib.hid ((Bel.start w _).tr k1); clear k1 BB))
  refine bodyPost_ret (v := .agg #[.int .i64 x0, .int .i64 x1, .int .i64 x2, .int .i64 x3, .int .i64 x4]) (by simp [results, Tryz.results23, go_sem, *]) rfl ⟨rfl, ?_⟩
  have hgw : w.heap.size ≤ w.heap.size := Nat.le_refl _
  exact (((((H1.out).store (p := ⟨w.heap.size, 0, none⟩) hgw _).store (p := ⟨w.heap.size, 1, none⟩) hgw _).store (p := ⟨w.heap.size, 2, none⟩) hgw _).store (p := ⟨w.heap.size, 3, none⟩) hgw _).store (p := ⟨w.heap.size, 4, none⟩) hgw _
end Go.Proofs.YtkcjafnaephjiaaGreatDoor
