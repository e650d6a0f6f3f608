/- (Space).Pages: a row of pages. -/
import Derived.Test.YtologfdegdljeaaDoorPoke
import Derived.Test.YtologfdegdljeaaDoorKeys
import Derived.Test.YtologfdegdljeaaDoorRow
import Derived.Laws.AppendOwn
namespace Go.Proofs.YtologfdegdljeaaDoor
open Go.RowKit Go.Maps
set_option maxRecDepth 100000

/-- A page as the program hands it out. -/
def apiCells (n : Nat) (p : Pg) : List Value := .int .i64 n :: .int .u8 p.perm :: p.bytes.map (Value.int .u8)
def pagesCells (m : Pages) (ns : List Nat) : List Value := ns.flatMap fun n => apiCells n ((m n).getD Pg.zero)

theorem pageInfo : (Tryd.prog.info? 80).map (fun i => (i.size, i.bytes, (i.zero.map (·.cells.size)))) = some (258, 272, some 258) := by kernel_rfl
theorem built_page (n : Int) (p : Pg) (hp : p.bytes.length = 256) :
    Tryd.prog.built 80 [(0, .int .i64 n), (1, .int .u8 p.perm), (2, .agg (p.bytes.map (Value.int .u8)).toArray)] = some (Value.int .i64 n :: .int .u8 p.perm :: p.bytes.map (Value.int .u8)).toArray := by
  refine built_struct (places := [(0, 1), (1, 1), (2, 256)]) pageInfo Tryd.underlying80 (by kernel_rfl) _ _ fun z hz => ?_
  obtain ⟨z0, z', rfl, h0, hz'⟩ := split_at z 1 257 hz
  obtain ⟨z1, z2, rfl, h1, h2⟩ := split_at z' 1 256 hz'
  rw [show z0 ++ (z1 ++ z2) = [] ++ (z0 ++ (z1 ++ z2)) from rfl, fill_next _ _ _ _ _ _ _ rfl h0]
  rw [show [] ++ ((Value.int .i64 n).cells.toList ++ (z1 ++ z2)) = [Value.int .i64 n] ++ (z1 ++ z2) from rfl, fill_next _ _ _ _ _ _ _ rfl h1]
  rw [show [Value.int .i64 n] ++ ((Value.int .u8 p.perm).cells.toList ++ z2) = [Value.int .i64 n, .int .u8 p.perm] ++ (z2 ++ []) from by simp [Value.cells], fill_next _ _ _ _ _ _ _ (by simp [Value.cells, hp]) (by simp [Value.cells, hp, h2])]
  simp [Instr.fill, Value.cells]
theorem field_bytes (p : Pg) (hp : p.bytes.length = 256) (w : World) : (Instr.field 106 p.v 1).run Tryd.prog w = .ok (.agg (p.bytes.map (Value.int .u8)).toArray) w := by
  have e1 : (isAgg 75).run Tryd.prog w = .ok true w := by kernel_rfl
  have e2 : (sizeOf 75).run Tryd.prog w = .ok 256 w := by kernel_rfl
  simp only [Instr.field, Pg.v, Pg.cells, Sem.run_bind, run_underlying Tryd.underlying106, Result.andThen_ok, asAgg]
  simp [part, e1, e2, hp]
  exact List.take_of_length_le (by simp [hp])

theorem field_perm1 (p : Pg) (w : World) : (Instr.field 106 p.v 0).run Tryd.prog w = .ok (.int .u8 p.perm) w := field_perm p w
theorem apiCells_length (n : Nat) (p : Pg) (hp : p.bytes.length = 256) : (apiCells n p).length = 258 := by simp [apiCells, hp]
theorem apiCells_one (n : Nat) (p : Pg) : ∀ v ∈ apiCells n p, v.oneCell' = true := by
  intro v hv
  simp only [apiCells, List.mem_cons, List.mem_map] at hv
  rcases hv with rfl | rfl | ⟨x, _, rfl⟩ <;> rfl

set_option maxHeartbeats 4000000 in
theorem pages_any (b : Nat) (m : Pages) (w : World) (hs : Sp w b m) (hm : PagesOk m) :
    Calls Tryd.prog 24 #[.map (some b)] w fun e w' => ∃ v, e = .returned v ∧
      w'.ownsRow w.heap.size 80 258 v (pageNums m).length (pagesCells m (pageNums m)) ∧ Bel w w' := by
  have hn1 := pageNums_length m
  obtain ⟨ns, hns⟩ : ∃ ns, ns = pageNums m := ⟨_, rfl⟩
  rw [← hns] at hn1 ⊢
  have hin : ∀ k, (h : k < ns.length) → ∃ p, m ns[k] = some p ∧ p.wf := by
    intro k h
    have : ns[k] ∈ pageNums m := by rw [← hns]; exact List.getElem_mem h
    obtain ⟨p, hp⟩ := Option.isSome_iff_exists.1 (List.mem_filter.1 this).2
    exact ⟨p, hp, hm.wf _ p hp⟩
  have HN := Lib.hid hns
  have HIN := Lib.hid hin
  clear hns hin
  go_enter Tryd.func24, Tryd.ntmps24
  go_wp2_with (first
    | (go_at_call 42; refine (keys_any (some b) _).mono ?_; rintro e w1 ⟨rfl, rfl⟩)
    | (go_at_call 41; refine (sorted_any w.heap.size b m _ hm.below (hs.alloc _) (by simp) (by simp)).mono ?_; rintro e w2 ⟨v, rfl, hrow0, k2⟩
       rw [← HN.out] at hrow0
       obtain ⟨ps, cap, rfl, hcap, _, hps⟩ := row_slice hrow0
       have K2 : Bel w w2 := (Below.heap_alloc' w _).trans (k2.mono (by simp))
       have HPS := Lib.hid hps
       clear hps hrow0 k2))
  go_loopw [3, 10] (fun l i wr => ∃ (k : Nat), k ≤ ns.length ∧ i = .int .i64 k ∧ wr.ownsRow w2.heap.size 80 258 l k (pagesCells m (ns.take k)) ∧ Below w2.heap.size w2 wr) (fun _ i _ => ns.length - (intOf i).toNat)
  case atStart => exact ⟨0, Nat.zero_le _, rfl, ⟨rfl, .inl ⟨rfl, rfl⟩⟩, Below.refl _ _⟩
  case round =>
    obtain ⟨k, hk, rfl, hrow, kr⟩ := hrel
    by_cases hlt : k < ns.length
    · obtain ⟨gs, rfl, hb0, hb1, hcells, _⟩ := HPS.out.resolve_left (by omega)
      obtain ⟨p, hp, hpw⟩ := HIN.out k hlt
      have hc : wr.cell? ⟨gs, k, none⟩ = some (.int .i64 (ns[k] : Nat)) := by
        rw [World.cell?_of_block (a := ⟨gs, k, none⟩) (kr.block gs hb1), hcells k (by simpa using hlt)]
        simp [hlt]
      have hsr : Sp wr b m := (hs.bel K2).bel kr
      have hl := hsr.lookup ns[k] (by
        have h1 : ns[k] ∈ pageNums m := by rw [← HN.out]; exact List.getElem_mem hlt
        have := List.mem_range.1 (List.mem_filter.1 h1).1
        omega)
      have hx : pagesCells m (ns.take (k + 1)) = pagesCells m (ns.take k) ++ apiCells ns[k] p := by
        rw [List.take_succ_eq_append_getElem hlt, pagesCells, List.flatMap_append, List.flatMap_singleton, hp]
        rfl
      rw [hp, Option.getD_some] at hl
      have f1 := field_perm p
      have f2 := field_bytes p hpw.len
      have HX := Lib.hid hx
      have HCL := Lib.hid (apiCells_length ns[k] p hpw.len)
      have HB := Lib.hid (built_page (ns[k] : Nat) p hpw.len)
      have HPS' := Lib.hid hcells
      have HROW := Lib.hid hrow
      have HP := Lib.hid hp
      clear hx hcells hrow hp HPS
      generalize hnk : ns[k] = nk at *
      have HNK := Lib.hid hnk
      clear hnk
      have hbase := kr.size
      go_wp2_with (first
        | (refine wpList_buildTo rfl 80 _ rfl (some 24) rfl (apiCells nk p).toArray (by simp only [List.map_toArray, List.map_cons, List.map_nil]; exact HB.out) ?_)
        | (refine wpList_buildSlice_one rfl 41 80 (.tmp 24) rfl (apiCells nk p) rfl Tryd.underlying41 (by rw [HCL.out]; exact pageInfo) (by rw [HCL.out]; omega) (by rw [HCL.out]; decide) ?_; intro w3 B3 K3)
        | (refine wpList_append_one rfl (.tmp 14) (.tmp 25) 41 rfl Tryd.underlying41 pageInfo (by omega) rfl (row_bel HROW.out K3) wr.heap.size (apiCells nk p) 80 rfl B3.out HCL.out (apiCells_one nk p) (by unfold maxLen; omega) (by omega) (Nat.le_trans hbase K3.size) ?_; intro v5 w5 R5 K5))
      exact ⟨⟨k + 1, by omega, by go_num, by rw [HX.out]; exact R5, (kr.trans (K3.mono hbase)).trans (K5.below _ (Nat.le_trans hbase K3.size) fun i hi => hi)⟩, by simp only [intOf]; omega⟩
    · obtain rfl : k = ns.length := by omega
      rw [List.take_length] at hrow
      have HROW := Lib.hid hrow
      clear hrow
      go_wp2
      go_ret
      exact ⟨_, rfl, HROW.out.mono K2.size, K2.tr kr⟩

set_option maxHeartbeats 4000000 in
theorem pages_none (w : World) :
    Calls Tryd.prog 24 #[.map none] w fun e w' => e = .returned (.slice none 0 0) ∧ Bel w w' := by
  go_enter Tryd.func24, Tryd.ntmps24
  go_wp2_with (first
    | (go_at_call 42; refine (keys_any none _).mono ?_; rintro e w1 ⟨rfl, rfl⟩)
    | (go_at_call 41; refine (sorted_none w.heap.size _ (by simp) (by simp)).mono ?_; rintro e w2 ⟨rfl, k2⟩))
  refine wp_loop_rounds 1 ?_
  rw [rounds_succ]
  go_wp2
  go_ret
  exact ⟨rfl, (Below.heap_alloc' w _).trans (k2.mono (by simp))⟩
end Go.Proofs.YtologfdegdljeaaDoor
