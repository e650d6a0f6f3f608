/- The law's own reading of a stack: word, found. -/
import Derived.Test.YtologfdegdljeaaDoorStackR
namespace Go.Proofs.YtologfdegdljeaaDoor
open Go.RowKit Go.Maps
set_option maxRecDepth 100000

set_option maxHeartbeats 4000000 in
theorem word_any (g cap N a : Nat) (l : List Int) (w : World) (hl : l.length = 8) (hN : N ≤ 100000) (ha : a + 8 ≤ N) (h : Bts w g a l) :
    Calls Tryd.prog 26 #[.slice (some ⟨g, 0, none⟩) N cap, .int .i64 (a : Int)] w fun e w' => e = .returned (.int .u64 (numV l)) ∧ w = w' := by
  go_enter Tryd.func26, Tryd.ntmps26
  go_wp2
  go_loop [5, 6] (fun n i => ∃ k : Nat, k ≤ 8 ∧ i = .int .i64 ((k : Int) - 1) ∧ n = .int .u64 (numV (l.drop k))) (fun _ i => (intOf i + 1).toNat)
  case atStart => exact ⟨8, Nat.le_refl _, rfl, by rw [List.drop_of_length_le (by omega)]; rfl⟩
  case round =>
    obtain ⟨k, hk, rfl, rfl⟩ := hrel
    cases k with
    | zero =>
      go_wp2
      go_ret
      exact ⟨rfl, rfl⟩
    | succ k =>
      have hs := Lib.hid (numV_step l k (by omega))
      have hc := h.at_ k (by omega)
      have hx := h.byteAt k (by omega)
      have hn := numV_small (l.drop (k + 1)) (fun x hx => h.byte x (List.mem_of_mem_drop hx)) (by simp; omega)
      have hx0 := hx.1
      have hx1 := hx.2
      have hn0 := hn.1
      have hn1 := hn.2
      clear hx hn
      generalize l.getD k 0 = x at *
      rw [show (((k + 1 : Nat) : Int) - 1) = (k : Int) from by omega]
      generalize hy : numV (l.drop (k + 1)) = y at *
      have HY := Lib.hid hy
      have HL := Lib.hid hl
      clear hy hl
      go_wp2
      go_round
      case rel => exact ⟨k, by omega, by go_num, by rw [hs.out]; congr 1; omega⟩
      case measure => simp [intOf] <;> omega

theorem wpList_append_src {P : Program} {w : World} {base : Nat} {e : TypeId} {size : Nat} {v : Value} {n : Nat} {xs : List Value} {ops : Array Oper} {rest : List Oper} {o : Oper} {a : Act} {Q : Exit → Act → World → Prop} (hgd : o.guard = none) (s x : Operand) (t : TypeId)
    (ho : o.op = .call { callee := .builtin .append, args := #[s, x], argTypes := #[t, t] }) {bytes : Nat} (ht : P.underlying t = some (.slice e))
    (hi : (P.info? e).map (fun i => (i.size, i.bytes, (i.zero.map (·.cells.size)))) = some (size, bytes, some size)) (hsz : 0 < size)
    (hs : a.eval s = v) (hown : w.ownsRow base e size v n xs) (g o1 m c : Nat) (cs : List Value) (hx : a.eval x = .slice (some ⟨g, o1, none⟩) m c) (hB : ∀ j u, cs[j]? = some u → w.cell? ⟨g, o1 + j, none⟩ = some u) (hl : cs.length = m * size) (h1 : ∀ u ∈ cs, u.oneCell' = true)
    (h63 : n + m ≤ maxLen) (hbytes : (n + m) * bytes ≤ 140737488355328) (hbase : base ≤ w.heap.size)
    (h : ∀ v' w', w'.ownsRow base e size v' (n + m) (xs ++ cs) → Keep (fun i => base ≤ i) w w' → wpList P ops Q rest (a.put o.dst v') w') : wpList P ops Q (o :: rest) a w := by
  obtain ⟨i, z, hi, hz, e1, e2, e3⟩ := info_of hi
  refine wpList_append_own w hgd s x t ho base e i z size bytes ht hi hz e1 e2 e3 hsz v n xs hs hown ⟨g, o1, none⟩ m c cs hx hl (fun j u hj => ?_) h1 h63 hbytes hbase fun v' w' k1 k2 _ => h v' w' k1 (grown_keep k2 hown)
  rw [Addr.add_mid]
  exact hB j u hj
theorem byteInfo3 : (Tryd.prog.info? 5).map (fun i => (i.size, i.bytes, (i.zero.map (·.cells.size)))) = some (1, 1, some 1) := by kernel_rfl
theorem slice_pageA (w : World) (g o : Nat) : (Instr.sliceAt 75 (.pointer (some ⟨g, o, none⟩)) none none none).run Tryd.prog w = .ok (.slice (some ⟨g, o, none⟩) 256 256) w := by kernel_rfl

set_option maxHeartbeats 16000000 in
theorem found_any (p : Option Addr) (cap : Nat) (ss : List ByteArray) (v : Value) (base : Nat) (w : World) (hS : SS w.heap.size w p ss) (hn : ss.length ≤ 8) (hgood : Good ss)
    (hrow : w.ownsRow base 80 258 v 2 ([254, 255].flatMap fun n => apiCells n ⟨6, (List.range 256).map fun i => memOf ss (256 * n + i)⟩)) :
    Calls Tryd.prog 14 #[v, .int .u64 (spOf (stAll ss) ss.length), .slice p ss.length cap] w fun e w' => e = .returned (.bool true) ∧ Bel w w' := by
  obtain ⟨pp, cp, rfl, _, _, hpp⟩ := row_slice hrow
  obtain ⟨gp, rfl, _, hgp, hgc, _⟩ := hpp.resolve_left (by omega)
  have hsb := sp_bound ss hgood hn
  have hbd := stAll_bound ss hgood hn
  have hwb := word_bound ss hgood hn
  obtain ⟨M, hM⟩ : ∃ M, memOf ss = M := ⟨_, rfl⟩
  have hsrc : ∀ k, k < 2 → ∀ j u, ((List.range 256).map fun i => Value.int .u8 (M (256 * (254 + k) + i)))[j]? = some u → w.cell? ⟨gp, 258 * k + 2 + j, none⟩ = some u := by
    intro k hk j u hj
    have hjl : j < 256 := by have := (List.getElem?_eq_some_iff.1 hj).1; simpa using this
    have hlen : ∀ n ∈ [254, 255], (apiCells n ⟨6, (List.range 256).map fun i => memOf ss (256 * n + i)⟩).length = 258 := fun n _ => apiCells_length _ _ (by simp)
    have hf := flat_at (fun n => apiCells n ⟨6, (List.range 256).map fun i => memOf ss (256 * n + i)⟩) 258 [254, 255] hlen k (2 + j) (by omega)
    rw [show 258 * k + 2 + j = k * 258 + (2 + j) from by omega, hgc _ (by rw [flat_length _ 258 _ hlen]; simp; omega), hf]
    have hk2 : ([254, 255] : List Nat)[k]? = some (254 + k) := by
      rcases (show k = 0 ∨ k = 1 from by omega) with rfl | rfl <;> rfl
    rw [hk2, Option.bind_some, ← hj, hM]
    unfold apiCells
    rw [show 2 + j = j + 1 + 1 from by omega, List.getElem?_cons_succ, List.getElem?_cons_succ]
    simp only [List.map_map]
    rfl
  obtain ⟨spn, hspn⟩ : ∃ spn : Nat, spOf (stAll ss) ss.length = spn := ⟨(spOf (stAll ss) ss.length).toNat, by omega⟩
  rw [hspn] at hsb ⊢
  obtain ⟨hs0, hs1, hs2⟩ := hsb
  have h16 : ((spn : Int) % 16 != 0) = false := by simp; omega
  obtain ⟨po, hpo⟩ : ∃ po : Nat, (spn : Int) - 65024 = po := ⟨spn - 65024, by omega⟩
  have hpo1 : po + 8 * (ss.length + 2) ≤ 512 := by omega
  obtain ⟨n0, hn0⟩ : ∃ n0 : List Value, n0 = (List.range 256).map fun i => Value.int .u8 (M (256 * (254 + 0) + i)) := ⟨_, rfl⟩
  obtain ⟨n1, hn1⟩ : ∃ n1 : List Value, n1 = (List.range 256).map fun i => Value.int .u8 (M (256 * (254 + 1) + i)) := ⟨_, rfl⟩
  have HS0 : Hid (∀ j u, n0[j]? = some u → w.cell? ⟨gp, 2 + j, none⟩ = some u) := Lib.hid (by rw [hn0]; exact hsrc 0 (by omega))
  have HS1 : Hid (∀ j u, n1[j]? = some u → w.cell? ⟨gp, 260 + j, none⟩ = some u) := Lib.hid (by rw [hn1]; exact hsrc 1 (by omega))
  have HL0 : Hid (n0.length = 256 * 1) := Lib.hid (by rw [hn0]; simp)
  have HL1 : Hid (n1.length = 256 * 1) := Lib.hid (by rw [hn1]; simp)
  have HO0 : Hid (∀ u ∈ n0, u.oneCell' = true) := Lib.hid (by rw [hn0]; intro v hv; obtain ⟨x, _, rfl⟩ := List.mem_map.1 hv; rfl)
  have HO1 : Hid (∀ u ∈ n1, u.oneCell' = true) := Lib.hid (by rw [hn1]; intro v hv; obtain ⟨x, _, rfl⟩ := List.mem_map.1 hv; rfl)
  have HROW : Hid (n0 ++ n1 = rowOf (fun j => M (65024 + j)) 512) := Lib.hid (by
    apply List.ext_getElem?
    intro j
    by_cases hj : j < 512
    · rw [rowOf_get _ _ _ hj]
      by_cases h2 : j < 256
      · rw [List.getElem?_append_left (by rw [HL0.out]; omega), hn0, List.getElem?_map, List.getElem?_range h2]; rfl
      · rw [List.getElem?_append_right (by rw [HL0.out]; omega), HL0.out, hn1, List.getElem?_map, List.getElem?_range (by omega), Option.map_some]
        congr 3
        omega
    · rw [List.getElem?_eq_none (by rw [List.length_append, HL0.out, HL1.out]; omega), List.getElem?_eq_none (by rw [rowOf_length]; omega)])
  have HM := Lib.hid hM
  have HSPN := Lib.hid hspn
  have HGOOD := Lib.hid hgood
  have HWB := Lib.hid hwb
  have HS := Lib.hid hS
  have hsl0 := fun W => slice_pageA W gp 2
  have hsl1 := fun W => slice_pageA W gp 260
  clear hpp hgc hsrc hn0 hn1 hM hspn hgood hwb hS hrow
  go_enter Tryd.func14, Tryd.ntmps14
  go_upto_region 6 with (first
    | (refine wpList_append_src rfl (.tmp 22) (.tmp 26) 51 rfl Tryd.underlying51 byteInfo3 (by omega) rfl (⟨rfl, .inl ⟨rfl, rfl⟩⟩ : w.ownsRow w.heap.size 5 1 (.slice none 0 0) 0 []) gp 2 256 256 n0 rfl HS0.out HL0.out HO0.out (by unfold maxLen; omega) (by omega) (Nat.le_refl _) ?_; intro v1 w1 R1 K1
       have HR1 := Lib.hid R1
       have HK1 := Lib.hid K1
       clear R1 K1)
    | (refine wpList_append_src rfl (.tmp 28) (.tmp 32) 51 rfl Tryd.underlying51 byteInfo3 (by omega) rfl HR1.out gp 260 256 256 n1 rfl (fun j u hj => (HK1.out.cell ⟨gp, 260 + j, none⟩ hgp (by show ¬ w.heap.size ≤ gp; omega)).trans (HS1.out j u hj)) HL1.out HO1.out (by unfold maxLen; omega) (by omega) HK1.out.size ?_; intro v2 w2 R2 K2))
  have hbw : Bel w w2 := (HK1.out.tr K2).below w.heap.size (Nat.le_refl _) (fun q hq => hq)
  rw [show 0 + 256 + 256 = 512 from rfl, List.nil_append, HROW.out] at R2
  obtain ⟨pm, cm, rfl, _, _, hpm⟩ := row_slice R2
  obtain ⟨gm, rfl, _, hgm, hgmc, _⟩ := hpm.resolve_left (by omega)
  have hcell : ∀ j, j < 512 → w2.cell? ⟨gm, j, none⟩ = some (.int .u8 (M (65024 + j))) := fun j hj => by rw [hgmc j (by rw [rowOf_length]; exact hj), rowOf_get _ _ _ hj]
  have HCELL := Lib.hid hcell
  have HBW := Lib.hid hbw
  have HS2 := Lib.hid (HS.out.below hbw)
  clear hpm hgmc hcell hbw R2 K2 HS0 HS1 hsl0 hsl1
  have HPO : Hid (spn = 65024 + po) := Lib.hid (by omega)
  have HWG : Hid (∀ (k : Nat) (x : Int) W, k < ss.length + 2 → Bel w2 W → x = (po : Int) + 8 * k → Calls Tryd.prog 26 #[.slice (some ⟨gm, 0, none⟩) 512 cm, .int .i64 x] W fun e w' => e = .returned (.int .u64 (wordAt (stAll ss) ss.length k)) ∧ W = w') := Lib.hid (fun k x W hk hW hx => by
    have hb := HWB.out k
    have h := word_any gm cm 512 (po + 8 * k) (bytes8 (wordAt (stAll ss) ss.length k)) W (bytes8_length _) (by omega) (by omega) ⟨fun i hi => by
      rw [bytes8_length] at hi
      rw [World.cell?_of_block (a := ⟨gm, po + 8 * k + i, none⟩) (hW.block gm hgm), HCELL.out _ (by omega)]
      have hmw := mem_word ss k i hk hi
      rw [HSPN.out, Int.toNat_natCast, HM.out, show spn + 8 * k + i = 65024 + (po + 8 * k + i) from by have := HPO.out; omega] at hmw
      rw [hmw, List.getD_eq_getElem?_getD, List.getElem?_eq_getElem (by rw [bytes8_length]; exact hi)]
      rfl, bytes8_byte _ hb.1 (by omega)⟩
    rw [numV_bytes8 _ hb.1 (by omega)] at h
    rw [hx, show (po : Int) + 8 * k = ((po + 8 * k : Nat) : Int) from by omega]
    exact h)
  have HC8 : Hid (Calls Tryd.prog 26 #[.slice (some ⟨gm, 0, none⟩) 512 cm, .int .i64 (po : Int)] w2 fun e w' => e = .returned (.int .u64 (ss.length : Nat)) ∧ w2 = w') := Lib.hid (HWG.out 0 po w2 (by omega) (Bel.refl _) (by omega))
  have HC9 : Hid (Calls Tryd.prog 26 #[.slice (some ⟨gm, 0, none⟩) 512 cm, .int .i64 ((po : Int) + 8 + 8 * (ss.length : Nat))] w2 fun e w' => e = .returned (.int .u64 0) ∧ w2 = w') := Lib.hid (by
    have h := HWG.out (ss.length + 1) ((po : Int) + 8 + 8 * (ss.length : Nat)) w2 (by omega) (Bel.refl _) (by omega)
    rw [show wordAt (stAll ss) ss.length (ss.length + 1) = 0 from by unfold wordAt; rw [if_neg (by omega), if_neg (by omega)]] at h
    exact h)
  go_upto_region 11 with (first
    | (go_at_call 26; with_reducible refine Calls.mono HC8.out ?_; rintro e wx ⟨rfl, rfl⟩)
    | (go_at_call 26; with_reducible refine Calls.mono HC9.out ?_; rintro e wx ⟨rfl, rfl⟩))
  go_wp2
  go_loopw [11] (fun x wr => ∃ i nn : Nat, i ≤ ss.length ∧ x = .int .i64 i ∧ wr = w2.drewN nn) (fun x _ => ss.length - (intOf x).toNat)
  case atStart => exact ⟨0, 0, Nat.zero_le _, rfl, rfl⟩
  case round =>
    obtain ⟨i, nn, hi, rfl, rfl⟩ := hrel
    by_cases hil : i < ss.length
    · obtain ⟨b, o, rfl, hb, hc⟩ := HS2.out (by omega)
      have hcx := hc i hil
      have hax := arg_at ss i hil
      obtain ⟨g1, g2, g3, g4⟩ := mem_arg ss HGOOD.out hn i hil
      have hgi := (goodA_iff.1 (HGOOD.out i hil)).1
      rw [hax] at g2 g3 g4 hgi
      rw [HM.out] at g3 g4
      have hwi := HWG.out (i + 1) ((po : Int) + 8 + 8 * (i : Nat)) (w2.drewN nn) (by omega) (bel_drewN (Bel.refl _) nn) (by omega)
      have hwe : wordAt (stAll ss) ss.length (i + 1) = (stAll ss).A i := by unfold wordAt; rw [if_neg (by omega), if_pos (by omega), Nat.add_sub_cancel]
      rw [hwe] at hwi
      obtain ⟨ai, hai⟩ : ∃ ai : Nat, (stAll ss).A i = ai := ⟨((stAll ss).A i).toNat, by omega⟩
      rw [hai] at g1 g2 g3 g4 hwi
      rw [Int.toNat_natCast] at g3 g4
      generalize hss : ss[i] = s at *
      rw [bts_length] at g2 g3 g4 hgi
      obtain ⟨fr, hfr⟩ : ∃ fr : Nat, (ai : Int) - 65024 = fr := ⟨ai - 65024, by omega⟩
      have hai2 : ai = 65024 + fr := by omega
      have hfr2 : fr + s.size < 512 := by omega
      have HWI := Lib.hid hwi
      have hm0 : w2.cell? ⟨gm, fr + s.size, none⟩ = some (.int .u8 0) := by rw [HCELL.out _ (by omega), ← g4, hai2]; rw [Nat.add_assoc]
      have HMC : Hid (∀ k, (h : k < s.size) → w2.cell? ⟨gm, fr + k, none⟩ = some (.int .u8 (s[k].toNat : Int))) := Lib.hid (fun k hk => by
        have := g3 k hk
        rw [HCELL.out _ (by omega), ← Nat.add_assoc, ← hai2, this]
        unfold bts
        rw [List.getD_eq_getElem?_getD, List.getElem?_map, List.getElem?_eq_getElem (by simpa using hk)]
        rfl)
      have HAI := Lib.hid hai2
      clear hc hax g1 g2 g3 g4 hwi hwe hai hss hai2
      go_upto_region 16 with (go_at_call 26; with_reducible refine Calls.mono HWI.out ?_; rintro e wx ⟨rfl, rfl⟩)
      go_loopw [13] (fun x wr => ∃ k mm : Nat, k ≤ s.size ∧ x = .int .i64 k ∧ wr = w2.drewN mm) (fun x _ => s.size - (intOf x).toNat)
      case atStart => exact ⟨0, nn, Nat.zero_le _, rfl, rfl⟩
      case round =>
        obtain ⟨k, mm, hk, rfl, rfl⟩ := hrel
        by_cases hkl : k < s.size
        · have hmk := HMC.out k hkl
          have hw1 : IntKind.i64.wrap ((fr : Int) + k) = (fr : Int) + k := by rw [IntKind.wrap_i64]; omega
          have hf0 : (0 : Int) ≤ (fr : Int) + k := by omega
          have hf1 : (fr : Int) + k < 512 := by omega
          have hf2 : ((fr : Int) + k).toNat = fr + k := by omega
          have hi0 : (0 : Int) ≤ (i : Int) := by omega
          have hi1 : (i : Int) < (ss.length : Int) := by omega
          have hk0 : (0 : Int) ≤ (k : Int) := by omega
          have hk1 : (k : Int) < (s.size : Int) := by omega
          go_upto_region 18 with fail
          go_quiet (fail)
          clear hw1 hf2
          go_wp2
          go_roundw
          case rel => exact ⟨k + 1, mm + nq, by omega, by go_num, by simp [World.drewN_drewN]⟩
          case measure => simp [intOf] <;> omega
        · obtain rfl : k = s.size := by omega
          go_wp2
          go_roundw
          case rel => exact ⟨i + 1, mm, by omega, by go_num, rfl⟩
          case measure => simp [intOf] <;> omega
    · obtain rfl : i = ss.length := by omega
      go_wp2
      go_ret
      exact ⟨rfl, bel_drewN HBW.out nn⟩
end Go.Proofs.YtologfdegdljeaaDoor
