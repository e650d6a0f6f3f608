/- The law's procs behind both Boots. -/
import Derived.Test.YtkcjafnaephjiaaGreatDoorPart44
import Derived.Test.YtkcjafnaephjiaaGreatDoorPart46
import Derived.Test.YtkcjafnaephjiaaGreatDoorPart39
set_option linter.unusedVariables false
set_option linter.unusedSimpArgs false
namespace Go.Proofs.YtkcjafnaephjiaaGreatDoor
open Go.RowKit Go.Maps Go.Shelf
set_option maxRecDepth 100000

def MBytes (M : Nat → Int) : Prop := ∀ a, 0 ≤ M a ∧ M a ≤ 255
theorem poke_byte {M : Nat → Int} (h : MBytes M) (A : Nat) (l : List Int) (hl : ∀ x ∈ l, 0 ≤ x ∧ x ≤ 255) : MBytes (pokeM M A l) := fun a => by
  unfold pokeM
  split
  · rename_i hc
    rw [List.getD_eq_getElem?_getD, List.getElem?_eq_getElem (by omega)]
    exact hl _ (List.getElem_mem _)
  · exact h a
theorem st_byte (ss : List ByteArray) : ∀ is : List Nat, MBytes (stOf ss is).M := by
  refine snoc_ind ?_ ?_
  · intro a; simp [stOf]
  · intro is i ih
    rw [stOf_snoc]
    exact poke_byte ih _ _ (arg_byte ss i)
theorem mem_byte (ss : List ByteArray) (hg : Good ss) (hn : ss.length ≤ 8) : MBytes (memOf ss) := by
  have : ∀ k, MBytes (finTo (stAll ss) ss.length k) := by
    intro k
    induction k with
    | zero => exact st_byte ss _
    | succ k ih =>
      have := word_bound ss hg hn k
      exact poke_byte ih _ _ (bytes8_byte _ this.1 (by omega))
  exact this _
def stM (ss : List ByteArray) : Pages := pagesOf stPerm (memOf ss)
theorem stM_ok (ss : List ByteArray) (hg : Good ss) (hn : ss.length ≤ 8) : PagesOk (stM ss) := by
  refine ⟨fun n h => ?_, fun n p h => ?_⟩
  · unfold stM pagesOf stPerm
    rw [if_neg (by omega)]; rfl
  · unfold stM pagesOf at h
    obtain ⟨q, hq, rfl⟩ := Option.map_eq_some_iff.1 h
    refine ⟨by simp, fun x hx => ?_, ?_⟩
    · obtain ⟨i, _, rfl⟩ := List.mem_map.1 hx
      exact mem_byte ss hg hn _
    · unfold stPerm at hq
      split at hq
      · cases hq; exact ⟨by simp, by simp⟩
      · cases hq
theorem stM_at (ss : List ByteArray) (n : Nat) (h : n = 254 ∨ n = 255) : stM ss n = some ⟨6, (List.range 256).map fun i => memOf ss (256 * n + i)⟩ := by
  unfold stM pagesOf stPerm
  rw [if_pos h]; rfl
theorem withStack_ok {m : Pages} {ss : List ByteArray} (h : PagesOk m) (hg : Good ss) (hn : ss.length ≤ 8) : PagesOk (withStack m ss) := by
  have hs := stM_ok ss hg hn
  refine ⟨fun n hn2 => ?_, fun n p hp => ?_⟩
  · unfold withStack
    rw [if_neg (by omega)]
    exact h.below n hn2
  · unfold withStack at hp
    by_cases e : n = 254 ∨ n = 255
    · rw [if_pos e] at hp
      exact hs.wf n p ((stM_at ss n e).trans hp)
    · rw [if_neg e] at hp
      exact h.wf n p hp
def pgs (m : Pages) : List (Nat × Pg) := (pageNums m).map fun n => (n, (m n).getD Pg.zero)
theorem pgs_api (m : Pages) : (pgs m).flatMap (fun q => apiCells q.1 q.2) = pagesCells m (pageNums m) := by
  unfold pgs pagesCells
  rw [List.flatMap_map]
theorem pgs_ref (m : Pages) : (pgs m).flatMap (fun q => refCells q.1 q.2) = refRow m := by
  unfold pgs refRow
  rw [List.flatMap_map]
theorem pgs_len (m : Pages) : (pgs m).length = (pageNums m).length := by unfold pgs; simp
theorem pgs_le (m : Pages) : (pgs m).length ≤ 256 := by
  rw [pgs_len]
  have := List.length_filter_le (fun n => (m n).isSome) (List.range 256)
  simpa [pageNums] using this
theorem pgs_wf {m : Pages} (h : PagesOk m) : ∀ q ∈ pgs m, q.2.wf := fun q hq => by
  obtain ⟨n, hn, rfl⟩ := List.mem_map.1 hq
  have h1 := (List.mem_filter.1 hn).2
  cases hm : m n with
  | none => rw [hm] at h1; cases h1
  | some p => exact h.wf n p hm
theorem boxA_eq (E sp : Int) (pv fv : Value) : apiC 1 0 0 0 0 E ((rsV sp).map (Value.int .u64)) pv fv = boxA E sp pv fv := rfl
theorem boxB_eq (E sp : Int) (v : Value) : execC proc0 0 v E sp = boxB E sp v := rfl
theorem cpu_eq (E sp : Int) (sb : Nat) (r : List Value) : cpuC E sp sb ++ r = .int .u64 E :: (rsV sp).map (Value.int .u64) ++ [.map (some sb)] ++ r := by
  simp [cpuC, rsV]
theorem procsP_any (tk kb pb pm tb ob cb sb : Nat) (a b c : Int) (mi mb fr E sp : Int) (m : Pages) (w : World) (ht : Blk w tk [.pointer (some ⟨kb, 0, none⟩)] 96) (hk : Blk w kb (kerC a b c mi mb pm tb ob cb fr 0 (.slice none 0 0)) 124) (hp : Mp keyP w pm [(1, .pointer (some ⟨pb, 0, none⟩))])
    (hB : Blk w pb (cpuC E sp sb ++ restC 1 0 0 0 0 (fds0 cb)) 139) (hs : Sp w sb m) (hm : PagesOk m) (hcb : Blk w cb [.int .i64 (3 : Nat), .slice none 0 0, .slice none 0 0] 116) :
    Calls Tryz.prog 18 #[.pointer (some ⟨tk, 0, none⟩)] w fun e w' => ProcsRes E sp (pgs m) w e w' := by
  rw [cpu_eq] at hB
  refine (tProcs_any tk kb (fun v w' => ProcsRes E sp (pgs m) w (.returned v) w') w ht ((procsB_any kb a b c mi mb pm tb ob cb pb sb fr 0 _ E ((rsV sp).map (Value.int .u64)) m w hk hp hB rfl (fun v hv => ?_) hs hm _ _ _ hcb).mono ?_)).mono ?_
  · obtain ⟨x, _, rfl⟩ := List.mem_map.1 hv
    rfl
  · rintro e w' ⟨v, rfl, hb, pv, fv, h1, h2, h3⟩
    obtain ⟨pp, pc, rfl, _⟩ := row_slice h2
    obtain ⟨fp, fc, rfl, _⟩ := row_slice h3
    rw [boxA_eq, ← pgs_len] at h1
    rw [← pgs_len, ← pgs_api] at h2
    exact ⟨v, rfl, v, rfl, hb, pp, pc, fp, fc, h1, h2, h3⟩
  · rintro e w' ⟨v, rfl, h⟩
    exact h
theorem execB_sk (L : List Nd) (path : List UInt8) : execB (sks L) path = execB L path := by
  unfold execB
  rw [docWalk_sk]
  unfold sks
  rw [List.getElem?_map]
  cases L[(docWalk L path).2.2.1 - 1]? <;> rfl
theorem bootE_exec {l : Lims} {F : List FileA} (h : bootE l F = 0) : execE (filesF l.d.toNat l.e.toNat [rootNd] F).2 initP true 0 0 l.b.toNat = 0 := by
  unfold bootE at h
  by_cases h1 : l.okA = false
  · rw [if_pos h1] at h; cases h
  · rw [if_neg h1] at h
    by_cases h2 : l.okB = false
    · rw [if_pos h2] at h; cases h
    · rw [if_neg h2] at h
      by_cases h3 : l.d = 0
      · rw [if_pos h3] at h; cases h
      · rw [if_neg h3] at h
        by_cases h4 : (filesF l.d.toNat l.e.toNat [rootNd] F).1 ≠ 0
        · rw [if_pos h4] at h; exact absurd h h4
        · rw [if_neg h4] at h; exact h
set_option maxHeartbeats 2000000 in
theorem procsJ (wb tk kb rb : Nat) (o1 o2 o3 : Value) (l : Lims) (F : List FileA) (w : World) (hW : Blk w wb [.pointer (some ⟨tk, 0, none⟩), .pointer (some ⟨rb, 0, none⟩), o1, o2, o3] 36) (ht : Blk w tk [.pointer (some ⟨kb, 0, none⟩)] 96)
    (hP : BootPK w kb l.a l.b l.c l.d.toNat l.e.toNat F) (hD : BootDK w rb l F) (h0 : bootE l F = 0) :
    Calls Tryz.prog 7 #[.pointer (some ⟨wb, 0, none⟩)] w fun e w' => e = .returned (.bool true) ∧ Bel w w' := by
  obtain ⟨pm, tb, ob, cb, pb, sb, A, T, h1, h2, h3, h4, h5, h6, h7, h8⟩ := hP
  obtain ⟨iv, L, s, pb2, pc2, cells, v, dk, hsk, _, _, hs, hb, hpc, htk, hrow⟩ := hD
  have hTL : sks L = nds T := hsk.trans h6.symm
  have hB : execB L initP = execB (nds T) initP := by rw [← hTL, execB_sk]
  have hex := bootE_exec h0
  rw [← h6] at hex
  obtain ⟨hld, x, hx, hxe⟩ := execE_load hex
  have hby : ∀ y ∈ execB (nds T) initP, 0 ≤ y ∧ y ≤ 255 := by
    rw [hxe]
    obtain ⟨p, hp, rfl⟩ := List.mem_map.1 hx
    obtain ⟨i, hi⟩ := List.mem_iff_getElem?.1 hp
    exact (h5.tree.byts i p hi).1
  obtain ⟨hok, hlow⟩ := spaceL_ok hby hld
  have hm := withStack_ok hok initSS_good (by decide : initSS.length ≤ 8)
  rw [hB] at htk hrow
  have hn : pageNums (withStack (spaceL (execB (nds T) initP)) initSS) = pageNums (spaceL (execB (nds T) initP)) ++ [254, 255] := pageNums_stack _ _ hlow
  have hlen : (pgs (withStack (spaceL (execB (nds T) initP)) initSS)).length = (pageNums (spaceL (execB (nds T) initP))).length + 2 := by rw [pgs_len, hn]; simp
  rw [boxB_eq] at htk
  have hc5 : w.cell? ⟨rb, 5, none⟩ = some (.slice (some ⟨pb2, 0, none⟩) 1 pc2) := by rw [dk.blk.cell, hs]; rfl
  have hc6 : w.cell? ⟨rb, 6, none⟩ = some (.slice none 0 0) := by rw [dk.blk.cell, hs]; rfl
  refine procs_any wb tk rb pb2 pc2 o1 o2 o3 (numAt (execB (nds T) initP) 24 8) (spOf (stAll initSS) 1) (pgs (withStack (spaceL (execB (nds T) initP)) initSS)) v w hW
    (procsP_any tk kb pb pm tb ob cb sb _ _ _ _ _ _ _ _ _ w ht h1 h2 h7 h8 hm h4) hc5 hc6 (fun j u hj => ?_) (pgs_le _) (by omega) (pgs_wf hm) ?_
  · rw [Nat.zero_add, hb.cell]
    rw [← htk] at hj
    have hlt := (List.getElem?_eq_some_iff.1 hj).1
    rw [List.length_take] at hlt
    rwa [List.getElem?_take_of_lt (by omega)] at hj
  · rw [pgs_ref, hlen]
    exact Rd.of_row hrow
end Go.Proofs.YtkcjafnaephjiaaGreatDoor

/- The law's files behind both Boots. -/
namespace Go.Proofs.YtkcjafnaephjiaaGreatDoor
open Go.RowKit Go.Maps Go.Shelf
set_option maxRecDepth 100000

theorem sk_get {T : List Pn} {L : List Nd} (h : sks L = nds T) {k : Nat} {n : Nd} (hk : L[k]? = some n) : (nds T)[k]? = some n.sk := by
  rw [← h]; unfold sks; rw [List.getElem?_map, hk]; rfl
theorem down_sk2 {L : List Nd} (h : Down (sks L)) : Down L := fun i n hn => h i n.sk (by unfold sks; rw [List.getElem?_map, hn]; rfl)
set_option maxHeartbeats 4000000 in
theorem filesJ (wb tk kb rb : Nat) (o1 o2 o3 : Value) (l : Lims) (F : List FileA) (w : World) (hW : Blk w wb [.pointer (some ⟨tk, 0, none⟩), .pointer (some ⟨rb, 0, none⟩), o1, o2, o3] 36) (ht : Blk w tk [.pointer (some ⟨kb, 0, none⟩)] 96)
    (hP : BootPK w kb l.a l.b l.c l.d.toNat l.e.toNat F) (hD : BootDK w rb l F) (hF : F.length ≤ 100) :
    Calls Tryz.prog 8 #[.pointer (some ⟨wb, 0, none⟩)] w fun e w' => e = .returned (.bool true) ∧ Bel w w' := by
  obtain ⟨pm, tb, ob, cb, pb, sb, A, T, h1, h2, h3, h4, h5, h6, h7, h8⟩ := hP
  obtain ⟨iv, L, s, pb2, pc2, cells, v, dk, hsk, _, hsum, hs, hb, hpc, htk, hrow⟩ := hD
  have hTL : sks L = nds T := hsk.trans h6.symm
  obtain ⟨hinv, hlen⟩ := FInv.first.files (mi := l.d.toNat) (mb := l.e.toNat) F
  rw [← h6] at hinv hlen
  have hLT : L.length = T.length := by
    have := congrArg List.length hTL
    simpa [sks, nds] using this
  have hT1 : T.length ≤ 101 := by
    have : (nds T).length = T.length := by simp [nds]
    rw [this] at hlen
    simp at hlen
    omega
  have hB : execB L initP = execB (nds T) initP := by rw [← hTL, execB_sk]
  have hdown := h5.tree.down
  have hperm := desc_perm (nds T) hdown hinv.conn
  obtain ⟨g, cap, rfl, htree, _⟩ := dk.tree
  have h10 := dk.one
  have hsb : ∀ n ∈ L, n.byt.length ≤ 1000000 := fun n hn => by
    have h1 : n.sk.byt.length ≤ sumB (sks L) := by
      unfold sumB
      exact le_sum_mem (List.mem_map.2 ⟨n.sk, List.mem_map.2 ⟨n, hn, rfl⟩, rfl⟩)
    have : n.sk.byt = n.byt := rfl
    rw [this] at h1
    omega
  obtain ⟨pv, pcap, hv, hpv, _⟩ := row_slice hrow
  subst hv
  rw [hB] at htk hrow
  rw [boxB_eq] at htk
  have h22 : w.cell? ⟨pb2, 22, none⟩ = some (.slice pv ((pageNums (spaceL (execB (nds T) initP))).length + 2) pcap) := by
    rw [hb.cell]
    have : (cells.take 31)[22]? = some (.slice pv ((pageNums (spaceL (execB (nds T) initP))).length + 2) pcap) := by rw [htk]; rfl
    rwa [List.getElem?_take_of_lt (by omega)] at this
  have hpn : (pageNums (spaceL (execB (nds T) initP))).length ≤ 256 := by
    have := List.length_filter_le (fun n => (spaceL (execB (nds T) initP) n).isSome) (List.range 256)
    simpa [pageNums] using this
  have hc5 : w.cell? ⟨rb, 5, none⟩ = some (.slice (some ⟨pb2, 0, none⟩) 1 pc2) := by rw [dk.blk.cell, hs]; rfl
  have hc6 : w.cell? ⟨rb, 6, none⟩ = some (.slice none 0 0) := by rw [dk.blk.cell, hs]; rfl
  have hbs : (byts L).sum = sumB (nds T) := by rw [byts_sk, hTL]
  refine files_any wb tk rb g cap o1 o2 o3 L w hW ?_ htree (by omega) (by omega) (down_sk2 (hTL ▸ hdown)) (fun i n hi h0 => ?_) (fun n hn => ?_) (fun n hn => ⟨(dk.byts n hn).1, hsb n hn⟩) [((1 : Nat) : Int), (((pageNums (spaceL (execB (nds T) initP))).length + 2 : Nat) : Int), 0, (T.length : Int), (sumB (nds T) : Int)] rfl (fun W hk => ?_) (fun W hk => ?_)
  · refine (tFiles_any tk kb (fun v w' => Bel w w' ∧ ∃ R, Fit L R ∧ FRows w' w.heap.size v R ∧ ∀ r ∈ R, r.byt.length ≤ 1000000) w ht (kFiles_any kb tb _ w (h1.cell 6) ((treeAll_any tb A T _ _ w h5 (by omega) (live_of h5.tree hinv.conn) hinv.size (by have e := hperm.length_eq; have e2 : (nds T).length = T.length := (by simp [nds]); rw [e2] at e; simp at e; omega)).mono ?_)))
    rintro e w' ⟨v, rfl, ⟨R, hR1, hR2, hR3⟩, hbel⟩
    refine ⟨v, rfl, hbel, R, fit_of h5.tree hinv.conn hTL hR1 hR2, hR3, fun r hr => ?_⟩
    have hmem := hR1.mem_iff.1 (List.mem_map.2 ⟨r, hr, rfl⟩)
    obtain ⟨x, _, hx⟩ := List.mem_map.1 hmem
    have e4 : r.byt = ((T[x - 1]?).map Pn.byt).getD [] := (congrArg (fun q => q.2.2) hx).symm
    cases hq : T[x - 1]? with
    | none => rw [e4, hq]; exact Nat.zero_le _
    | some p =>
      rw [e4, hq]
      have h1 : p.nd.byt.length ≤ sumB (nds T) := by
        unfold sumB
        exact le_sum_mem (List.mem_map.2 ⟨p.nd, List.mem_map.2 ⟨p, List.mem_iff_getElem?.2 ⟨_, hq⟩, rfl⟩, rfl⟩)
      have h2 := h5.small
      have h3 := h5.mb
      show p.nd.byt.length ≤ _
      omega
  · have := hinv.conn i n.sk (sk_get hTL hi) h0
    exact this
  · obtain ⟨k, hk⟩ := List.mem_iff_getElem?.1 hn
    exact hinv.size n.sk (List.mem_iff_getElem?.2 ⟨k, sk_get hTL hk⟩)
  · exact tUsed_any tk kb _ _ _ _ _ (fun _ => True) W (ht.bel hk) fun W2 hW2 => usedP_any kb _ _ _ _ _ pm tb ob cb _ _ _ _ A _ 0 _ W2 ((h1.bel hk).bel hW2) ((h2.bel hk).bel hW2) ((h5.block.bel hk).bel hW2) ((h3.bel hk).bel hW2)
  · have hu := used_any rb g cap L W (htree.bel hk) [(pageNums (spaceL (execB (nds T) initP))).length + 2] (some ⟨pb2, 0, none⟩) none pc2 0 0 (cell_bel hk hc5) hpc (fun i n hi => by
      have : i = 0 := by have := (List.getElem?_eq_some_iff.1 hi).1; simp at this; omega
      subst this
      cases hi
      exact ⟨pb2, pv, pcap, rfl, cell_bel hk h22⟩) (cell_bel hk hc6) (fun n hn => by obtain ⟨q, c, e, _⟩ := (dk.byts n hn).1.slice; exact ⟨q, c, e⟩) (by simp; omega) (by rw [hbs, ← hTL]; omega) (by simp) (by omega) (by omega)
    rw [hbs, hLT] at hu
    exact hu
end Go.Proofs.YtkcjafnaephjiaaGreatDoor
