/- Which segments cover a page: the document's count against the program's pages, in plain words. -/
import Derived.Test.YtkcjafnaephjiaaGreatDoorPart18
import Derived.Laws.BytesArg
import Derived.Test.YtkcjafnaephjiaaGreatDoorPart06
namespace Go.Proofs.YtkcjafnaephjiaaGreatDoor
open Go.RowKit Go.Maps
set_option maxRecDepth 100000

def Seg.cov (s : Seg) (i : Nat) : Bool := decide (s.first ≤ i) && decide (i ≤ s.last)
theorem Seg.cov_iff {s : Seg} {i : Nat} : s.cov i = true ↔ s.first ≤ i ∧ i ≤ s.last := by simp [Seg.cov]
/-- How many of the first k segments cover page i. -/
def cnt (L : List Int) : Nat → Nat → Nat
  | 0, _ => 0
  | k + 1, i => cnt L k i + if (segAt L k).cov i then 1 else 0
def ovB (L : List Int) (s : Seg) (i : Nat) (old : List Int) (j : Nat) : Int :=
  if s.addr ≤ (i : Int) * 256 + j ∧ (i : Int) * 256 + j - s.addr < s.file then L.getD (s.off + ((i : Int) * 256 + j) - s.addr).toNat 0 else old.getD j 0
/-- The page i behind the first k segments. -/
def pgTo (L : List Int) (i : Nat) : Nat → Pg
  | 0 => Pg.zero
  | k + 1 => if (segAt L k).cov i then ⟨(segAt L k).perm, (List.range 256).map (ovB L (segAt L k) i (pgTo L i k).bytes)⟩ else pgTo L i k

theorem cnt_mono (L : List Int) (i : Nat) : ∀ k n, k ≤ n → cnt L k i ≤ cnt L n i := by
  intro k n h
  induction n with
  | zero => obtain rfl : k = 0 := by omega
            exact Nat.le_refl _
  | succ n ih =>
    by_cases e : k = n + 1
    · subst e; exact Nat.le_refl _
    · exact Nat.le_trans (ih (by omega)) (Nat.le_add_right _ _)
theorem cnt_le (L : List Int) (i : Nat) : ∀ k, cnt L k i ≤ k
  | 0 => Nat.le_refl _
  | k + 1 => by have := cnt_le L i k; simp only [cnt]; split <;> omega

theorem spaceTo_none (L : List Int) (i : Nat) : ∀ k, spaceTo L k i = none ↔ cnt L k i = 0
  | 0 => by simp [spaceTo, cnt]
  | k + 1 => by
    have ih := spaceTo_none L i k
    simp only [spaceTo, layTo, cnt]
    by_cases c : (segAt L k).cov i = true
    · have := Seg.cov_iff.1 c
      rw [if_pos ⟨this.1, by omega⟩, if_pos c]
      simp
    · have : ¬ ((segAt L k).first ≤ i ∧ i < (segAt L k).last + 1) := fun h => c (Seg.cov_iff.2 ⟨h.1, by omega⟩)
      rw [if_neg this, if_neg c, ih]
      omega
theorem pgTo_zero (L : List Int) (i : Nat) : ∀ k, cnt L k i = 0 → pgTo L i k = Pg.zero
  | 0, _ => rfl
  | k + 1, h => by
    simp only [cnt] at h
    by_cases c : (segAt L k).cov i = true
    · rw [if_pos c] at h; omega
    · rw [if_neg c] at h
      simp only [pgTo, if_neg c]
      exact pgTo_zero L i k (by omega)
theorem spaceTo_one (L : List Int) (i : Nat) : ∀ k, cnt L k i = 1 → spaceTo L k i = some (pgTo L i k)
  | 0, h => by simp [cnt] at h
  | k + 1, h => by
    simp only [cnt] at h
    by_cases c : (segAt L k).cov i = true
    · have hc := Seg.cov_iff.1 c
      rw [if_pos c] at h
      have hz := pgTo_zero L i k (by omega)
      simp only [spaceTo, layTo, pgTo, if_pos c]
      rw [if_pos ⟨hc.1, by omega⟩, hz]
      congr 1
      unfold segPage
      congr 1
      apply List.map_congr_left
      intro j hj
      have hj := List.mem_range.1 hj
      unfold segByte ovB
      have e1 : (256 * (i : Int) + j) = (i : Int) * 256 + j := by omega
      rw [e1]
      by_cases q : (segAt L k).addr ≤ (i : Int) * 256 + j ∧ (i : Int) * 256 + j < (segAt L k).addr + (segAt L k).file
      · rw [if_pos q, if_pos ⟨q.1, by omega⟩]
        congr 2
        omega
      · rw [if_neg q, if_neg (by omega)]
        rw [List.getD_eq_getElem?_getD, show Pg.zero.bytes = List.replicate 256 (0 : Int) from rfl, List.getElem?_replicate, if_pos hj]
        rfl
    · have : ¬ ((segAt L k).first ≤ i ∧ i < (segAt L k).last + 1) := fun h => c (Seg.cov_iff.2 ⟨h.1, by omega⟩)
      rw [if_neg c] at h
      simp only [spaceTo, layTo, pgTo, if_neg c, if_neg this]
      exact spaceTo_one L i k (by omega)
theorem free_iff (L : List Int) (N : Nat) : (∀ k, k < N → FreeAt L k) ↔ ∀ i, cnt L N i ≤ 1 := by
  constructor
  · intro h i
    have : ∀ k, k ≤ N → cnt L k i ≤ 1 := by
      intro k
      induction k with
      | zero => intro _; simp [cnt]
      | succ k ih =>
        intro hk
        have ih := ih (by omega)
        simp only [cnt]
        by_cases c : (segAt L k).cov i = true
        · have hc := Seg.cov_iff.1 c
          have := (spaceTo_none L i k).1 (h k (by omega) i hc.1 hc.2)
          rw [if_pos c]; omega
        · rw [if_neg c]; omega
    exact this N (Nat.le_refl _)
  · intro h k hk n h1 h2
    refine (spaceTo_none L n k).2 ?_
    have h3 := cnt_mono L n (k + 1) N (by omega)
    have h4 := h n
    simp only [cnt, if_pos (Seg.cov_iff.2 ⟨h1, h2⟩)] at h3
    omega

theorem pgTo_wf (L : List Int) (hb : ∀ x ∈ L, 0 ≤ x ∧ x ≤ 255) (i : Nat) : ∀ k, (∀ j, j < k → SegFits L (segAt L j)) → (pgTo L i k).wf
  | 0, _ => Pg.zero_wf
  | k + 1, h => by
    have ih := pgTo_wf L hb i k fun j hj => h j (by omega)
    have hf := h k (by omega)
    simp only [pgTo]
    by_cases c : (segAt L k).cov i = true
    · rw [if_pos c]
      refine ⟨by simp, fun x hx => ?_, hf.perm⟩
      obtain ⟨j, hj, rfl⟩ := List.mem_map.1 hx
      have hj := List.mem_range.1 hj
      unfold ovB
      split
      · rename_i q
        have h1 := hf.off
        have h2 := hf.fits
        have : (segAt L k).off + ((i : Int) * 256 + j) - (segAt L k).addr < L.length := by omega
        rw [List.getD_eq_getElem?_getD, List.getElem?_eq_getElem (by omega)]
        exact hb _ (List.getElem_mem _)
      · rw [List.getD_eq_getElem?_getD, List.getElem?_eq_getElem (by rw [ih.len]; exact hj)]
        exact ih.byte _ (List.getElem_mem _)
    · rw [if_neg c]; exact ih

theorem cnt_out (L : List Int) (i : Nat) (hi : 254 ≤ i) : ∀ k, (∀ j, j < k → SegFits L (segAt L j)) → cnt L k i = 0
  | 0, _ => rfl
  | k + 1, h => by
    have ih := cnt_out L i hi k fun j hj => h j (by omega)
    have hf := h k (by omega)
    have h1 := hf.top
    have c : ¬ (segAt L k).cov i = true := fun c => by
      have := (Seg.cov_iff.1 c).2
      unfold Seg.last at this
      omega
    simp only [cnt, ih, if_neg c]
theorem row_keep_ne {w0 w w' : World} {base G : Nat} {e : TypeId} {size : Nat} {v : Value} {n : Nat} {xs : List Value} (h : w0.ownsRow base e size v n xs) (hb : Bel w0 w) (hk : Keep (fun q => q = G) w w') (hG : w0.heap.size ≤ G) : w'.ownsRow base e size v n xs := by
  have h1 := row_bel h hb
  refine ⟨h1.1, ?_⟩
  rcases h.2 with h2 | ⟨g, cap, cur, rfl, h3, h4, h5⟩
  · exact .inl h2
  · have hg := (Array.getElem?_eq_some_iff.1 h4).1
    exact .inr ⟨g, cap, cur, rfl, h3, ((hk.block g (Nat.lt_of_lt_of_le hg hb.size) (by omega)).trans (hb.block g hg)).trans h4, h5⟩

/-- The document's pages among the first i. -/
def docNums (L : List Int) (N i : Nat) : List Nat := (List.range i).filter fun n => cnt L N n == 1
theorem docNums_succ (L : List Int) (N i : Nat) : docNums L N (i + 1) = docNums L N i ++ if cnt L N i = 1 then [i] else [] := by
  unfold docNums
  rw [List.range_succ, List.filter_append]
  by_cases h : cnt L N i = 1 <;> simp [List.filter_cons, h]
theorem docNums_length (L : List Int) (N i : Nat) : (docNums L N i).length ≤ i := by
  have := List.length_filter_le (fun n => cnt L N n == 1) (List.range i)
  simpa [docNums] using this
theorem docNums_all (L : List Int) (N : Nat) (h : ∀ i, cnt L N i ≤ 1) : docNums L N 256 = pageNums (spaceTo L N) := by
  unfold docNums pageNums
  apply List.filter_congr
  intro n _
  by_cases c : cnt L N n = 1
  · rw [spaceTo_one L n N c]; simp [c]
  · rw [(spaceTo_none L n N).2 (by have := h n; omega)]; simp [c]
def docCells (L : List Int) (N : Nat) (ns : List Nat) : List Value := ns.flatMap fun n => refCells n (pgTo L n N)
theorem docCells_all (L : List Int) (N : Nat) : docCells L N (docNums L N 256) = (docNums L N 256).flatMap fun n => refCells n ((spaceTo L N n).getD Pg.zero) := by
  unfold docCells
  rw [List.flatMap_eq_foldl, List.flatMap_eq_foldl]
  have : ∀ (ns : List Nat) (acc : List Value), (∀ n ∈ ns, cnt L N n = 1) → ns.foldl (fun acc n => acc ++ refCells n (pgTo L n N)) acc = ns.foldl (fun acc n => acc ++ refCells n ((spaceTo L N n).getD Pg.zero)) acc := by
    intro ns
    induction ns with
    | nil => intro _ _; rfl
    | cons n ns ih =>
      intro acc h
      simp only [List.foldl_cons]
      rw [spaceTo_one L n N (h n (by simp))]
      exact ih _ fun m hm => h m (by simp [hm])
  exact this _ _ fun n hn => by have := (List.mem_filter.1 hn).2; simpa using this

/-- The document's search for the page of the entry. -/
def docFind (L : List Int) (N : Nat) (E : Int) (n : Nat) : Bool := ((n : Int) == E / 256) && (bits .and .i64 (pgTo L n N).perm 1 == 1)
theorem and1 (p : Int) (h0 : 0 ≤ p) (h1 : p ≤ 7) : (bits .and .i64 p 1 == 1) = !(bits .and .u8 p 1 == 0) := by
  have : p = 0 ∨ p = 1 ∨ p = 2 ∨ p = 3 ∨ p = 4 ∨ p = 5 ∨ p = 6 ∨ p = 7 := by omega
  rcases this with rfl | rfl | rfl | rfl | rfl | rfl | rfl | rfl <;> decide
theorem entry_doc (L : List Int) (N : Nat) (hN : (segN L).toNat = N) (hf : ∀ j, j < N → SegFits L (segAt L j)) (hb : ∀ x ∈ L, 0 ≤ x ∧ x ≤ 255) (h : ∀ i, cnt L N i ≤ 1) (E : Int) (hE : numAt L 24 8 = E) (h0 : 0 ≤ E) :
    entryOk L = (decide (E % 4 = 0) && decide (E < 65536) && (docNums L N 256).any (docFind L N E)) := by
  unfold entryOk
  rw [hN, hE]
  by_cases q : E % 4 = 0
  · by_cases q2 : E < 65536
    · have hm : mayB (spaceTo L N) E 1 1 = canAt (spaceTo L N) (E / 256).toNat 1 := by
        unfold mayB
        rw [if_neg (by omega), if_neg (by omega)]
        have : lastOf E 1 = (E / 256).toNat + 1 := by unfold lastOf; omega
        rw [this, mayAll_snoc _ _ _ _ (Nat.le_refl _)]
        simp [mayAll]
      rw [hm]
      simp only [q, q2, decide_true, Bool.true_and, beq_self_eq_true]
      obtain ⟨n, hn⟩ : ∃ n, n = (E / 256).toNat := ⟨_, rfl⟩
      have hnE : (n : Int) = E / 256 := by omega
      rw [← hn]
      by_cases c : cnt L N n = 1
      · have hw := pgTo_wf L hb n N hf
        have e1 : canAt (spaceTo L N) n 1 = (bits .and .i64 (pgTo L n N).perm 1 == 1) := by
          unfold canAt Pg.can
          rw [spaceTo_one L n N c, and1 _ hw.perm.1 hw.perm.2]
          rfl
        rw [e1, Bool.eq_iff_iff, List.any_eq_true]
        constructor
        · intro h1
          exact ⟨n, List.mem_filter.2 ⟨List.mem_range.2 (by omega), by simp [c]⟩, by unfold docFind; rw [h1]; simp [hnE]⟩
        · rintro ⟨k, _, h2⟩
          unfold docFind at h2
          rw [Bool.and_eq_true] at h2
          have : k = n := by have := h2.1; simp at this; omega
          subst this
          exact h2.2
      · have e1 : canAt (spaceTo L N) n 1 = false := by
          unfold canAt Pg.can
          rw [(spaceTo_none L n N).2 (by have := h n; omega)]
          decide
        rw [e1]
        symm
        rw [List.any_eq_false]
        intro k hk h2
        unfold docFind at h2
        rw [Bool.and_eq_true] at h2
        have : k = n := by have := h2.1; simp at this; omega
        subst this
        have := (List.mem_filter.1 hk).2
        simp at this
        exact c this
    · have hm : mayB (spaceTo L N) E 1 1 = false := by
        unfold mayB
        rw [if_neg (by omega), if_pos (by omega)]
      rw [hm]
      simp [q2]
  · simp [q]
end Go.Proofs.YtkcjafnaephjiaaGreatDoor

/- The document's header: what it answers of an executable. -/
namespace Go.Proofs.YtkcjafnaephjiaaGreatDoor
open Go.RowKit
set_option maxRecDepth 100000

theorem strOfNums_inj : ∀ (xs ys : List Int), (∀ x ∈ xs, 0 ≤ x ∧ x ≤ 255) → (∀ x ∈ ys, 0 ≤ x ∧ x ≤ 255) → strOfNums xs = strOfNums ys → xs = ys := by
  intro xs ys hx hy h
  have h1 : xs.map (fun n => UInt8.ofNat n.toNat) = ys.map (fun n => UInt8.ofNat n.toNat) := by
    have := congrArg (fun b : ByteArray => b.data.toList) h
    simpa [strOfNums] using this
  clear h
  induction xs generalizing ys with
  | nil =>
    cases ys with
    | nil => rfl
    | cons y ys => simp at h1
  | cons x xs ih =>
    cases ys with
    | nil => simp at h1
    | cons y ys =>
      simp only [List.map_cons, List.cons.injEq] at h1
      have hxx := hx x List.mem_cons_self
      have hyy := hy y List.mem_cons_self
      have h2 : x.toNat % 256 = y.toNat % 256 := by
        have := congrArg UInt8.toNat h1.1
        simpa using this
      have h3 : x = y := by omega
      rw [h3, ih ys (fun z hz => hx z (List.mem_cons_of_mem _ hz)) (fun z hz => hy z (List.mem_cons_of_mem _ hz)) h1.2]

/-- The first seven bytes against the two numbers. -/
theorem magic (L : List Int) (hb : ∀ x ∈ L, 0 ≤ x ∧ x ≤ 255) (hl : 7 ≤ L.length) : L.take 7 = [127, 69, 76, 70, 2, 1, 1] ↔ (fixedOk L 0 = true ∧ fixedOk L 1 = true) := by
  match L, hl with
  | x0 :: x1 :: x2 :: x3 :: x4 :: x5 :: x6 :: r, _ =>
    have b0 := hb x0 (by simp)
    have b1 := hb x1 (by simp)
    have b2 := hb x2 (by simp)
    have b3 := hb x3 (by simp)
    have b4 := hb x4 (by simp)
    have b5 := hb x5 (by simp)
    have b6 := hb x6 (by simp)
    simp only [fixedOk, fixedL, List.getD_cons_zero, List.getD_cons_succ, numAt, List.drop_zero, List.drop_succ_cons, List.take_succ_cons, List.take_zero, numV, beq_iff_eq, List.cons.injEq, and_true]
    omega

set_option maxHeartbeats 8000000 in
theorem headerR_any (b o cap : Nat) (L : List Int) (w : World) (hb : Bts w b o L) (hcap : L.length ≤ cap) (hlen : L.length ≤ 200000) :
    Calls Tryz.prog 71 #[.slice (some ⟨b, o, none⟩) L.length cap] w fun e w' => (∃ n, e = .returned (.tuple #[.int .i64 n, .bool (headerOk L)]) ∧ (headerOk L = true → n = segN L)) ∧ w' = w := by
  by_cases h64 : 64 ≤ L.length
  · have hcap2 : 64 ≤ cap := by omega
    have hconv : (convert 32 9 (.slice (some ⟨b, o, none⟩) 7 cap)).run Tryz.prog w = .ok (.string (strOfNums (L.take 7))) w :=
      run_convert_bytes_arg w 32 5 Tryz.underlying32 Tryz.underlying5 b o 7 cap (L.take 7) (by simp; omega) (fun i hi => by
        rw [hb.at_ i (by omega), List.getD_eq_getElem?_getD, List.getD_eq_getElem?_getD, List.getElem?_take, if_pos hi]) 9 Tryz.underlying9
    by_cases hm : L.take 7 = [127, 69, 76, 70, 2, 1, 1]
    · obtain ⟨f0, f1⟩ := (magic L hb.byte (by omega)).1 hm
      have htl : ((strOfNums (L.take 7)).toList == [127, 69, 76, 70, 2, 1, 1]) = true := by rw [hm, ByteArray.toList_eq]; decide
      have hu := numAt_u64 L hb.byte
      obtain ⟨na, ha⟩ : ∃ x, numAt L 16 2 = x := ⟨_, rfl⟩
      obtain ⟨nm, hnm⟩ : ∃ x, numAt L 18 2 = x := ⟨_, rfl⟩
      obtain ⟨nv, hv⟩ : ∃ x, numAt L 20 4 = x := ⟨_, rfl⟩
      obtain ⟨np, hp⟩ : ∃ x, numAt L 32 8 = x := ⟨_, rfl⟩
      obtain ⟨ns, hs⟩ : ∃ x, numAt L 52 2 = x := ⟨_, rfl⟩
      obtain ⟨nz, hz⟩ : ∃ x, numAt L 54 2 = x := ⟨_, rfl⟩
      obtain ⟨nn, hn⟩ : ∃ x, numAt L 56 2 = x := ⟨_, rfl⟩
      have C1 := numberR_at b o 16 2 (cap - 16) L w hb (by omega) (by omega)
      have C2 := numberR_at b o 18 2 (cap - 18) L w hb (by omega) (by omega)
      have C3 := numberR_at b o 20 4 (cap - 20) L w hb (by omega) (by omega)
      have C4 := numberR_at b o 32 8 (cap - 32) L w hb (by omega) (by omega)
      have C5 := numberR_at b o 52 2 (cap - 52) L w hb (by omega) (by omega)
      have C6 := numberR_at b o 54 2 (cap - 54) L w hb (by omega) (by omega)
      have C7 := numberR_at b o 56 2 (cap - 56) L w hb (by omega) (by omega)
      rw [ha] at C1; rw [hnm] at C2; rw [hv] at C3; rw [hp] at C4; rw [hs] at C5; rw [hz] at C6; rw [hn] at C7
      have hn0 : 0 ≤ nn := by rw [← hn]; exact (hu 56 2 (by omega)).1
      have hn1 : nn ≤ 65535 := by
        rw [← hn]
        have := numV_bound ((L.drop 56).take 2) (fun x hx => hb.byte x (List.mem_of_mem_drop (List.mem_of_mem_take hx)))
        rw [show ((L.drop 56).take 2).length = 2 from by simp; omega] at this
        unfold numAt
        omega
      have HEQ : Hid (headerOk L = (na == 2 && nm == 243 && nv == 1 && np == 64 && ns == 64 && nz == 56 && decide (1 ≤ nn) && decide (nn ≤ 8) && decide (64 + 56 * nn ≤ L.length))) := Lib.hid (by
        have : (List.range 8).all (fixedOk L) = (na == 2 && nm == 243 && nv == 1 && np == 64 && ns == 64 && nz == 56) := by
          simp only [List.range_succ, List.range_zero, List.nil_append, List.cons_append, List.all_cons, List.all_nil, f0, f1, Bool.true_and, Bool.and_true]
          simp only [fixedOk, fixedL, List.getD_cons_zero, List.getD_cons_succ, ha, hnm, hv, hp, hs, hz, Bool.and_assoc]
        simp only [headerOk, h64, this, segN, hn, decide_true, Bool.true_and])
      have HSN : Hid (segN L = nn) := Lib.hid hn
      have G1 : Hid (¬ na = 2 → headerOk L = false) := Lib.hid fun h => by rw [HEQ.out]; simp [h]
      have G2 : Hid (¬ nm = 243 → headerOk L = false) := Lib.hid fun h => by rw [HEQ.out]; simp [h]
      have G3 : Hid (¬ nv = 1 → headerOk L = false) := Lib.hid fun h => by rw [HEQ.out]; simp [h]
      have G4 : Hid (¬ np = 64 → headerOk L = false) := Lib.hid fun h => by rw [HEQ.out]; simp [h]
      have G5 : Hid (¬ ns = 64 → headerOk L = false) := Lib.hid fun h => by rw [HEQ.out]; simp [h]
      have G6 : Hid (¬ nz = 56 → headerOk L = false) := Lib.hid fun h => by rw [HEQ.out]; simp [h]
      have G7 : Hid (nn < 1 → headerOk L = false) := Lib.hid fun h => by rw [HEQ.out]; simp [show ¬ 1 ≤ nn from by omega]
      have G8 : Hid (nn < 1 ∨ 8 < nn → headerOk L = false) := Lib.hid fun h => by rw [HEQ.out]; simp; omega
      have GT : Hid (na = 2 → nm = 243 → nv = 1 → np = 64 → ns = 64 → nz = 56 → 1 ≤ nn ∧ nn ≤ 8 → headerOk L = decide (64 + 56 * nn ≤ L.length)) := Lib.hid fun h1 h2 h3 h4 h5 h6 h7 => by rw [HEQ.out]; simp [h1, h2, h3, h4, h5, h6, h7.1, h7.2]
      have D1 := Lib.hid C1
      have D2 := Lib.hid C2
      have D3 := Lib.hid C3
      have D4 := Lib.hid C4
      have D5 := Lib.hid C5
      have D6 := Lib.hid C6
      have D7 := Lib.hid C7
      clear C1 C2 C3 C4 C5 C6 C7 ha hnm hv hp hs hz hn f0 f1 hu hm
      generalize strOfNums (L.take 7) = s7 at *
      go_enter Tryz.func71, Tryz.ntmps71
      go_wp2_with (go_at_call 73; first
        | (with_reducible refine Calls.mono D1.out ?_; rintro e wx ⟨rfl, h⟩; subst h)
        | (with_reducible refine Calls.mono D2.out ?_; rintro e wx ⟨rfl, h⟩; subst h)
        | (with_reducible refine Calls.mono D3.out ?_; rintro e wx ⟨rfl, h⟩; subst h)
        | (with_reducible refine Calls.mono D4.out ?_; rintro e wx ⟨rfl, h⟩; subst h)
        | (with_reducible refine Calls.mono D5.out ?_; rintro e wx ⟨rfl, h⟩; subst h)
        | (with_reducible refine Calls.mono D6.out ?_; rintro e wx ⟨rfl, h⟩; subst h)
        | (with_reducible refine Calls.mono D7.out ?_; rintro e wx ⟨rfl, h⟩; subst h))
      all_goals first
        | (have HF : headerOk L = false := by
             first | exact G1.out (by assumption) | exact G2.out (by assumption) | exact G3.out (by assumption) | exact G4.out (by assumption) | exact G5.out (by assumption) | exact G6.out (by assumption) | exact G7.out (by assumption) | exact G8.out (by assumption)
           go_ret2
           exact ⟨⟨0, by rw [HF]; try rfl, fun h => by rw [HF] at h; cases h⟩, rfl⟩)
        | skip
      have HT := GT.out (by assumption) (by assumption) (by assumption) (by assumption) (by assumption) (by assumption) (by assumption)
      have HT2 := Lib.hid HT
      clear HT
      go_ret2
      exact ⟨⟨nn, by rw [HT2.out]; try rfl, fun _ => HSN.out.symm⟩, rfl⟩
    · have hne : strOfNums (L.take 7) ≠ strOfNums [127, 69, 76, 70, 2, 1, 1] := fun h => hm (strOfNums_inj _ _ (fun x hx => hb.byte x (List.mem_of_mem_take hx)) (by decide) h)
      have HF : Hid (headerOk L = false) := Lib.hid (by
        have h1 := mt (magic L hb.byte (by omega)).2 hm
        have : (List.range 8).all (fixedOk L) = false := by
          rw [List.all_eq_false]
          by_cases h0 : fixedOk L 0 = true
          · exact ⟨1, by simp, fun h => h1 ⟨h0, h⟩⟩
          · exact ⟨0, by simp, h0⟩
        simp [headerOk, this])
      have htl : ((strOfNums (L.take 7)).toList == [127, 69, 76, 70, 2, 1, 1]) = false := by
        rw [ByteArray.toList_eq]
        refine beq_eq_false_iff_ne.2 fun h => hne ?_
        exact congrArg ByteArray.mk (Array.ext' (h.trans (by decide)))
      have HC := Lib.hid hconv
      clear hconv hm hne
      generalize strOfNums (L.take 7) = s7 at *
      have hconv := HC.out
      clear HC
      go_enter Tryz.func71, Tryz.ntmps71
      go_wp2
      go_ret2
      exact ⟨⟨0, by rw [HF.out]; try rfl, fun h => by rw [HF.out] at h; cases h⟩, rfl⟩
  · have HF : Hid (headerOk L = false) := Lib.hid (by simp [headerOk, h64])
    go_enter Tryz.func71, Tryz.ntmps71
    go_wp2
    go_ret2
    exact ⟨⟨0, by rw [HF.out]; try rfl, fun h => by rw [HF.out] at h; cases h⟩, rfl⟩
end Go.Proofs.YtkcjafnaephjiaaGreatDoor
