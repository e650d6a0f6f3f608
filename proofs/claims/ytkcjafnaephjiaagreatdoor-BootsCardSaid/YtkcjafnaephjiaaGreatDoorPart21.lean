/- The document's header: what it answers of an executable. -/
import Derived.Laws.BytesArg
import Derived.Test.YtkcjafnaephjiaaGreatDoorPart06
set_option linter.unusedVariables false
set_option linter.unusedSimpArgs false
namespace Go.Proofs.YtkcjafnaephjiaaGreatDoor
open Go.RowKit
set_option maxRecDepth 100000

theorem strOfNums_inj : ∀ (xs ys : List Int), (∀ x ∈ xs, 0 ≤ x ∧ x ≤ 255) → (∀ x ∈ ys, 0 ≤ x ∧ x ≤ 255) → strOfNums xs = strOfNums ys → xs = ys := by
  intro xs ys hx hy h
  have h1 : xs.map (fun n => UInt8.ofNat n.toNat) = ys.map (fun n => UInt8.ofNat n.toNat) := by
    have := congrArg (fun b : ByteArray => b.data.toList) h
    simpa [strOfNums] using this
  clear h
  induction xs generalizing ys with
  | nil =>
    cases ys with
    | nil => rfl
    | cons y ys => simp at h1
  | cons x xs ih =>
    cases ys with
    | nil => simp at h1
    | cons y ys =>
      simp only [List.map_cons, List.cons.injEq] at h1
      have hxx := hx x List.mem_cons_self
      have hyy := hy y List.mem_cons_self
      have h2 : x.toNat % 256 = y.toNat % 256 := by
        have := congrArg UInt8.toNat h1.1
        simpa using this
      have h3 : x = y := by omega
      rw [h3, ih ys (fun z hz => hx z (List.mem_cons_of_mem _ hz)) (fun z hz => hy z (List.mem_cons_of_mem _ hz)) h1.2]

/-- The first seven bytes against the two numbers. -/
theorem magic (L : List Int) (hb : ∀ x ∈ L, 0 ≤ x ∧ x ≤ 255) (hl : 7 ≤ L.length) : L.take 7 = [127, 69, 76, 70, 2, 1, 1] ↔ (fixedOk L 0 = true ∧ fixedOk L 1 = true) := by
  match L, hl with
  | x0 :: x1 :: x2 :: x3 :: x4 :: x5 :: x6 :: r, _ =>
    have b0 := hb x0 (by simp)
    have b1 := hb x1 (by simp)
    have b2 := hb x2 (by simp)
    have b3 := hb x3 (by simp)
    have b4 := hb x4 (by simp)
    have b5 := hb x5 (by simp)
    have b6 := hb x6 (by simp)
    simp only [fixedOk, fixedL, List.getD_cons_zero, List.getD_cons_succ, numAt, List.drop_zero, List.drop_succ_cons, List.take_succ_cons, List.take_zero, numV, beq_iff_eq, List.cons.injEq, and_true]
    omega

set_option maxHeartbeats 8000000 in
theorem headerR_any (b o cap : Nat) (L : List Int) (w : World) (hb : Bts w b o L) (hcap : L.length ≤ cap) (hlen : L.length ≤ 200000) :
    Calls Tryz.prog 71 #[.slice (some ⟨b, o, none⟩) L.length cap] w fun e w' => (∃ n, e = .returned (.tuple #[.int .i64 n, .bool (headerOk L)]) ∧ (headerOk L = true → n = segN L)) ∧ w' = w := by
  by_cases h64 : 64 ≤ L.length
  · have hcap2 : 64 ≤ cap := by omega
    have hconv : (convert 32 9 (.slice (some ⟨b, o, none⟩) 7 cap)).run Tryz.prog w = .ok (.string (strOfNums (L.take 7))) w :=
      run_convert_bytes_arg w 32 5 Tryz.underlying32 Tryz.underlying5 b o 7 cap (L.take 7) (by simp; omega) (fun i hi => by
        rw [hb.at_ i (by omega), List.getD_eq_getElem?_getD, List.getD_eq_getElem?_getD, List.getElem?_take, if_pos hi]) 9 Tryz.underlying9
    by_cases hm : L.take 7 = [127, 69, 76, 70, 2, 1, 1]
    · obtain ⟨f0, f1⟩ := (magic L hb.byte (by omega)).1 hm
      have htl : ((strOfNums (L.take 7)).toList == [127, 69, 76, 70, 2, 1, 1]) = true := by rw [hm, ByteArray.toList_eq]; decide
      have hu := numAt_u64 L hb.byte
      obtain ⟨na, ha⟩ : ∃ x, numAt L 16 2 = x := ⟨_, rfl⟩
      obtain ⟨nm, hnm⟩ : ∃ x, numAt L 18 2 = x := ⟨_, rfl⟩
      obtain ⟨nv, hv⟩ : ∃ x, numAt L 20 4 = x := ⟨_, rfl⟩
      obtain ⟨np, hp⟩ : ∃ x, numAt L 32 8 = x := ⟨_, rfl⟩
      obtain ⟨ns, hs⟩ : ∃ x, numAt L 52 2 = x := ⟨_, rfl⟩
      obtain ⟨nz, hz⟩ : ∃ x, numAt L 54 2 = x := ⟨_, rfl⟩
      obtain ⟨nn, hn⟩ : ∃ x, numAt L 56 2 = x := ⟨_, rfl⟩
      have C1 := numberR_at b o 16 2 (cap - 16) L w hb (by omega) (by omega)
      have C2 := numberR_at b o 18 2 (cap - 18) L w hb (by omega) (by omega)
      have C3 := numberR_at b o 20 4 (cap - 20) L w hb (by omega) (by omega)
      have C4 := numberR_at b o 32 8 (cap - 32) L w hb (by omega) (by omega)
      have C5 := numberR_at b o 52 2 (cap - 52) L w hb (by omega) (by omega)
      have C6 := numberR_at b o 54 2 (cap - 54) L w hb (by omega) (by omega)
      have C7 := numberR_at b o 56 2 (cap - 56) L w hb (by omega) (by omega)
      rw [ha] at C1; rw [hnm] at C2; rw [hv] at C3; rw [hp] at C4; rw [hs] at C5; rw [hz] at C6; rw [hn] at C7
      have hn0 : 0 ≤ nn := by rw [← hn]; exact (hu 56 2 (by omega)).1
      have hn1 : nn ≤ 65535 := by
        rw [← hn]
        have := numV_bound ((L.drop 56).take 2) (fun x hx => hb.byte x (List.mem_of_mem_drop (List.mem_of_mem_take hx)))
        rw [show ((L.drop 56).take 2).length = 2 from by simp; omega] at this
        unfold numAt
        omega
      have HEQ : Hid (headerOk L = (na == 2 && nm == 243 && nv == 1 && np == 64 && ns == 64 && nz == 56 && decide (1 ≤ nn) && decide (nn ≤ 8) && decide (64 + 56 * nn ≤ L.length))) := Lib.hid (by
        have : (List.range 8).all (fixedOk L) = (na == 2 && nm == 243 && nv == 1 && np == 64 && ns == 64 && nz == 56) := by
          simp only [List.range_succ, List.range_zero, List.nil_append, List.cons_append, List.all_cons, List.all_nil, f0, f1, Bool.true_and, Bool.and_true]
          simp only [fixedOk, fixedL, List.getD_cons_zero, List.getD_cons_succ, ha, hnm, hv, hp, hs, hz, Bool.and_assoc]
        simp only [headerOk, h64, this, segN, hn, decide_true, Bool.true_and])
      have HSN : Hid (segN L = nn) := Lib.hid hn
      have G1 : Hid (¬ na = 2 → headerOk L = false) := Lib.hid fun h => by rw [HEQ.out]; simp [h]
      have G2 : Hid (¬ nm = 243 → headerOk L = false) := Lib.hid fun h => by rw [HEQ.out]; simp [h]
      have G3 : Hid (¬ nv = 1 → headerOk L = false) := Lib.hid fun h => by rw [HEQ.out]; simp [h]
      have G4 : Hid (¬ np = 64 → headerOk L = false) := Lib.hid fun h => by rw [HEQ.out]; simp [h]
      have G5 : Hid (¬ ns = 64 → headerOk L = false) := Lib.hid fun h => by rw [HEQ.out]; simp [h]
      have G6 : Hid (¬ nz = 56 → headerOk L = false) := Lib.hid fun h => by rw [HEQ.out]; simp [h]
      have G7 : Hid (nn < 1 → headerOk L = false) := Lib.hid fun h => by rw [HEQ.out]; simp [show ¬ 1 ≤ nn from by omega]
      have G8 : Hid (nn < 1 ∨ 8 < nn → headerOk L = false) := Lib.hid fun h => by rw [HEQ.out]; simp; omega
      have GT : Hid (na = 2 → nm = 243 → nv = 1 → np = 64 → ns = 64 → nz = 56 → 1 ≤ nn ∧ nn ≤ 8 → headerOk L = decide (64 + 56 * nn ≤ L.length)) := Lib.hid fun h1 h2 h3 h4 h5 h6 h7 => by rw [HEQ.out]; simp [h1, h2, h3, h4, h5, h6, h7.1, h7.2]
      have D1 := Lib.hid C1
      have D2 := Lib.hid C2
      have D3 := Lib.hid C3
      have D4 := Lib.hid C4
      have D5 := Lib.hid C5
      have D6 := Lib.hid C6
      have D7 := Lib.hid C7
      clear C1 C2 C3 C4 C5 C6 C7 ha hnm hv hp hs hz hn f0 f1 hu hm
      generalize strOfNums (L.take 7) = s7 at *
      go_enter Tryz.func71, Tryz.ntmps71
      go_wp2_with (go_at_call 73; first
        | (with_reducible refine Calls.mono D1.out ?_; rintro e wx ⟨rfl, h⟩; subst h)
        | (with_reducible refine Calls.mono D2.out ?_; rintro e wx ⟨rfl, h⟩; subst h)
        | (with_reducible refine Calls.mono D3.out ?_; rintro e wx ⟨rfl, h⟩; subst h)
        | (with_reducible refine Calls.mono D4.out ?_; rintro e wx ⟨rfl, h⟩; subst h)
        | (with_reducible refine Calls.mono D5.out ?_; rintro e wx ⟨rfl, h⟩; subst h)
        | (with_reducible refine Calls.mono D6.out ?_; rintro e wx ⟨rfl, h⟩; subst h)
        | (with_reducible refine Calls.mono D7.out ?_; rintro e wx ⟨rfl, h⟩; subst h))
      all_goals first
        | (have HF : headerOk L = false := by
             first | exact G1.out (by assumption) | exact G2.out (by assumption) | exact G3.out (by assumption) | exact G4.out (by assumption) | exact G5.out (by assumption) | exact G6.out (by assumption) | exact G7.out (by assumption) | exact G8.out (by assumption)
           go_ret2
           exact ⟨⟨0, by rw [HF]; try rfl, fun h => by rw [HF] at h; cases h⟩, rfl⟩)
        | skip
      have HT := GT.out (by assumption) (by assumption) (by assumption) (by assumption) (by assumption) (by assumption) (by assumption)
      have HT2 := Lib.hid HT
      clear HT
      go_ret2
      exact ⟨⟨nn, by rw [HT2.out]; try rfl, fun _ => HSN.out.symm⟩, rfl⟩
    · have hne : strOfNums (L.take 7) ≠ strOfNums [127, 69, 76, 70, 2, 1, 1] := fun h => hm (strOfNums_inj _ _ (fun x hx => hb.byte x (List.mem_of_mem_take hx)) (by decide) h)
      have HF : Hid (headerOk L = false) := Lib.hid (by
        have h1 := mt (magic L hb.byte (by omega)).2 hm
        have : (List.range 8).all (fixedOk L) = false := by
          rw [List.all_eq_false]
          by_cases h0 : fixedOk L 0 = true
          · exact ⟨1, by simp, fun h => h1 ⟨h0, h⟩⟩
          · exact ⟨0, by simp, h0⟩
        simp [headerOk, this])
      have htl : ((strOfNums (L.take 7)).toList == [127, 69, 76, 70, 2, 1, 1]) = false := by
        rw [ByteArray.toList_eq]
        refine beq_eq_false_iff_ne.2 fun h => hne ?_
        exact congrArg ByteArray.mk (Array.ext' (h.trans (by decide)))
      have HC := Lib.hid hconv
      clear hconv hm hne
      generalize strOfNums (L.take 7) = s7 at *
      have hconv := HC.out
      clear HC
      go_enter Tryz.func71, Tryz.ntmps71
      go_wp2
      go_ret2
      exact ⟨⟨0, by rw [HF.out]; try rfl, fun h => by rw [HF.out] at h; cases h⟩, rfl⟩
  · have HF : Hid (headerOk L = false) := Lib.hid (by simp [headerOk, h64])
    go_enter Tryz.func71, Tryz.ntmps71
    go_wp2
    go_ret2
    exact ⟨⟨0, by rw [HF.out]; try rfl, fun h => by rw [HF.out] at h; cases h⟩, rfl⟩
end Go.Proofs.YtkcjafnaephjiaaGreatDoor
