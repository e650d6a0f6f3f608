/- The program's Boot at bad limits. -/
import Derived.Test.YtkcjafnaephjiaaGreatDoorPart33
import Derived.Test.YtkcjafnaephjiaaGreatDoorPart27
namespace Go.Proofs.YtkcjafnaephjiaaGreatDoor
open Go.RowKit
set_option maxRecDepth 100000

set_option maxHeartbeats 16000000 in
theorem bootP_a (l : Lims) (v : Value) (w : World) (h : l.okA = false) :
    Calls Tryz.prog 26 #[.agg (limC l).toArray, v] w fun e w' => e = .returned (.tuple #[.pointer none, errN 6]) ∧ Bel w w' := by
  obtain ⟨a, b, c, d, e⟩ := l
  have h' : a < 1 ∨ (¬ a < 1 ∧ 16 < a) ∨ (¬ a < 1 ∧ ¬ 16 < a ∧ b < 1) ∨ (¬ a < 1 ∧ ¬ 16 < a ∧ ¬ b < 1 ∧ 1000 < b) := by
    simp only [Lims.okA, decide_eq_false_iff_not] at h
    omega
  clear h
  simp only [limC]
  rcases h' with h1 | ⟨h1, h2⟩ | ⟨h1, h2, h3⟩ | ⟨h1, h2, h3, h4⟩
  all_goals
    go_enter Tryz.func26, Tryz.ntmps26
    go_wp2
    go_ret2
    exact ⟨rfl, Bel.start w _⟩
set_option maxHeartbeats 16000000 in
theorem bootP_b (l : Lims) (v : Value) (w : World) (h : l.okA = true) (hb : l.okB = false) :
    Calls Tryz.prog 26 #[.agg (limC l).toArray, v] w fun e w' => e = .returned (.tuple #[.pointer none, errN 6]) ∧ Bel w w' := by
  obtain ⟨a, b, c, d, e⟩ := l
  obtain ⟨h1, h2, h3, h4⟩ : ¬ a < 1 ∧ ¬ 16 < a ∧ ¬ b < 1 ∧ ¬ 1000 < b := by
    simp only [Lims.okA, decide_eq_true_eq] at h
    omega
  have hb' : c < 0 ∨ (¬ c < 0 ∧ 100000 < c) ∨ (¬ c < 0 ∧ ¬ 100000 < c ∧ d < 0) ∨ (¬ c < 0 ∧ ¬ 100000 < c ∧ ¬ d < 0 ∧ 100000 < d) ∨ (¬ c < 0 ∧ ¬ 100000 < c ∧ ¬ d < 0 ∧ ¬ 100000 < d ∧ e < 0) ∨ (¬ c < 0 ∧ ¬ 100000 < c ∧ ¬ d < 0 ∧ ¬ 100000 < d ∧ ¬ e < 0 ∧ 100000 < e) := by
    simp only [Lims.okB, decide_eq_false_iff_not] at hb
    omega
  clear h hb
  simp only [limC]
  rcases hb' with g1 | ⟨g1, g2⟩ | ⟨g1, g2, g3⟩ | ⟨g1, g2, g3, g4⟩ | ⟨g1, g2, g3, g4, g5⟩ | ⟨g1, g2, g3, g4, g5, g6⟩
  · go_enter Tryz.func26, Tryz.ntmps26
    go_wp2
    refine wp_loop_rounds 4 ?_
    rw [rounds_succ]
    go_wp2
    go_ret2
    exact ⟨rfl, (Bel.start w _).ac _⟩
  · go_enter Tryz.func26, Tryz.ntmps26
    go_wp2
    refine wp_loop_rounds 4 ?_
    rw [rounds_succ]
    go_wp2
    go_ret2
    exact ⟨rfl, (Bel.start w _).ac _⟩
  · go_enter Tryz.func26, Tryz.ntmps26
    go_wp2
    refine wp_loop_rounds 4 ?_
    rw [rounds_succ]
    go_wp2
    rw [rounds_succ]
    go_wp2
    go_ret2
    exact ⟨rfl, (Bel.start w _).ac _⟩
  · go_enter Tryz.func26, Tryz.ntmps26
    go_wp2
    refine wp_loop_rounds 4 ?_
    rw [rounds_succ]
    go_wp2
    rw [rounds_succ]
    go_wp2
    go_ret2
    exact ⟨rfl, (Bel.start w _).ac _⟩
  · go_enter Tryz.func26, Tryz.ntmps26
    go_wp2
    refine wp_loop_rounds 4 ?_
    rw [rounds_succ]
    go_wp2
    rw [rounds_succ]
    go_wp2
    rw [rounds_succ]
    go_wp2
    go_ret2
    exact ⟨rfl, (Bel.start w _).ac _⟩
  · go_enter Tryz.func26, Tryz.ntmps26
    go_wp2
    refine wp_loop_rounds 4 ?_
    rw [rounds_succ]
    go_wp2
    rw [rounds_succ]
    go_wp2
    rw [rounds_succ]
    go_wp2
    go_ret2
    exact ⟨rfl, (Bel.start w _).ac _⟩
set_option maxHeartbeats 4000000 in
theorem newtree_zero (a b : Int) (w : World) (h : a < 1) : Calls Tryz.prog 36 #[.int .i64 a, .int .i64 b] w fun e w' => e = .returned (.tuple #[.pointer none, errN 12]) ∧ w = w' := by
  go_enter Tryz.func36, Tryz.ntmps36
  go_wp2
  go_ret2
  exact ⟨rfl, rfl⟩
set_option maxHeartbeats 16000000 in
theorem bootP_c (l : Lims) (v : Value) (w : World) (h : l.okA = true) (hb : l.okB = true) (hd : l.d = 0) :
    Calls Tryz.prog 26 #[.agg (limC l).toArray, v] w fun e w' => e = .returned (.tuple #[.pointer none, errN 12]) ∧ Bel w w' := by
  obtain ⟨a, b, c, d, e⟩ := l
  obtain ⟨h1, h2, h3, h4⟩ : ¬ a < 1 ∧ ¬ 16 < a ∧ ¬ b < 1 ∧ ¬ 1000 < b := by
    simp only [Lims.okA, decide_eq_true_eq] at h
    omega
  obtain ⟨g1, g2, g3, g4, g5, g6⟩ : ¬ c < 0 ∧ ¬ 100000 < c ∧ ¬ d < 0 ∧ ¬ 100000 < d ∧ ¬ e < 0 ∧ ¬ 100000 < e := by
    simp only [Lims.okB, decide_eq_true_eq] at hb
    omega
  have hd1 : d < 1 := by show d < 1; simp only at hd; omega
  clear h hb hd
  simp only [limC]
  go_enter Tryz.func26, Tryz.ntmps26
  go_wp2_with fail
  refine wp_loop_rounds 4 ?_
  rw [rounds_succ]
  go_wp2_with fail
  rw [rounds_succ]
  go_wp2_with fail
  rw [rounds_succ]
  go_wp2_with fail
  rw [rounds_succ]
  go_wp2_with (go_at_call 36; ((with_reducible refine Calls.mono (newtree_zero _ _ _ hd1) ?_); rintro e2 w1 ⟨rfl, hh⟩; subst hh))
  go_ret2
  exact ⟨rfl, (Bel.start w _).ac _⟩
end Go.Proofs.YtkcjafnaephjiaaGreatDoor
