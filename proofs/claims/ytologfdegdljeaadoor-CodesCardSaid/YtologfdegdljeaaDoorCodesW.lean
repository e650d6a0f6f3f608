/- Instructions: the walks of Encode and Decode, the program's and the reference's. -/
import Derived.Test.YtologfdegdljeaaDoorTell
import Derived.Test.YtologfdegdljeaaDoorArith
import Derived.WalkLawsBesides
namespace Go.Proofs.YtologfdegdljeaaDoor
open Go.RowKit
set_option maxRecDepth 100000

/-- The bytes of an instruction. -/
abbrev encV (op a b imm : Int) : Value := .agg #[.int .u8 op, .int .u8 (a * 16 + b), .int .u8 (imm % 256), .int .u8 (imm / 256 % 256)]
abbrev zero4 : Value := .agg #[.int .u8 0, .int .u8 0, .int .u8 0, .int .u8 0]
/-- No instruction. -/
def encBad (op a b : Int) : Prop := op < 1 ∨ 24 < op ∨ a < 0 ∨ 15 < a ∨ b < 0 ∨ 15 < b
theorem encBad.cases {op a b : Int} (h : encBad op a b) : op < 1 ∨ (1 ≤ op ∧ 24 < op) ∨ (1 ≤ op ∧ op ≤ 24 ∧ a < 0) ∨ (1 ≤ op ∧ op ≤ 24 ∧ 0 ≤ a ∧ 15 < a) ∨ (1 ≤ op ∧ op ≤ 24 ∧ 0 ≤ a ∧ a ≤ 15 ∧ b < 0) ∨ (1 ≤ op ∧ op ≤ 24 ∧ 0 ≤ a ∧ a ≤ 15 ∧ 0 ≤ b ∧ 15 < b) := by
  unfold encBad at h; omega
abbrev errV (n : Int) : Value := .iface 31 (.int .i64 n)

set_option maxHeartbeats 4000000 in
theorem encodeM_ok (op a b imm : Int) (w : World) (h0 : 1 ≤ op) (h1 : op ≤ 24) (ha0 : 0 ≤ a) (ha1 : a ≤ 15) (hb0 : 0 ≤ b) (hb1 : b ≤ 15) (hi0 : -32768 ≤ imm) (hi1 : imm ≤ 32767) :
    Calls Tryd.prog 19 #[.agg #[.int .u8 op, .int .i64 a, .int .i64 b, .int .i16 imm]] w fun e w' => e = .returned (.tuple #[encV op a b imm, .nilIface]) ∧ Bel w w' := by
  have g1 : (op == 0) = false := by simp; omega
  have g2 := or_ab a b ha0 ha1 hb0 hb1
  have g3 : (a * 16 + b) % 256 = a * 16 + b := by omega
  go_enter Tryd.func19, Tryd.ntmps19
  go_wp2
  refine bodyPost_ret (v := .tuple #[encV op a b imm, .nilIface]) (by simp [results, Tryd.results19, go_sem, g2, g3]) rfl ⟨rfl, ?_⟩
  exact (((Below.refl _ _).alloc (Nat.le_refl _) _).alloc (by simp) _)
set_option maxHeartbeats 4000000 in
theorem encodeM_bad (op a b imm : Int) (w : World) (h : encBad op a b) (h0 : 0 ≤ op) (h1 : op ≤ 255) :
    Calls Tryd.prog 19 #[.agg #[.int .u8 op, .int .i64 a, .int .i64 b, .int .i16 imm]] w fun e w' => e = .returned (.tuple #[zero4, errV 1]) ∧ Bel w w' := by
  by_cases g1 : op = 0
  · subst g1
    clear h h0 h1
    go_enter Tryd.func19, Tryd.ntmps19
    go_wp2
    refine bodyPost_ret (v := .tuple #[zero4, errV 1]) (by simp [results, Tryd.results19, go_sem]) rfl ⟨rfl, ?_⟩
    exact (((Below.refl _ _).alloc (Nat.le_refl _) _).alloc (by simp) _)
  · have g2 : (op == 0) = false := by simpa using g1
    have h2 : 1 ≤ op := by omega
    clear g1
    rcases h.cases with h3 | ⟨_, h3⟩ | ⟨_, h3, h4⟩ | ⟨_, h3, h4, h5⟩ | ⟨_, h3, h4, h5, h6⟩ | ⟨_, h3, h4, h5, h6, h7⟩ <;> clear h
    · omega
    all_goals
      go_enter Tryd.func19, Tryd.ntmps19
      go_wp2
      refine bodyPost_ret (v := .tuple #[zero4, errV 1]) (by simp [results, Tryd.results19, go_sem]) rfl ⟨rfl, ?_⟩
      exact (((Below.refl _ _).alloc (Nat.le_refl _) _).alloc (by simp) _)
set_option maxHeartbeats 4000000 in
theorem encodeR_ok (op a b imm : Int) (w : World) (h0 : 1 ≤ op) (h1 : op ≤ 24) (ha0 : 0 ≤ a) (ha1 : a ≤ 15) (hb0 : 0 ≤ b) (hb1 : b ≤ 15) (hi0 : -32768 ≤ imm) (hi1 : imm ≤ 32767) :
    Calls Tryd.prog 8 #[.agg #[.int .i64 op, .int .i64 a, .int .i64 b, .int .i64 imm]] w fun e w' => e = .returned (.tuple #[encV op a b imm, .int .i64 0]) ∧ Bel w w' := by
  go_enter Tryd.func8, Tryd.ntmps8
  go_wp2
  refine bodyPost_ret (v := .tuple #[encV op a b imm, .int .i64 0]) (by simp [results, Tryd.results8, go_sem]) rfl ⟨rfl, ?_⟩
  exact ((((Below.refl _ _).alloc (Nat.le_refl _) _).alloc (by simp) _).alloc (by simp; omega) _)
set_option maxHeartbeats 4000000 in
theorem encodeR_bad (op a b imm : Int) (w : World) (h : encBad op a b) :
    Calls Tryd.prog 8 #[.agg #[.int .i64 op, .int .i64 a, .int .i64 b, .int .i64 imm]] w fun e w' => e = .returned (.tuple #[zero4, .int .i64 1]) ∧ Bel w w' := by
  rcases h.cases with h3 | ⟨h2, h3⟩ | ⟨h2, h3, h4⟩ | ⟨h2, h3, h4, h5⟩ | ⟨h2, h3, h4, h5, h6⟩ | ⟨h2, h3, h4, h5, h6, h7⟩ <;> clear h
  all_goals
    go_enter Tryd.func8, Tryd.ntmps8
    go_wp2
    refine bodyPost_ret (v := .tuple #[zero4, .int .i64 1]) (by simp [results, Tryd.results8, go_sem]) rfl ⟨rfl, ?_⟩
    exact ((((Below.refl _ _).alloc (Nat.le_refl _) _).alloc (by simp) _).alloc (by simp; omega) _)

abbrev decM (b0 b1 b2 b3 : Int) : Value := .agg #[.int .u8 b0, .int .i64 (b1 / 16), .int .i64 (b1 % 16), .int .i16 (IntKind.i16.wrap (b2 + b3 * 256))]
abbrev decR (b0 b1 b2 b3 : Int) : Value := .agg #[.int .i64 b0, .int .i64 (b1 / 16), .int .i64 (b1 % 16), .int .i64 (IntKind.i16.wrap (b2 + b3 * 256))]
set_option maxHeartbeats 4000000 in
theorem decodeM_ok (b0 b1 b2 b3 : Int) (w : World) (h0 : 1 ≤ b0) (h1 : b0 ≤ 24) (ha0 : 0 ≤ b1) (ha1 : b1 ≤ 255) (hb0 : 0 ≤ b2) (hb1 : b2 ≤ 255) (hi0 : 0 ≤ b3) (hi1 : b3 ≤ 255) :
    Calls Tryd.prog 36 #[.agg #[.int .u8 b0, .int .u8 b1, .int .u8 b2, .int .u8 b3]] w fun e w' => e = .returned (.tuple #[decM b0 b1 b2 b3, .nilIface]) ∧ Bel w w' := by
  have g1 : (b0 == 0) = false := by simp; omega
  have g2 := i16_join b2 b3 hb0 hb1 hi0 hi1
  go_enter Tryd.func36, Tryd.ntmps36
  go_wp2
  refine bodyPost_ret (v := .tuple #[decM b0 b1 b2 b3, .nilIface]) (by simp [results, Tryd.results36, go_sem, g2]) rfl ⟨rfl, ?_⟩
  exact (((Below.refl _ _).alloc (Nat.le_refl _) _).alloc (by simp) _)
abbrev zeroM : Value := .agg #[.int .u8 0, .int .i64 0, .int .i64 0, .int .i16 0]
abbrev zeroR : Value := .agg #[.int .i64 0, .int .i64 0, .int .i64 0, .int .i64 0]
set_option maxHeartbeats 4000000 in
theorem decodeM_bad (b0 b1 b2 b3 : Int) (w : World) (h0 : 0 ≤ b0) (h1 : b0 ≤ 255) (h : b0 < 1 ∨ 24 < b0) :
    Calls Tryd.prog 36 #[.agg #[.int .u8 b0, .int .u8 b1, .int .u8 b2, .int .u8 b3]] w fun e w' => e = .returned (.tuple #[zeroM, errV 1]) ∧ Bel w w' := by
  by_cases g1 : b0 = 0
  · subst g1
    clear h h0 h1
    go_enter Tryd.func36, Tryd.ntmps36
    go_wp2
    refine bodyPost_ret (v := .tuple #[zeroM, errV 1]) (by simp [results, Tryd.results36, go_sem]) rfl ⟨rfl, ?_⟩
    exact (((Below.refl _ _).alloc (Nat.le_refl _) _).alloc (by simp) _)
  · have g2 : (b0 == 0) = false := by simpa using g1
    have h3 : 25 ≤ b0 := by omega
    clear g1 h
    go_enter Tryd.func36, Tryd.ntmps36
    go_wp2
    refine bodyPost_ret (v := .tuple #[zeroM, errV 1]) (by simp [results, Tryd.results36, go_sem]) rfl ⟨rfl, ?_⟩
    exact (((Below.refl _ _).alloc (Nat.le_refl _) _).alloc (by simp) _)
set_option maxHeartbeats 4000000 in
theorem decodeR_ok (b0 b1 b2 b3 : Int) (w : World) (h0 : 1 ≤ b0) (h1 : b0 ≤ 24) (ha0 : 0 ≤ b1) (ha1 : b1 ≤ 255) (hb0 : 0 ≤ b2) (hb1 : b2 ≤ 255) (hi0 : 0 ≤ b3) (hi1 : b3 ≤ 255) :
    Calls Tryd.prog 22 #[.agg #[.int .u8 b0, .int .u8 b1, .int .u8 b2, .int .u8 b3]] w fun e w' => e = .returned (.tuple #[decR b0 b1 b2 b3, .bool true]) ∧ Bel w w' := by
  have g2 : wrap64 (IntKind.i16.wrap (b2 + b3 * 256)) = IntKind.i16.wrap (b2 + b3 * 256) := by rw [wrap_i16]; exact IntWalk.wrap64_in _ (by omega)
  go_enter Tryd.func22, Tryd.ntmps22
  go_wp2
  refine bodyPost_ret (v := .tuple #[decR b0 b1 b2 b3, .bool true]) (by simp [results, Tryd.results22, go_sem, g2]) rfl ⟨rfl, ?_⟩
  exact (((Below.refl _ _).alloc (Nat.le_refl _) _).alloc (by simp) _)
set_option maxHeartbeats 4000000 in
theorem decodeR_bad (b0 b1 b2 b3 : Int) (w : World) (h : b0 < 1 ∨ 24 < b0) :
    Calls Tryd.prog 22 #[.agg #[.int .u8 b0, .int .u8 b1, .int .u8 b2, .int .u8 b3]] w fun e w' => e = .returned (.tuple #[zeroR, .bool false]) ∧ Bel w w' := by
  rcases h with h | h
  all_goals
    go_enter Tryd.func22, Tryd.ntmps22
    go_wp2
    refine bodyPost_ret (v := .tuple #[zeroR, .bool false]) (by simp [results, Tryd.results22, go_sem]) rfl ⟨rfl, ?_⟩
    exact (((Below.refl _ _).alloc (Nat.le_refl _) _).alloc (by simp) _)
end Go.Proofs.YtologfdegdljeaaDoor
