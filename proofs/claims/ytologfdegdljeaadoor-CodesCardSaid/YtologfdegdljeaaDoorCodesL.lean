/- The law Codes: it returns true. -/
import Derived.Test.YtologfdegdljeaaDoorCodesW
import Derived.Test.YtologfdegdljeaaDoorArr
namespace Go.Proofs.YtologfdegdljeaaDoor
open Go.RowKit
set_option maxRecDepth 100000

theorem wrapD_bd (n : Int) : -32768 ≤ IntKind.i16.wrap n ∧ IntKind.i16.wrap n ≤ 32767 := by rw [wrap_i16]; omega

/-- A contract whose world only grew. -/
def Quiet (f : FuncId) (args : Array Value) (v : Value) : Prop := ∀ w, Calls Tryd.prog f args w fun e w' => e = .returned v ∧ Bel w w'

set_option maxHeartbeats 8000000 in
theorem decodeT_of (b0 b1 b2 b3 x0 x1 x2 x3 : Int) (err : Value) (h : Quiet 36 #[.agg #[.int .u8 b0, .int .u8 b1, .int .u8 b2, .int .u8 b3]] (.tuple #[.agg #[.int .u8 x0, .int .i64 x1, .int .i64 x2, .int .i16 x3], err])) :
    Quiet 21 #[.agg #[.int .u8 b0, .int .u8 b1, .int .u8 b2, .int .u8 b3]] (.tuple #[.agg #[.int .u8 x0, .int .i64 x1, .int .i64 x2, .int .i16 x3], err]) := by
  intro w
  have H := Lib.hid h
  clear h
  go_enter Tryd.func21, Tryd.ntmps21
  go_wp2_with fail
  refine (H.out _).mono ?_
  rintro e w' ⟨rfl, hb⟩
  have k : Blk w' (w.heap.size + 1) [.int .u8 0, .int .i64 0, .int .i64 0, .int .i16 0] 25 := (Blk.new_at _ [_, _, _, _] _ (by simp)).below hb (by simp)
  have kc := k.cell
  have kf := k.frozen
  clear k
  go_wp2
  refine bodyPost_ret (v := .tuple #[.agg #[.int .u8 x0, .int .i64 x1, .int .i64 x2, .int .i16 x3], err]) (by simp [results, Tryd.results21, go_sem, kc]) rfl ⟨rfl, ?_⟩
  exact (((((((Below.refl _ _).alloc (Nat.le_refl _) _).alloc (by simp) _).trans (hb.mono (by simp; omega))).setCell (by simp) _).setCell (by simp) _).setCell (by simp) _).setCell (by simp) _
set_option maxHeartbeats 8000000 in
theorem encodeT_of (op a b imm x0 x1 x2 x3 : Int) (err : Value) (h : Quiet 19 #[.agg #[.int .u8 op, .int .i64 a, .int .i64 b, .int .i16 imm]] (.tuple #[.agg #[.int .u8 x0, .int .u8 x1, .int .u8 x2, .int .u8 x3], err])) :
    Quiet 6 #[.agg #[.int .u8 op, .int .i64 a, .int .i64 b, .int .i16 imm]] (.tuple #[.agg #[.int .u8 x0, .int .u8 x1, .int .u8 x2, .int .u8 x3], err]) := by
  intro w
  have H := Lib.hid h
  clear h
  go_enter Tryd.func6, Tryd.ntmps6
  go_wp2_with fail
  refine (H.out _).mono ?_
  rintro e w' ⟨rfl, hb⟩
  have k : Blk w' (w.heap.size + 1) [.int .u8 0, .int .u8 0, .int .u8 0, .int .u8 0] 26 := (Blk.new_at _ [_, _, _, _] _ (by simp)).below hb (by simp)
  have kc := k.cell
  have kf := k.frozen
  clear k
  go_wp2
  refine bodyPost_ret (v := .tuple #[.agg #[.int .u8 x0, .int .u8 x1, .int .u8 x2, .int .u8 x3], err]) (by simp [results, Tryd.results6, go_sem, kc]) rfl ⟨rfl, ?_⟩
  exact (((((((Below.refl _ _).alloc (Nat.le_refl _) _).alloc (by simp) _).trans (hb.mono (by simp; omega))).setCell (by simp) _).setCell (by simp) _).setCell (by simp) _).setCell (by simp) _

set_option maxHeartbeats 8000000 in
theorem decodes_ok (b0 b1 b2 b3 : Int) (w : World) (h0 : 1 ≤ b0) (h1 : b0 ≤ 24) (ha0 : 0 ≤ b1) (ha1 : b1 ≤ 255) (hb0 : 0 ≤ b2) (hb1 : b2 ≤ 255) (hi0 : 0 ≤ b3) (hi1 : b3 ≤ 255) :
    Calls Tryd.prog 10 #[.agg #[.int .u8 b0, .int .u8 b1, .int .u8 b2, .int .u8 b3]] w fun e w' => e = .returned (.bool true) ∧ Bel w w' := by
  have hD := Lib.hid (decodeT_of b0 b1 b2 b3 _ _ _ _ _ (fun w => decodeM_ok b0 b1 b2 b3 w h0 h1 ha0 ha1 hb0 hb1 hi0 hi1))
  have hR := Lib.hid (show Quiet 22 _ (.tuple #[.agg #[.int .i64 b0, .int .i64 (b1 / 16), .int .i64 (b1 % 16), .int .i64 (IntKind.i16.wrap (b2 + b3 * 256))], .bool true]) from fun w => decodeR_ok b0 b1 b2 b3 w h0 h1 ha0 ha1 hb0 hb1 hi0 hi1)
  have hb := wrapD_bd (b2 + b3 * 256)
  obtain ⟨d, hd⟩ : ∃ d, d = IntKind.i16.wrap (b2 + b3 * 256) := ⟨_, rfl⟩
  rw [← hd] at hb hD hR
  clear hd
  go_enter Tryd.func10, Tryd.ntmps10
  go_wp2_with fail
  refine (hD.out _).mono ?_
  rintro e w1 ⟨rfl, k1⟩
  have B1 : Blk w1 w.heap.size [.int .u8 b0, .int .u8 b1, .int .u8 b2, .int .u8 b3] 26 := (Blk.new _ [_, _, _, _] _).below k1 (by simp)
  have l1 := B1.lt
  go_wp2_with fail
  refine (tell_nil _).mono ?_
  rintro e w2 ⟨rfl, k2⟩
  have B2 := (B1.alloc (.cells #[.int .u8 b0, .int .i64 (b1 / 16), .int .i64 (b1 % 16), .int .i16 d] 25)).below k2 (by simp; omega)
  have I2 : Blk w2 w1.heap.size [.int .u8 b0, .int .i64 (b1 / 16), .int .i64 (b1 % 16), .int .i16 d] 25 := (Blk.new _ [_, _, _, _] _).below k2 (by simp)
  have c2 := B2.cell
  go_wp2_with fail
  refine (hR.out _).mono ?_
  rintro e w3 ⟨rfl, k3⟩
  have I3 := I2.below k3 I2.lt
  have c3 := I3.cell
  have l3 := I3.lt
  clear c2
  go_wp2
  go_ret
  exact ⟨rfl, Bel.ac (((Bel.of_alloc k1).tr (Bel.of_alloc k2)).tr k3) _⟩
set_option maxHeartbeats 8000000 in
theorem decodes_bad (b0 b1 b2 b3 : Int) (w : World) (hg : ErrVar w) (h0 : 0 ≤ b0) (h1 : b0 ≤ 255) (h : b0 < 1 ∨ 24 < b0) :
    Calls Tryd.prog 10 #[.agg #[.int .u8 b0, .int .u8 b1, .int .u8 b2, .int .u8 b3]] w fun e w' => e = .returned (.bool true) ∧ Bel w w' := by
  have hD := Lib.hid (decodeT_of b0 b1 b2 b3 _ _ _ _ _ (fun w => decodeM_bad b0 b1 b2 b3 w h0 h1 h))
  have hR := Lib.hid (fun w => decodeR_bad b0 b1 b2 b3 w h)
  clear h h0 h1
  go_enter Tryd.func10, Tryd.ntmps10
  go_wp2_with fail
  refine (hD.out _).mono ?_
  rintro e w1 ⟨rfl, k1⟩
  have B1 : Blk w1 w.heap.size [.int .u8 b0, .int .u8 b1, .int .u8 b2, .int .u8 b3] 26 := (Blk.new _ [_, _, _, _] _).below k1 (by simp)
  have l1 := B1.lt
  have hg1 : ErrVar w1 := hg.bel (Bel.of_alloc k1)
  go_wp2_with fail
  refine (tell_hit _ _ 1 _ (asHit_errno 1 _) (hg1.bel (Bel.start _ _))).mono ?_
  rintro e w2 ⟨rfl, k2⟩
  have B2 := (B1.alloc (.cells #[.int .u8 0, .int .i64 0, .int .i64 0, .int .i16 0] 25)).below k2 (by simp; omega)
  have I2 : Blk w2 w1.heap.size [.int .u8 0, .int .i64 0, .int .i64 0, .int .i16 0] 25 := (Blk.new _ [_, _, _, _] _).below k2 (by simp)
  have c2 := B2.cell
  go_wp2_with fail
  refine (hR.out _).mono ?_
  rintro e w3 ⟨rfl, k3⟩
  have I3 := I2.below k3 I2.lt
  have c3 := I3.cell
  have l3 := I3.lt
  clear c2
  go_wp2
  go_ret
  exact ⟨rfl, Bel.ac (((Bel.of_alloc k1).tr (Bel.of_alloc k2)).tr k3) _⟩

def IsByte (b : Int) : Prop := 0 ≤ b ∧ b ≤ 255
theorem decodes_any (b0 b1 b2 b3 : Int) (w : World) (hg : ErrVar w) (h0 : IsByte b0) (h1 : IsByte b1) (h2 : IsByte b2) (h3 : IsByte b3) :
    Calls Tryd.prog 10 #[.agg #[.int .u8 b0, .int .u8 b1, .int .u8 b2, .int .u8 b3]] w fun e w' => e = .returned (.bool true) ∧ Bel w w' := by
  obtain ⟨h0, h0'⟩ := h0
  by_cases h : b0 < 1 ∨ 24 < b0
  · exact decodes_bad b0 b1 b2 b3 w hg h0 h0' h
  · exact decodes_ok b0 b1 b2 b3 w (by omega) (by omega) h1.1 h1.2 h2.1 h2.2 h3.1 h3.2

set_option maxHeartbeats 8000000 in
theorem codes_walk (op a b imm b0 b1 b2 b3 x0 x1 x2 x3 n : Int) (err : Value) (w : World) (hg : ErrVar w) (i0 : -32768 ≤ imm) (i1 : imm ≤ 32767) (o0 : 0 ≤ op) (o1 : op ≤ 255) (h0 : IsByte b0) (h1 : IsByte b1) (h2 : IsByte b2) (h3 : IsByte b3)
    (y0 : IsByte x0) (y1 : IsByte x1) (y2 : IsByte x2) (y3 : IsByte x3)
    (hM : Quiet 19 #[.agg #[.int .u8 op, .int .i64 a, .int .i64 b, .int .i16 imm]] (.tuple #[.agg #[.int .u8 x0, .int .u8 x1, .int .u8 x2, .int .u8 x3], err]))
    (hR : Quiet 8 #[.agg #[.int .i64 op, .int .i64 a, .int .i64 b, .int .i64 imm]] (.tuple #[.agg #[.int .u8 x0, .int .u8 x1, .int .u8 x2, .int .u8 x3], .int .i64 n]))
    (hT : ∀ w, ErrVar w → Calls Tryd.prog 7 #[err] w fun e w' => e = .returned (.int .i64 n) ∧ Bel w w') :
    Calls Tryd.prog 3 #[.agg #[.int .u8 op, .int .i64 a, .int .i64 b, .int .i16 imm], .agg #[.int .u8 b0, .int .u8 b1, .int .u8 b2, .int .u8 b3]] w fun e w' => e = .returned (.bool true) ∧ Bel w w' := by
  have hE := Lib.hid (encodeT_of op a b imm x0 x1 x2 x3 err hM)
  have HR := Lib.hid hR
  have HT := Lib.hid hT
  clear hM hR hT
  have hq : ∀ w, (binOp .neq 26 (.agg #[.int .u8 x0, .int .u8 x1, .int .u8 x2, .int .u8 x3]) (.agg #[.int .u8 x0, .int .u8 x1, .int .u8 x2, .int .u8 x3])).run Tryd.prog w = .ok (.bool false) w := by
    intro w
    obtain ⟨i, hi⟩ : ∃ i, Tryd.prog.info? 5 = some i := Option.isSome_iff_exists.1 (by kernel_rfl)
    have := run_neq_arr (n := 4) (w := w) Tryd.underlying26 Tryd.underlying5 hi (by kernel_rfl) [x0, x1, x2, x3] [x0, x1, x2, x3] rfl rfl
    simpa using this
  go_enter Tryd.func3, Tryd.ntmps3
  go_wp2_with fail
  refine (hE.out _).mono ?_
  rintro e w1 ⟨rfl, k1⟩
  have q1 := Bel.of_alloc (Bel.of_alloc k1)
  have A1 : Blk w1 w.heap.size [.int .u8 op, .int .i64 a, .int .i64 b, .int .i16 imm] 25 := ((Blk.new _ [_, _, _, _] _).alloc _).below k1 (by simp; omega)
  have B1 : Blk w1 (w.heap.size + 1) [.int .u8 b0, .int .u8 b1, .int .u8 b2, .int .u8 b3] 26 := (Blk.new_at _ [_, _, _, _] _ (by simp)).below k1 (by simp)
  have l1 := B1.lt
  have hg1 : ErrVar w1 := hg.bel q1
  go_wp2_with fail
  refine (HT.out _ (hg1.bel (Bel.start _ _))).mono ?_
  rintro e w2 ⟨rfl, k2⟩
  have q2 := q1.tr (Bel.of_alloc k2)
  have A2 := (A1.alloc (.cells #[.int .u8 x0, .int .u8 x1, .int .u8 x2, .int .u8 x3] 26)).below k2 (by simp; omega)
  have B2 := (B1.alloc (.cells #[.int .u8 x0, .int .u8 x1, .int .u8 x2, .int .u8 x3] 26)).below k2 (by simp; omega)
  have X2 : Blk w2 w1.heap.size [.int .u8 x0, .int .u8 x1, .int .u8 x2, .int .u8 x3] 26 := (Blk.new _ [_, _, _, _] _).below k2 (by simp)
  have ca2 := A2.cell
  have l2 := X2.lt
  go_wp2_with fail
  refine (HR.out _).mono ?_
  rintro e w3 ⟨rfl, k3⟩
  have q3 := q2.tr (Bel.of_alloc k3)
  have l3 := k3.size
  simp only [World.size_alloc] at l3
  have B3 := (B2.alloc (.cells #[.int .i64 op, .int .i64 a, .int .i64 b, .int .i64 imm] 34)).below k3 (by simp; omega)
  have X3 := (X2.alloc (.cells #[.int .i64 op, .int .i64 a, .int .i64 b, .int .i64 imm] 34)).below k3 (by simp; omega)
  have cx3 := X3.cell
  have cb3 := B3.cell
  have mx3 := X3.lt
  have mb3 := B3.lt
  clear ca2
  have hg3 : ErrVar w3 := hg.bel q3
  go_wp2_with (go_at_call 9; go_in)
  refine (decodes_any _ _ _ _ _ (hg3.bel (Bel.start _ _)) h0 h1 h2 h3).mono ?_
  rintro e w4 ⟨rfl, k4⟩
  have q4 := q3.tr (Bel.of_alloc k4)
  have l4 := k4.size
  simp only [World.size_alloc] at l4
  have X4 := (X3.alloc (.cells #[.int .u8 x0, .int .u8 x1, .int .u8 x2, .int .u8 x3] 26)).below k4 (by simp; omega)
  have cx4 := X4.cell
  clear cx3 cb3
  go_wp2_with fail
  refine (decodes_any _ _ _ _ _ (hg.bel q4) y0 y1 y2 y3).mono ?_
  rintro e w5 ⟨rfl, k5⟩
  clear cx4
  go_wp2
  go_ret
  exact ⟨rfl, q4.tr k5⟩

theorem codes_any (op a b imm b0 b1 b2 b3 : Int) (w : World) (hg : ErrVar w) (i0 : -32768 ≤ imm) (i1 : imm ≤ 32767) (o0 : 0 ≤ op) (o1 : op ≤ 255) (h0 : IsByte b0) (h1 : IsByte b1) (h2 : IsByte b2) (h3 : IsByte b3) :
    Calls Tryd.prog 3 #[.agg #[.int .u8 op, .int .i64 a, .int .i64 b, .int .i16 imm], .agg #[.int .u8 b0, .int .u8 b1, .int .u8 b2, .int .u8 b3]] w fun e w' => e = .returned (.bool true) ∧ Bel w w' := by
  by_cases h : encBad op a b
  · exact codes_walk op a b imm b0 b1 b2 b3 0 0 0 0 1 (errV 1) w hg i0 i1 o0 o1 h0 h1 h2 h3 ⟨by decide, by decide⟩ ⟨by decide, by decide⟩ ⟨by decide, by decide⟩ ⟨by decide, by decide⟩ (fun w => encodeM_bad op a b imm w h o0 o1) (fun w => encodeR_bad op a b imm w h) (fun w hw => tell_hit _ _ 1 w (asHit_errno 1 _) hw)
  · unfold encBad at h
    exact codes_walk op a b imm b0 b1 b2 b3 op (a * 16 + b) (imm % 256) (imm / 256 % 256) 0 .nilIface w hg i0 i1 o0 o1 h0 h1 h2 h3 ⟨o0, o1⟩ ⟨by omega, by omega⟩ ⟨by omega, by omega⟩ ⟨by omega, by omega⟩
      (fun w => encodeM_ok op a b imm w (by omega) (by omega) (by omega) (by omega) (by omega) (by omega) i0 i1) (fun w => encodeR_ok op a b imm w (by omega) (by omega) (by omega) (by omega) (by omega) (by omega) i0 i1) (fun w _ => tell_nil w)
end Go.Proofs.YtologfdegdljeaaDoor
