/- Plain arithmetic on bytes; no program. -/
import Derived.WalkKit
import Derived.Lib.EndianBits
namespace Go.Proofs.YtologfdegdljeaaDoor
open Go.RowKit

theorem wrap_i16 (n : Int) : IntKind.i16.wrap n = (n + 32768) % 65536 - 32768 := by
  simp [IntKind.wrap, IntKind.bits, IntKind.signed]
  split <;> omega
theorem ofInt_congr {k : Nat} (m n : Int) (h : m % ((2 ^ k : Nat) : Int) = n % ((2 ^ k : Nat) : Int)) : BitVec.ofInt k m = BitVec.ofInt k n := by
  apply BitVec.eq_of_toNat_eq
  rw [BitVec.toNat_ofInt, BitVec.toNat_ofInt, h]
theorem i16_join (x y : Int) (h0 : 0 ≤ x) (h1 : x ≤ 255) (h2 : 0 ≤ y) (h3 : y ≤ 255) : bits .or .i16 x (IntKind.i16.wrap (y * 256)) = IntKind.i16.wrap (x + y * 256) := by
  obtain ⟨a, rfl⟩ := Int.eq_ofNat_of_zero_le h0
  obtain ⟨b, rfl⟩ := Int.eq_ofNat_of_zero_le h2
  have hb16 : 2 ^ IntKind.i16.bits = 65536 := rfl
  have e : BitVec.ofInt IntKind.i16.bits (IntKind.i16.wrap ((b : Int) * 256)) = BitVec.ofInt IntKind.i16.bits (((b * 256 : Nat)) : Int) := by
    apply ofInt_congr
    rw [wrap_i16, hb16]
    omega
  have ha : a < 2 ^ 8 := by omega
  have hj := Nat.two_pow_add_eq_or_of_lt ha b
  show IntKind.i16.wrap (((BitVec.ofInt IntKind.i16.bits (a : Int) ||| BitVec.ofInt IntKind.i16.bits (IntKind.i16.wrap ((b : Int) * 256))).toNat : Nat) : Int) = _
  rw [e]
  rw [BitVec.ofInt_natCast, BitVec.ofInt_natCast, BitVec.toNat_or, BitVec.toNat_ofNat, BitVec.toNat_ofNat, hb16]
  rw [Nat.mod_eq_of_lt (by omega : a < 65536), Nat.mod_eq_of_lt (by omega : b * 256 < 65536), Nat.or_comm, Nat.mul_comm b 256, show (256 : Nat) = 2 ^ 8 from rfl, ← hj]
  exact congrArg IntKind.i16.wrap (by omega)
theorem or_ab (a b : Int) (ha0 : 0 ≤ a) (ha1 : a ≤ 15) (hb0 : 0 ≤ b) (hb1 : b ≤ 15) : bits .or .i64 (a * 16) b = a * 16 + b :=
  bits_join .i64 63 (by decide) (fun n h0 h1 => by rw [IntKind.wrap_i64]; omega) 4 (a * 16) b (by omega) (by omega) (by omega) hb0 (by omega) (by omega)
end Go.Proofs.YtologfdegdljeaaDoor
