/- Bits of numbers: what the program's shifts come to. No program in sight. -/
import Derived.Laws.Bits64
import Derived.Laws.Bits64b
import Derived.Test.YtiklpifaaogcpaaWr
namespace Go.Wr
open Go
theorem w_u64 (n : Int) : IntKind.u64.wrap n = n % 18446744073709551616 := by simp [IntKind.wrap, IntKind.bits, IntKind.signed]
theorem w_u8 (n : Int) : IntKind.u8.wrap n = n % 256 := by simp [IntKind.wrap, IntKind.bits, IntKind.signed]
theorem w_i64 (n : Int) : IntKind.i64.wrap n = if n % 18446744073709551616 ≥ 9223372036854775808 then n % 18446744073709551616 - 18446744073709551616 else n % 18446744073709551616 := by
  simp [IntKind.wrap, IntKind.bits, IntKind.signed]
theorem u64_all (x : Nat) (h : x < 18446744073709551616) : bits .xor .u64 IntKind.u64.max (x : Int) = ((18446744073709551615 - x : Nat) : Int) := by
  have hm : BitVec.ofInt 64 IntKind.u64.max = BitVec.allOnes 64 := by decide
  have h1 : (BitVec.ofInt 64 (x : Int)).toNat = x := by
    rw [BitVec.ofInt_natCast, BitVec.toNat_ofNat]; exact Nat.mod_eq_of_lt (by omega)
  show IntKind.u64.wrap ((BitVec.ofInt 64 IntKind.u64.max ^^^ BitVec.ofInt 64 (x : Int)).toNat : Int) = _
  rw [hm, BitVec.allOnes_xor, BitVec.toNat_not, h1, w_u64]
  omega
theorem sh_pos {n : Int} (h0 : 0 ≤ n) (h : n ≤ 9223372036854775807) : IntKind.u64.wrap (IntKind.u64.wrap n * 2) = (zz n : Int) := by
  rw [w_u64, w_u64, zz, if_pos h0]
  omega
theorem sh_neg {n : Int} (h0 : n < 0) (h : -9223372036854775808 ≤ n) : bits .xor .u64 IntKind.u64.max (IntKind.u64.wrap (IntKind.u64.wrap n * 2)) = (zz n : Int) := by
  have e : IntKind.u64.wrap (IntKind.u64.wrap n * 2) = (((2 * n + 18446744073709551616).toNat : Nat) : Int) := by
    rw [w_u64, w_u64]
    omega
  rw [e, u64_all _ (by omega), zz, if_neg (by omega)]
  omega
theorem or8 : (List.range 256).all (fun x => bits .or .u8 (x : Int) 128 == ((128 + x % 128 : Nat) : Int)) = true := by decide +kernel
theorem or_128 (x : Nat) (h : x < 256) : bits .or .u8 (x : Int) 128 = ((128 + x % 128 : Nat) : Int) := by
  have := List.all_eq_true.1 or8 x (List.mem_range.2 h)
  simpa using this
theorem and8 : (List.range 256).all (fun x => bits .and .u8 (x : Int) 127 == ((x % 128 : Nat) : Int)) = true := by decide +kernel
theorem and_127 (x : Nat) (h : x < 256) : bits .and .u8 (x : Int) 127 = ((x % 128 : Nat) : Int) := by
  have := List.all_eq_true.1 and8 x (List.mem_range.2 h)
  simpa using this
theorem and_1 (u : Nat) (h : u < 18446744073709551616) : bits .and .u64 (u : Int) 1 = ((u % 2 : Nat) : Int) := by
  have := bits_and_u64_nat u 1 h (by decide)
  rw [Nat.and_one_is_mod] at this
  exact this
theorem and_i1 (n : Int) : bits .and .i64 n 1 = n % 2 := by
  show IntKind.i64.wrap ((BitVec.ofInt 64 n &&& BitVec.ofInt 64 1).toNat : Int) = _
  rw [BitVec.toNat_and]
  have e1 : (BitVec.ofInt 64 1).toNat = 1 := by decide
  rw [e1, Nat.and_one_is_mod, BitVec.toNat_ofInt, w_i64]
  omega
theorem or_sh (u x i : Nat) (hu : u < 128 ^ i) (hx : x < 128) (hi : i ≤ 9) (h9 : i = 9 → x ≤ 1) :
    bits .or .u64 (u : Int) (IntKind.u64.wrap ((x : Int) * 2 ^ (7 * i))) = ((u + 128 ^ i * x : Nat) : Int) ∧ u + 128 ^ i * x < 18446744073709551616 := by
  have hp : (128 : Nat) ^ i = 2 ^ (7 * i) := by rw [Nat.pow_mul]
  have hle : 128 ^ i * (x + 1) ≤ 18446744073709551616 := by
    by_cases h : i = 9
    · subst h
      exact Nat.le_trans (Nat.mul_le_mul_left _ (show x + 1 ≤ 2 by have := h9 rfl; omega)) (by decide)
    · exact Nat.le_trans (Nat.mul_le_mul (Nat.pow_le_pow_right (by decide) (show i ≤ 8 by omega)) (show x + 1 ≤ 128 by omega)) (by decide)
  rw [Nat.mul_succ] at hle
  have e : IntKind.u64.wrap ((x : Int) * 2 ^ (7 * i)) = ((128 ^ i * x : Nat) : Int) := by
    rw [w_u64, show (x : Int) * 2 ^ (7 * i) = ((128 ^ i * x : Nat) : Int) by rw [hp]; push_cast; rw [Int.mul_comm]]
    have hpos : 0 < 128 ^ i := Nat.pow_pos (by decide)
    omega
  have hpos : 0 < 128 ^ i := Nat.pow_pos (by decide)
  refine ⟨?_, by omega⟩
  rw [e, bits_or_u64_nat _ _ (by omega) (by omega)]
  congr 1
  rw [hp] at hu ⊢
  rw [Nat.mul_comm, ← Nat.shiftLeft_eq, Nat.or_comm, ← Nat.shiftLeft_add_eq_or_of_lt hu, Nat.add_comm]
theorem bits_xor_i64_0 (a : Nat) (h : a < 9223372036854775808) : bits .xor .i64 (a : Int) 0 = a := by
  show IntKind.i64.wrap ((BitVec.ofInt 64 (a : Int) ^^^ BitVec.ofInt 64 0).toNat : Int) = _
  have e0 : BitVec.ofInt 64 0 = 0#64 := by decide
  rw [e0, BitVec.xor_zero, BitVec.ofInt_natCast, BitVec.toNat_ofNat, w_i64]
  omega
theorem bits_xor_i64_1 (a : Nat) (h : a < 9223372036854775808) : bits .xor .i64 (a : Int) (-1) = -(a : Int) - 1 := by
  show IntKind.i64.wrap ((BitVec.ofInt 64 (a : Int) ^^^ BitVec.ofInt 64 (-1)).toNat : Int) = _
  have e0 : BitVec.ofInt 64 (-1) = BitVec.allOnes 64 := by decide
  rw [e0, BitVec.xor_allOnes, BitVec.toNat_not, BitVec.ofInt_natCast, BitVec.toNat_ofNat, w_i64]
  omega
theorem un_zz (u : Nat) (h : u < 18446744073709551616) : bits .xor .i64 ((u / 2 : Nat) : Int) (-((u % 2 : Nat) : Int)) = uz u := by
  unfold uz
  rcases (by omega : u % 2 = 0 ∨ u % 2 = 1) with e | e
  · rw [e, if_pos rfl]; exact bits_xor_i64_0 _ (by omega)
  · rw [e, if_neg (by decide)]; exact bits_xor_i64_1 _ (by omega)
end Go.Wr
