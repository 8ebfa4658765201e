/- What CheckOf returns, in the program and in the reference: the 16-bit check of a string of at most 2^47 bytes. -/
import Derived.Test.YtimkjhjdddllcaaBase
namespace Go.Proofs.Ytimkjhjdddllcaa
open Go.RowKit Sat

theorem nat64 (n : Int) (h0 : 0 ≤ n) (h1 : n < 2 ^ 63) : IntKind.i64.wrap n = n := by rw [IntKind.wrap_i64]; omega
theorem xor64 (a b : Nat) (ha : a < 9223372036854775808) (hb : b < 9223372036854775808) : bits .xor .i64 (a : Int) (b : Int) = ((a ^^^ b : Nat) : Int) := by
  have hx : a ^^^ b < 2 ^ 63 := Nat.xor_lt_two_pow (by omega) (by omega)
  have h1 : (BitVec.ofInt 64 (a : Int)).toNat = a := by
    rw [BitVec.ofInt_natCast, BitVec.toNat_ofNat]; exact Nat.mod_eq_of_lt (by omega)
  have h2 : (BitVec.ofInt 64 (b : Int)).toNat = b := by
    rw [BitVec.ofInt_natCast, BitVec.toNat_ofNat]; exact Nat.mod_eq_of_lt (by omega)
  show IntKind.i64.wrap ((BitVec.ofInt 64 (a : Int) ^^^ BitVec.ofInt 64 (b : Int)).toNat : Int) = _
  rw [BitVec.toNat_xor, h1, h2]
  exact nat64 _ (by omega) (by omega)
theorem or64 (a b : Nat) (ha : a < 9223372036854775808) (hb : b < 9223372036854775808) : bits .or .i64 (a : Int) (b : Int) = ((a ||| b : Nat) : Int) :=
  (bits_nat .i64 63 (by decide) nat64 a b ha hb).2
theorem and64 (a b : Nat) (ha : a < 9223372036854775808) (hb : b < 9223372036854775808) : bits .and .i64 (a : Int) (b : Int) = ((a &&& b : Nat) : Int) :=
  (bits_nat .i64 63 (by decide) nat64 a b ha hb).1
theorem bit15 (x : Nat) (hx : x < 65536) : bits .and .i64 (x : Int) 32768 = ((x / 32768 % 2 * 32768 : Nat) : Int) := by
  have := and64 x 32768 (by omega) (by omega)
  rw [nat_bit15 x] at this
  exact this
theorem crcBit_one {x : Nat} (h : x / 32768 % 2 = 1) : crcBit x = 2 * x % 65536 ^^^ 4129 := by unfold crcBit; rw [if_pos h]
theorem crcBit_none {x : Nat} (h : ¬ x / 32768 % 2 = 1) : crcBit x = 2 * x := by unfold crcBit; rw [if_neg h]
theorem take_one (s : ByteArray) (i : Nat) (h : i < s.size) : s.data.toList.take (i + 1) = s.data.toList.take i ++ [s[i]] := by
  rw [List.take_succ_eq_append_getElem (by simpa using h)]; rfl

theorem mask16d (x : Nat) (hx : x < 9223372036854775808) : bits .and .i64 (x : Int) 65535 = (x : Int) % 65536 :=
  bits_mask .i64 63 (by decide) (fun n h0 h1 => by rw [IntKind.wrap_i64]; omega) 16 (by decide) x (by omega) (by omega)
end Go.Proofs.Ytimkjhjdddllcaa
