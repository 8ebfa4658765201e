/- What CheckOf returns, in the program and in the reference: the 16-bit check of a string of at most 2^47 bytes. -/
import Derived.Test.YtnelfadmcpacbaaBase
namespace Go.Proofs.Ytnelfadmcpacbaa
open Go.RowKit Sat

theorem nat64 (n : Int) (h0 : 0 ≤ n) (h1 : n < 2 ^ 63) : IntKind.i64.wrap n = n := by rw [IntKind.wrap_i64]; omega
theorem xor64 (a b : Nat) (ha : a < 9223372036854775808) (hb : b < 9223372036854775808) : bits .xor .i64 (a : Int) (b : Int) = ((a ^^^ b : Nat) : Int) := by
  have hx : a ^^^ b < 2 ^ 63 := Nat.xor_lt_two_pow (by omega) (by omega)
  have h1 : (BitVec.ofInt 64 (a : Int)).toNat = a := by
    rw [BitVec.ofInt_natCast, BitVec.toNat_ofNat]; exact Nat.mod_eq_of_lt (by omega)
  have h2 : (BitVec.ofInt 64 (b : Int)).toNat = b := by
    rw [BitVec.ofInt_natCast, BitVec.toNat_ofNat]; exact Nat.mod_eq_of_lt (by omega)
  show IntKind.i64.wrap ((BitVec.ofInt 64 (a : Int) ^^^ BitVec.ofInt 64 (b : Int)).toNat : Int) = _
  rw [BitVec.toNat_xor, h1, h2]
  exact nat64 _ (by omega) (by omega)
theorem or64 (a b : Nat) (ha : a < 9223372036854775808) (hb : b < 9223372036854775808) : bits .or .i64 (a : Int) (b : Int) = ((a ||| b : Nat) : Int) :=
  (bits_nat .i64 63 (by decide) nat64 a b ha hb).2
theorem and64 (a b : Nat) (ha : a < 9223372036854775808) (hb : b < 9223372036854775808) : bits .and .i64 (a : Int) (b : Int) = ((a &&& b : Nat) : Int) :=
  (bits_nat .i64 63 (by decide) nat64 a b ha hb).1
theorem bit15 (x : Nat) (hx : x < 65536) : bits .and .i64 (x : Int) 32768 = ((x / 32768 % 2 * 32768 : Nat) : Int) := by
  have := and64 x 32768 (by omega) (by omega)
  rw [nat_bit15 x] at this
  exact this
theorem crcBit_one {x : Nat} (h : x / 32768 % 2 = 1) : crcBit x = 2 * x % 65536 ^^^ 4129 := by unfold crcBit; rw [if_pos h]
theorem crcBit_none {x : Nat} (h : ¬ x / 32768 % 2 = 1) : crcBit x = 2 * x := by unfold crcBit; rw [if_neg h]
theorem take_one (s : ByteArray) (i : Nat) (h : i < s.size) : s.data.toList.take (i + 1) = s.data.toList.take i ++ [s[i]] := by
  rw [List.take_succ_eq_append_getElem (by simpa using h)]; rfl

theorem mask16d (x : Nat) (hx : x < 9223372036854775808) : bits .and .i64 (x : Int) 65535 = (x : Int) % 65536 :=
  bits_mask .i64 63 (by decide) (fun n h0 h1 => by rw [IntKind.wrap_i64]; omega) 16 (by decide) x (by omega) (by omega)
set_option maxHeartbeats 800000 in
theorem i_CheckOf (s : ByteArray) (w : World) (hs : s.size ≤ 140737488355328) :
    Calls Try.prog 51 #[.string s] w fun e w' => e = .returned (.int .i64 (crc s.data.toList)) ∧ w = w' := by
  go_enter Try.func51, Try.ntmps51
  go_wp2
  go_loop [3, 4] (fun v iv => ∃ i : Nat, i ≤ s.size ∧ iv = .int .i64 i ∧ v = .int .i64 (crc (s.data.toList.take i))) (fun _ iv => s.size - (intOf iv).toNat)
  case atStart => exact ⟨0, Nat.zero_le _, rfl, rfl⟩
  case round =>
    obtain ⟨i, hi, rfl, rfl⟩ := hrel
    have hlt := crc_lt (s.data.toList.take i)
    by_cases hin : i < s.size
    · have hby : (s[i]'hin).toNat < 256 := UInt8.toNat_lt _
      have hx0 := hide (xor64 (crc (s.data.toList.take i)) (256 * (s[i]'hin).toNat) (by omega) (by omega))
      have hsn := hide (crc_snoc (s.data.toList.take i) (s[i]'hin))
      have htk := hide (take_one s i hin)
      have hb0 : crc (s.data.toList.take i) ^^^ (256 * (s[i]'hin).toNat) < 65536 := xor_lt16 hlt (by omega)
      go_wp2
      go_loop [3, 5] (fun v kv => ∃ k : Nat, k ≤ 8 ∧ kv = .int .i64 k ∧ v = .int .i64 (crcBits k (crc (s.data.toList.take i) ^^^ (256 * (s[i]'hin).toNat)))) (fun _ kv => 8 - (intOf kv).toNat)
      case atStart => exact ⟨0, Nat.zero_le _, rfl, by have := hx0.out; simp only [Int.natCast_mul] at this; exact congrArg _ this⟩
      case round =>
        obtain ⟨k, hk, rfl, rfl⟩ := hrel
        have hb := crcBits_lt k hb0
        obtain ⟨x, hx⟩ : ∃ x, x = crcBits k (crc (s.data.toList.take i) ^^^ (256 * (s[i]'hin).toNat)) := ⟨_, rfl⟩
        rw [← hx]
        rw [← hx] at hb
        have HX := hide hx
        clear hx
        by_cases hk8 : k < 8
        · have e15 := bit15 x hb
          by_cases hbit : x / 32768 % 2 = 1
          · have hd : (bits .and .i64 (x : Int) 32768 != 0) = true := by rw [e15, hbit]; decide
            have hc := hide (crcBit_one hbit)
            have hxr := hide (xor64 (2 * x % 65536) 4129 (by omega) (by omega))
            clear e15
            go_wp2
            go_round
            case rel =>
              refine ⟨k + 1, by omega, by go_num, ?_⟩
              rw [crcBits, ← HX.out, hc.out]
              have := hxr.out
              simp only [Int.natCast_emod, Int.natCast_mul] at this
              exact congrArg _ this
            case measure => simp [intOf]; omega
          · have hd : (bits .and .i64 (x : Int) 32768 != 0) = false := by rw [e15, show x / 32768 % 2 = 0 by omega]; decide
            have hc := hide (crcBit_none hbit)
            clear e15
            go_wp2
            go_round
            case rel =>
              refine ⟨k + 1, by omega, by go_num, ?_⟩
              rw [crcBits, ← HX.out, hc.out]
              go_num
            case measure => simp [intOf]; omega
        · obtain rfl : k = 8 := by omega
          go_wp2
          go_round
          case rel =>
            refine ⟨i + 1, by omega, by go_num, ?_⟩
            rw [htk.out, hsn.out, HX.out]
            rfl
          case measure => simp [intOf]; omega
    · obtain rfl : i = s.size := by omega
      go_wp2
      go_ret
      exact ⟨ret_int (by rw [List.take_of_length_le (by simp)]), rfl⟩
end Go.Proofs.Ytnelfadmcpacbaa
