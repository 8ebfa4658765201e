/- What CountOnes returns, in the program and in the reference: the number of bits 1 of a number from 0 to 2^32 - 1, else -1; and math/bits.OnesCount64, OnesCount below 2^32. -/
import Derived.Test.YtimkjhjdddllcaaWordD
import Derived.Test.YtimkjhjdddllcaaPlOnes
namespace Go.Proofs.Ytimkjhjdddllcaa
open Go.RowKit Sat

def onesI (n : Int) : Int := if 0 ≤ n ∧ n ≤ 4294967295 then (ones 32 n.toNat : Int) else -1
theorem onesI_yes {n : Nat} (h : n ≤ 4294967295) : onesI n = (ones 32 n : Int) := by unfold onesI; rw [if_pos (by omega), Int.toNat_natCast]
theorem onesI_no {n : Int} (h : n < 0 ∨ 4294967295 < n) : onesI n = -1 := by unfold onesI; rw [if_neg (by omega)]
theorem ones_le (f : Nat) : ∀ n, ones f n ≤ f := by
  induction f with
  | zero => intro n; simp [ones]
  | succ f ih => intro n; rw [ones]; have := ih (n / 2); omega
theorem andu (a b : Nat) (ha : a < 18446744073709551616) (hb : b < 18446744073709551616) : bits .and .u64 (a : Int) (b : Int) = ((a &&& b : Nat) : Int) := bits_and_u64_nat a b ha hb
theorem and_le_left' (a b : Nat) : a &&& b ≤ b := Nat.and_le_right
theorem mask7 (x : Nat) (hx : x < 9223372036854775808) : bits .and .i64 (x : Int) 127 = ((x % 128 : Nat) : Int) := by
  have := bits_mask .i64 63 (by decide) (fun n h0 h1 => by rw [IntKind.wrap_i64]; omega) 7 (by decide) (x : Int) (by omega) (by omega)
  simpa using this
theorem stA (x : Nat) (hx : x < 4294967296) : IntKind.u64.wrap (bits .and .u64 ((x : Int) / 2) 6148914691236517205 + bits .and .u64 (x : Int) 6148914691236517205) = (f1 6148914691236517205 x : Int) := by
  have e1 : (x : Int) / 2 = ((x / 2 : Nat) : Int) := by simp
  have h1 := andu (x / 2) 6148914691236517205 (by omega) (by decide)
  have h2 := andu x 6148914691236517205 (by omega) (by decide)
  have g1 : x / 2 &&& 6148914691236517205 ≤ x / 2 := Nat.and_le_left
  have g2 : x &&& 6148914691236517205 ≤ x := Nat.and_le_left
  rw [e1, show (6148914691236517205 : Int) = ((6148914691236517205 : Nat) : Int) from rfl, h1, h2, IntKind.wrap_u64]
  unfold f1
  omega
theorem stB (x : Nat) (hx : x < 8589934592) : IntKind.u64.wrap (bits .and .u64 ((x : Int) / 4) 3689348814741910323 + bits .and .u64 (x : Int) 3689348814741910323) = (f2 3689348814741910323 x : Int) := by
  have e1 : (x : Int) / 4 = ((x / 4 : Nat) : Int) := by simp
  have h1 := andu (x / 4) 3689348814741910323 (by omega) (by decide)
  have h2 := andu x 3689348814741910323 (by omega) (by decide)
  have g1 : x / 4 &&& 3689348814741910323 ≤ x / 4 := Nat.and_le_left
  have g2 : x &&& 3689348814741910323 ≤ x := Nat.and_le_left
  rw [e1, show (3689348814741910323 : Int) = ((3689348814741910323 : Nat) : Int) from rfl, h1, h2, IntKind.wrap_u64]
  unfold f2
  omega
theorem stC (x : Nat) (hx : x < 17179869184) : bits .and .u64 (IntKind.u64.wrap ((x : Int) / 16 + (x : Int))) 1085102592571150095 = (f3 1085102592571150095 x : Int) := by
  have e1 : IntKind.u64.wrap ((x : Int) / 16 + (x : Int)) = ((x / 16 + x : Nat) : Int) := by rw [IntKind.wrap_u64]; omega
  have h1 := andu (x / 16 + x) 1085102592571150095 (by omega) (by decide)
  rw [e1, show (1085102592571150095 : Int) = ((1085102592571150095 : Nat) : Int) from rfl, h1]
  rfl
theorem stD (x : Nat) (hx : x < 34359738368) : IntKind.u64.wrap ((x : Int) + (x : Int) / 256) = ((x + x / 256 : Nat) : Int) := by rw [IntKind.wrap_u64]; omega
theorem stE (x : Nat) (hx : x < 68719476736) : IntKind.u64.wrap ((x : Int) + (x : Int) / 65536) = ((x + x / 65536 : Nat) : Int) := by rw [IntKind.wrap_u64]; omega
theorem stF (x : Nat) (hx : x < 137438953472) : IntKind.u64.wrap ((x : Int) + (x : Int) / 4294967296) = ((x + x / 4294967296 : Nat) : Int) := by rw [IntKind.wrap_u64]; omega
theorem stG (x : Nat) (hx : x < 274877906944) : wrap64 (x : Int) = (x : Int) := by unfold wrap64; omega
set_option maxHeartbeats 400000 in
theorem b_OnesCount64 (x : Nat) (w : World) (hx : x < 4294967296) :
    Calls Try.prog 61 #[.int .u64 x] w fun e w' => e = .returned (.int .i64 (ones 32 x)) ∧ w = w' := by
  have k1 : f1 6148914691236517205 x < 8589934592 := by
    have g1 : x / 2 &&& 6148914691236517205 ≤ x / 2 := Nat.and_le_left
    have g2 : x &&& 6148914691236517205 ≤ x := Nat.and_le_left
    unfold f1; omega
  have k2 : f2 3689348814741910323 (f1 6148914691236517205 x) < 17179869184 := by
    generalize f1 6148914691236517205 x = y at *
    have g1 : y / 4 &&& 3689348814741910323 ≤ y / 4 := Nat.and_le_left
    have g2 : y &&& 3689348814741910323 ≤ y := Nat.and_le_left
    unfold f2; omega
  have k3 : f3 1085102592571150095 (f2 3689348814741910323 (f1 6148914691236517205 x)) < 34359738368 := by
    generalize f2 3689348814741910323 (f1 6148914691236517205 x) = y at *
    have g1 : y / 16 + y &&& 1085102592571150095 ≤ y / 16 + y := Nat.and_le_left
    unfold f3; omega
  have hfin := hide (swar_eq x hx)
  have hA := hide (stA x hx)
  have hB := hide (stB _ k1)
  have hC := hide (stC _ k2)
  have K3 := hide k3
  clear k1 k2 k3
  go_enter Try.func61, Try.ntmps61
  go_wp2
  go_ret
  refine ⟨ret_int ?_, rfl⟩
  rw [← hfin.out]
  simp only [hA.out, hB.out, hC.out]
  unfold swar fs
  simp only
  have k3 := K3.out
  generalize f3 1085102592571150095 (f2 3689348814741910323 (f1 6148914691236517205 x)) = c at *
  rw [stD c (by omega)]
  generalize hd : c + c / 256 = d
  rw [stE d (by omega)]
  generalize he : d + d / 65536 = e
  rw [stF e (by omega), stG _ (by omega), mask7 _ (by omega)]
set_option maxHeartbeats 400000 in
theorem i_CountOnes (n : Int) (w : World) :
    Calls Try.prog 58 #[.int .i64 n] w fun e w' => e = .returned (.int .i64 (onesI n)) ∧ w = w' := by
  by_cases h : n < 0 ∨ 4294967295 < n
  · have H := hide (onesI_no h)
    rcases (show n < 0 ∨ (0 ≤ n ∧ 4294967295 < n) by omega) with h1 | ⟨h1, h2⟩
    all_goals
      clear h
      go_enter Try.func58, Try.ntmps58
      go_wp2_with fail
      go_ret
      exact ⟨ret_int H.out.symm, rfl⟩
  · have h1 : 0 ≤ n := by omega
    obtain ⟨m, rfl⟩ := Int.eq_ofNat_of_zero_le h1
    have h2 : m ≤ 4294967295 := by omega
    clear h h1
    have H := hide (onesI_yes h2)
    go_enter Try.func58, Try.ntmps58
    go_wp2_with (go_at_call 61; refine (b_OnesCount64 m _ (by omega)).mono ?_; rintro e w' ⟨rfl, rfl⟩)
    go_ret
    exact ⟨ret_int H.out.symm, rfl⟩
theorem ones_step (x : Nat) (f : Nat) : ones (f + 1) x = x % 2 + ones f (x / 2) := rfl
theorem mask1 (x : Nat) (hx : x < 9223372036854775808) : bits .and .i64 (x : Int) 1 = ((x % 2 : Nat) : Int) := by
  have := bits_mask .i64 63 (by decide) (fun n h0 h1 => by rw [IntKind.wrap_i64]; omega) 1 (by decide) (x : Int) (by omega) (by omega)
  simpa using this
theorem ones_nil (f : Nat) : ones f 0 = 0 := by
  induction f with
  | zero => rfl
  | succ f ih => rw [ones]; simpa using ih
set_option maxHeartbeats 400000 in
theorem s_CountOnes (n : Int) (w : World) :
    Calls Try.prog 62 #[.int .i64 n] w fun e w' => e = .returned (.int .i64 (onesI n)) ∧ w = w' := by
  by_cases h : n < 0 ∨ 4294967295 < n
  · have H := hide (onesI_no h)
    go_enter Try.func62, Try.ntmps62
    go_wp2_with (go_at_call 40; refine (s_In_no _ _ _ _ h).mono ?_; rintro e w' ⟨rfl, rfl⟩)
    go_ret
    exact ⟨ret_int H.out.symm, rfl⟩
  · have h1 : 0 ≤ n := by omega
    obtain ⟨m, rfl⟩ := Int.eq_ofNat_of_zero_le h1
    have h2 : m ≤ 4294967295 := by omega
    clear h
    have H := hide (onesI_yes h2)
    go_enter Try.func62, Try.ntmps62
    go_wp2_with (go_at_call 40; refine (s_In_yes _ _ _ _ (by omega) (by omega)).mono ?_; rintro e w' ⟨rfl, rfl⟩)
    go_loop [0, 3] (fun nv kv => ∃ f y k : Nat, f ≤ 32 ∧ y < 2 ^ f ∧ nv = .int .i64 y ∧ kv = .int .i64 k ∧ k + ones f y = ones 32 m) (fun nv _ => (intOf nv).toNat)
    case atStart => exact ⟨32, m, 0, by omega, by omega, rfl, rfl, by omega⟩
    case round =>
      obtain ⟨f, y, k, hf, hy, rfl, rfl, hk⟩ := hrel
      have hy32 : y < 4294967296 := Nat.lt_of_lt_of_le hy (Nat.pow_le_pow_right (n := 2) (by decide) hf)
      have hk32 : k ≤ 32 := by have := ones_le 32 m; omega
      have HK := hide hk
      have HY := hide hy
      clear hk hy
      by_cases hp : 0 < y
      · cases f with
        | zero => have := HY.out; simp at this; omega
        | succ f =>
          have hm := mask1 y (by omega)
          go_wp2
          go_round
          case rel =>
            refine ⟨f, y / 2, k + y % 2, by omega, ?_, by go_num, by go_num, ?_⟩
            · have := HY.out; rw [Nat.pow_succ] at this; omega
            · have := HK.out; rw [ones_step] at this; omega
          case measure => simp [intOf]; omega
      · obtain rfl : y = 0 := by omega
        go_wp2
        go_ret
        refine ⟨ret_int ?_, rfl⟩
        have := HK.out
        rw [ones_nil] at this
        rw [H.out]; omega
end Go.Proofs.Ytimkjhjdddllcaa
