/- What GetWord returns, in the program and in the reference: the value of some bytes of a string, for every string of at most 2^47 bytes and all ints. -/
import Derived.Test.YtnelfadmcpacbaaWordA
import Derived.Test.YtnelfadmcpacbaaPlWord
namespace Go.Proofs.Ytnelfadmcpacbaa
open Go.RowKit Sat

def getOk (s : ByteArray) (a k : Int) : Bool := decide (1 ≤ k ∧ k ≤ 4 ∧ 0 ≤ a ∧ a + k ≤ s.size)
def getV (s : ByteArray) (a k : Int) : Int := if getOk s a k then (wordVal ((s.data.toList.drop a.toNat).take k.toNat) : Int) else 0
theorem getV_no {s : ByteArray} {a k : Int} (h : getOk s a k = false) : getV s a k = 0 := by unfold getV; rw [h]; rfl
theorem getV_yes {s : ByteArray} {a k : Int} (h : getOk s a k = true) : getV s a k = (wordVal ((s.data.toList.drop a.toNat).take k.toNat) : Int) := by unfold getV; rw [if_pos h]
theorem ret_ib {k : IntKind} {a c : Int} {b d : Bool} (h : a = c) (h' : b = d) : Ending.returned (.tuple #[.int k a, .bool b]) = .returned (.tuple #[.int k c, .bool d]) := by rw [h, h']
theorem take_next (s : ByteArray) (a k : Nat) (h : a + k < s.size) : (s.data.toList.drop a).take (k + 1) = (s.data.toList.drop a).take k ++ [s[a + k]] := by
  rw [List.take_succ_eq_append_getElem (by simp; show k < s.data.size - a; have : s.size = s.data.size := rfl; omega)]
  simp; rfl
theorem getV_range (s : ByteArray) (a k : Int) : 0 ≤ getV s a k ∧ getV s a k ≤ 4294967295 := by
  unfold getV
  split
  · rename_i h
    unfold getOk at h
    have h := of_decide_eq_true h
    have hv := wordVal_lt ((s.data.toList.drop a.toNat).take k.toNat)
    have hl : ((s.data.toList.drop a.toNat).take k.toNat).length ≤ 4 := by rw [List.length_take]; omega
    have hp : 256 ^ ((s.data.toList.drop a.toNat).take k.toNat).length ≤ 256 ^ 4 := Nat.pow_le_pow_right (by decide) hl
    omega
  · omega

set_option maxHeartbeats 800000 in
theorem i_GetWord (s : ByteArray) (a k : Int) (w : World) (hs : s.size ≤ 140737488355328) (ha : -9223372036854775808 ≤ a) (ha' : a ≤ 9223372036854775807) :
    Calls Try.prog 47 #[.string s, .int .i64 a, .int .i64 k] w fun e w' => e = .returned (.tuple #[.int .i64 (getV s a k), .bool (getOk s a k)]) ∧ w = w' := by
  by_cases h : getOk s a k = true
  · have hv := getV_yes h
    have h0 := of_decide_eq_true h
    have H := hide h
    have HV := hide hv
    obtain ⟨h1, h2, h3, h4⟩ := h0
    clear h hv
    obtain ⟨n, rfl⟩ := Int.eq_ofNat_of_zero_le h3
    obtain ⟨m, rfl⟩ := Int.eq_ofNat_of_zero_le (show 0 ≤ k by omega)
    go_enter Try.func47, Try.ntmps47
    go_wp2
    go_loop [8, 9] (fun v i => ∃ j : Nat, j ≤ m ∧ i = .int .i64 j ∧ v = .int .i64 (wordVal ((s.data.toList.drop n).take j))) (fun _ i => m - (intOf i).toNat)
    case atStart => exact ⟨0, Nat.zero_le _, rfl, rfl⟩
    case round =>
      obtain ⟨j, hj, rfl, rfl⟩ := hrel
      have hlt := wordVal_lt ((s.data.toList.drop n).take j)
      have hl : ((s.data.toList.drop n).take j).length ≤ j := by rw [List.length_take]; omega
      have hp : 256 ^ ((s.data.toList.drop n).take j).length ≤ 256 ^ 4 := Nat.pow_le_pow_right (by decide) (by omega)
      have hb : wordVal ((s.data.toList.drop n).take j) < 4294967296 := by omega
      clear hlt hl hp
      by_cases hjm : j < m
      · have hsn := hide (take_next s n j (by omega))
        have hby : (s[n + j]'(by omega)).toNat < 256 := UInt8.toNat_lt _
        go_wp2
        go_round
        case rel => exact ⟨j + 1, by omega, by go_num, by rw [hsn.out, wordVal_snoc]; go_num⟩
        case measure => simp [intOf]; omega
      · obtain rfl : j = m := by omega
        go_wp2
        go_ret2
        exact ⟨ret_ib (by rw [HV.out]; simp) H.out.symm, rfl⟩
  · have hf : getOk s a k = false := by simpa using h
    have hv := hide (getV_no hf)
    have H := hide hf
    have hn := of_decide_eq_false hf
    clear h hf
    rcases (show k < 1 ∨ (1 ≤ k ∧ 4 < k) ∨ (1 ≤ k ∧ k ≤ 4 ∧ a < 0) ∨ (1 ≤ k ∧ k ≤ 4 ∧ 0 ≤ a ∧ (s.size : Int) - k < a) by omega) with h1 | ⟨h1, h2⟩ | ⟨h1, h2, h3⟩ | ⟨h1, h2, h3, h4⟩
    all_goals
      clear hn
      go_enter Try.func47, Try.ntmps47
      go_wp2
      go_ret2
      exact ⟨ret_ib hv.out.symm H.out.symm, rfl⟩
set_option maxHeartbeats 800000 in
theorem s_GetWord (s : ByteArray) (a k : Int) (w : World) (hs : s.size ≤ 140737488355328) (ha : -9223372036854775808 ≤ a) (ha' : a ≤ 9223372036854775807) :
    Calls Try.prog 82 #[.string s, .int .i64 a, .int .i64 k] w fun e w' => e = .returned (.tuple #[.int .i64 (getV s a k), .bool (getOk s a k)]) ∧ w = w' := by
  by_cases h : getOk s a k = true
  · have hv := getV_yes h
    have h0 := of_decide_eq_true h
    have H := hide h
    have HV := hide hv
    obtain ⟨h1, h2, h3, h4⟩ := h0
    clear h hv
    obtain ⟨n, rfl⟩ := Int.eq_ofNat_of_zero_le h3
    obtain ⟨m, rfl⟩ := Int.eq_ofNat_of_zero_le (show 0 ≤ k by omega)
    have d1 : decide ((n : Int) < 0) = false := decide_eq_false (by omega)
    have d2 : decide (s.size < n) = false := decide_eq_false (by omega)
    have d3 : decide ((s.size : Int) - n < m) = false := decide_eq_false (by omega)
    go_enter Try.func82, Try.ntmps82
    go_wp2_with (go_at_call 54; refine (s_In_yes _ _ _ _ h1 h2).mono ?_; rintro e w' ⟨rfl, rfl⟩)
    go_loop [8, 9] (fun v i => ∃ j : Nat, j ≤ m ∧ i = .int .i64 j ∧ v = .int .i64 (wordVal ((s.data.toList.drop n).take j))) (fun _ i => m - (intOf i).toNat)
    case atStart => exact ⟨0, Nat.zero_le _, rfl, rfl⟩
    case round =>
      obtain ⟨j, hj, rfl, rfl⟩ := hrel
      have hlt := wordVal_lt ((s.data.toList.drop n).take j)
      have hl : ((s.data.toList.drop n).take j).length ≤ j := by rw [List.length_take]; omega
      have hp : 256 ^ ((s.data.toList.drop n).take j).length ≤ 256 ^ 4 := Nat.pow_le_pow_right (by decide) (by omega)
      have hb : wordVal ((s.data.toList.drop n).take j) < 4294967296 := by omega
      clear hlt hl hp
      by_cases hjm : j < m
      · have hsn := hide (take_next s n j (by omega))
        have hby : (s[n + j]'(by omega)).toNat < 256 := UInt8.toNat_lt _
        go_wp2
        go_round
        case rel => exact ⟨j + 1, by omega, by go_num, by rw [hsn.out, wordVal_snoc]; go_num⟩
        case measure => simp [intOf]; omega
      · obtain rfl : j = m := by omega
        go_wp2
        go_ret2
        exact ⟨ret_ib (by rw [HV.out]; simp) H.out.symm, rfl⟩
  · have hf : getOk s a k = false := by simpa using h
    have hv := hide (getV_no hf)
    have H := hide hf
    have hn := of_decide_eq_false hf
    clear h hf
    by_cases h12 : k < 1 ∨ 4 < k
    · clear hn
      go_enter Try.func82, Try.ntmps82
      go_wp2_with (go_at_call 54; refine (s_In_no _ _ _ _ h12).mono ?_; rintro e w' ⟨rfl, rfl⟩)
      go_ret2
      exact ⟨ret_ib hv.out.symm H.out.symm, rfl⟩
    · have h1 : 1 ≤ k := by omega
      have h2 : k ≤ 4 := by omega
      rcases (show a < 0 ∨ (0 ≤ a ∧ (s.size : Int) < a) ∨ (0 ≤ a ∧ a ≤ s.size ∧ (s.size : Int) - a < k) by omega) with h3 | ⟨h3, h4⟩ | ⟨h3, h4, h5⟩
      all_goals
        clear hn h12
        go_enter Try.func82, Try.ntmps82
        go_wp2_with (go_at_call 54; refine (s_In_yes _ _ _ _ h1 h2).mono ?_; rintro e w' ⟨rfl, rfl⟩)
        go_ret2
        exact ⟨ret_ib hv.out.symm H.out.symm, rfl⟩
end Go.Proofs.Ytnelfadmcpacbaa
