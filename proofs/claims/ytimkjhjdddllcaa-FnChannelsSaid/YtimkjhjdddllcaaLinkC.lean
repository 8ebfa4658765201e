/- What EncodeNibble and DecodeNibble return, in the program and in the reference, for every int. -/
import Derived.Test.YtimkjhjdddllcaaWordE
import Derived.Test.YtimkjhjdddllcaaPlLink
namespace Go.Proofs.Ytimkjhjdddllcaa
open Go.RowKit Sat

set_option maxHeartbeats 800000 in
theorem b_OnesCount (x : Nat) (w : World) (hx : x < 4294967296) :
    Calls Try.prog 57 #[.int .u64 x] w fun e w' => e = .returned (.int .i64 (ones 32 x)) ∧ w = w' := by
  go_enter Try.func57, Try.ntmps57
  go_wp2_with (go_at_call 61; refine (b_OnesCount64 x _ (by omega)).mono ?_; rintro e w' ⟨rfl, rfl⟩)
  go_ret
  exact ⟨rfl, rfl⟩
def word7 (n : Nat) : Nat :=
  let d0 := n % 2
  let d1 := n / 2 % 2
  let d2 := n / 4 % 2
  let d3 := n / 8 % 2
  (d0 + d1 + d3) % 2 + 2 * ((d0 + d2 + d3) % 2) + 4 * d0 + 8 * ((d1 + d2 + d3) % 2) + 16 * d1 + 32 * d2 + 64 * d3
theorem word7_lt : ∀ n, n < 16 → word7 n < 128 := by decide +kernel
def encI (n : Int) : Int := if 0 ≤ n ∧ n ≤ 15 then (encN n.toNat : Int) else -1
theorem encI_yes {n : Nat} (h : n < 16) : encI n = (encN n : Int) := by unfold encI; rw [if_pos (by omega), Int.toNat_natCast]
theorem encI_no {n : Int} (h : n < 0 ∨ 15 < n) : encI n = -1 := by unfold encI; rw [if_neg (by omega)]
theorem wrap_u64_small (x : Nat) (h : x < 128) : IntKind.u64.wrap (x : Int) = (x : Int) := by rw [IntKind.wrap_u64]; omega
theorem i_word : ∀ n : Nat, n < 16 → bits .or .i64 (bits .or .i64 (bits .or .i64 (bits .or .i64 (bits .or .i64 (bits .or .i64 ((wrap64 (wrap64 (bits .and .i64 (n : Int) 1 + bits .and .i64 ((n : Int) / 2) 1) + bits .and .i64 ((n : Int) / 8) 1)).tmod 2) (wrap64 ((wrap64 (wrap64 (bits .and .i64 (n : Int) 1 + bits .and .i64 ((n : Int) / 4) 1) + bits .and .i64 ((n : Int) / 8) 1)).tmod 2 * 2))) (wrap64 (bits .and .i64 (n : Int) 1 * 4))) (wrap64 ((wrap64 (wrap64 (bits .and .i64 ((n : Int) / 2) 1 + bits .and .i64 ((n : Int) / 4) 1) + bits .and .i64 ((n : Int) / 8) 1)).tmod 2 * 8))) (wrap64 (bits .and .i64 ((n : Int) / 2) 1 * 16))) (wrap64 (bits .and .i64 ((n : Int) / 4) 1 * 32))) (wrap64 (bits .and .i64 ((n : Int) / 8) 1 * 64)) = (word7 n : Int) := by decide +kernel
theorem i_word_end : ∀ n : Nat, n < 16 → bits .or .i64 (word7 n : Int) ((ones 32 (word7 n) : Int) % 2 * 128) = (encN n : Int) := by decide +kernel
theorem b_OnesCount_is (x y : Nat) (w : World) (hx : x < 4294967296) (hy : ones 32 x = y) :
    Calls Try.prog 57 #[.int .u64 x] w fun e w' => e = .returned (.int .i64 y) ∧ w = w' := by
  subst hy; exact b_OnesCount x w hx
set_option maxHeartbeats 800000 in
theorem i_EncodeNibble_yes (n : Nat) (w : World) (hn : n < 16) :
    Calls Try.prog 49 #[.int .i64 n] w fun e w' => e = .returned (.int .i64 (encN n)) ∧ w = w' := by
  go_enter Try.func49, Try.ntmps49
  go_wp2_with fail
  have hw := word7_lt n hn
  have ho := ones_le 32 (word7 n)
  have h1 := i_word n hn
  have h2 := i_word_end n hn
  obtain ⟨y, hy⟩ : ∃ y, ones 32 (word7 n) = y := ⟨_, rfl⟩
  rw [hy] at h2 ho
  obtain ⟨x, hx⟩ : ∃ x, word7 n = x := ⟨_, rfl⟩
  rw [hx] at h1 h2 hw hy
  rw [h1, wrap_u64_small x hw]
  have H2 := hide h2
  have HY := hide hy
  clear h1 h2 hy hx
  refine (b_OnesCount_is x y _ (by omega) HY.out).mono ?_
  rintro e w' ⟨rfl, rfl⟩
  go_wp2_with fail
  go_ret
  exact ⟨ret_int H2.out, rfl⟩
theorem i_EncodeNibble (n : Int) (w : World) :
    Calls Try.prog 49 #[.int .i64 n] w fun e w' => e = .returned (.int .i64 (encI n)) ∧ w = w' := by
  by_cases h : n < 0 ∨ 15 < n
  · have H := hide (encI_no h)
    rcases (show n < 0 ∨ (0 ≤ n ∧ 15 < n) by omega) with h1 | ⟨h1, h2⟩
    all_goals
      clear h
      go_enter Try.func49, Try.ntmps49
      go_wp2_with fail
      go_ret
      exact ⟨ret_int H.out.symm, rfl⟩
  · obtain ⟨m, rfl⟩ := Int.eq_ofNat_of_zero_le (show 0 ≤ n by omega)
    rw [encI_yes (by omega)]
    exact i_EncodeNibble_yes m w (by omega)
theorem s_word : ∀ n : Nat, n < 16 → bits .or .i64 (bits .or .i64 (bits .or .i64 (bits .or .i64 (bits .or .i64 (bits .or .i64 (bits .xor .i64 (bits .xor .i64 (bits .and .i64 (n : Int) 1) (bits .and .i64 ((n : Int) / 2) 1)) ((n : Int) / 8)) (wrap64 (bits .xor .i64 (bits .xor .i64 (bits .and .i64 (n : Int) 1) (bits .and .i64 ((n : Int) / 4) 1)) ((n : Int) / 8) * 2))) (wrap64 (bits .and .i64 (n : Int) 1 * 4))) (wrap64 (bits .xor .i64 (bits .xor .i64 (bits .and .i64 ((n : Int) / 2) 1) (bits .and .i64 ((n : Int) / 4) 1)) ((n : Int) / 8) * 8))) (wrap64 (bits .and .i64 ((n : Int) / 2) 1 * 16))) (wrap64 (bits .and .i64 ((n : Int) / 4) 1 * 32))) ((n : Int) / 8 * 64) = (word7 n : Int) := by decide +kernel
theorem s_word_end : ∀ n : Nat, n < 16 → bits .or .i64 (word7 n : Int) (wrap64 (bits .and .i64 (ones 32 (word7 n) : Int) 1 * 128)) = (encN n : Int) := by decide +kernel
set_option maxHeartbeats 800000 in
theorem s_EncodeNibble_yes (n : Nat) (w : World) (hn : n < 16) :
    Calls Try.prog 63 #[.int .i64 n] w fun e w' => e = .returned (.int .i64 (encN n)) ∧ w = w' := by
  have hw := word7_lt n hn
  have ho := ones_le 32 (word7 n)
  have H1 := hide (s_word n hn)
  have H2 := hide (s_word_end n hn)
  have H4 := hide (onesI_yes (n := word7 n) (by omega))
  go_enter Try.func63, Try.ntmps63
  go_wp2_with (go_at_call 40; refine (s_In_yes _ _ _ _ (by omega) (by omega)).mono ?_; rintro e w' ⟨rfl, rfl⟩)
  rw [H1.out]
  refine (s_CountOnes (word7 n) _).mono ?_
  rintro e w' ⟨rfl, rfl⟩
  rw [H4.out]
  go_wp2_with fail
  go_ret
  exact ⟨ret_int H2.out, rfl⟩
theorem s_EncodeNibble (n : Int) (w : World) :
    Calls Try.prog 63 #[.int .i64 n] w fun e w' => e = .returned (.int .i64 (encI n)) ∧ w = w' := by
  by_cases h : n < 0 ∨ 15 < n
  · have H := hide (encI_no h)
    go_enter Try.func63, Try.ntmps63
    go_wp2_with (go_at_call 40; refine (s_In_no _ _ _ _ h).mono ?_; rintro e w' ⟨rfl, rfl⟩)
    go_ret
    exact ⟨ret_int H.out.symm, rfl⟩
  · obtain ⟨m, rfl⟩ := Int.eq_ofNat_of_zero_le (show 0 ≤ n by omega)
    rw [encI_yes (by omega)]
    exact s_EncodeNibble_yes m w (by omega)

def decA (w : Int) : Int := if 0 ≤ w ∧ w ≤ 255 then (match decN w.toNat with | some m => (m : Int) | none => -1) else -1
def decK (w : Int) : Int := if 0 ≤ w ∧ w ≤ 255 then (match decN w.toNat with | some m => (dist m w.toNat : Int) | none => 2) else 2
theorem dec_out {w : Int} (h : w < 0 ∨ 255 < w) : decA w = -1 ∧ decK w = 2 := by unfold decA decK; rw [if_neg (by omega), if_neg (by omega)]; exact ⟨rfl, rfl⟩
theorem dec_some {w m : Nat} (hw : w ≤ 255) (h : decN w = some m) : decA w = (m : Int) ∧ decK w = (dist m w : Int) := by
  unfold decA decK; rw [if_pos (by omega), if_pos (by omega), Int.toNat_natCast, h]; exact ⟨rfl, rfl⟩
theorem dec_none {w : Nat} (hw : w ≤ 255) (h : decN w = none) : decA w = -1 ∧ decK w = 2 := by
  unfold decA decK; rw [if_pos (by omega), if_pos (by omega), Int.toNat_natCast, h]; exact ⟨rfl, rfl⟩
def NoneBelow (w k : Nat) : Prop := ∀ j, j < k → ¬ dist j w ≤ 1
theorem NoneBelow.zero (w : Nat) : NoneBelow w 0 := fun _ h => absurd h (by omega)
theorem NoneBelow.succ {w k : Nat} (h : NoneBelow w k) (hk : ¬ dist k w ≤ 1) : NoneBelow w (k + 1) := fun j hj => by
  by_cases e : j = k
  · subst e; exact hk
  · exact h j (by omega)
theorem NoneBelow.found {w k : Nat} (h : NoneBelow w k) (hk : k < 16) (hd : dist k w ≤ 1) : decN w = some k := by
  rw [decN_at k (by omega) h, show 16 - k = (16 - (k + 1)) + 1 by omega, decGo_succ, if_pos hd]
theorem NoneBelow.all {w : Nat} (h : NoneBelow w 16) : decN w = none := by
  rw [decN_at 16 (by omega) h]; rfl
theorem xor_lt8 {a b : Nat} (ha : a < 256) (hb : b < 256) : a ^^^ b < 256 := Nat.xor_lt_two_pow (n := 8) ha hb
theorem dist_is (k w : Nat) (hk : k < 16) (hw : w ≤ 255) : onesI ((encN k ^^^ w : Nat) : Int) = (dist k w : Int) := by
  have h1 := encN_lt k hk
  have h2 := xor_lt8 h1 (show w < 256 by omega)
  rw [onesI_yes (by omega), ones_byte h2]; rfl
theorem dist_is' (k w : Nat) (hk : k < 16) (hw : w ≤ 255) : onesI ((w ^^^ encN k : Nat) : Int) = (dist k w : Int) := by
  rw [Nat.xor_comm]; exact dist_is k w hk hw
theorem dist_le8 (k w : Nat) : dist k w ≤ 8 := dist_lt k w
set_option maxHeartbeats 800000 in
theorem i_DecodeNibble_in (v : Nat) (w : World) (hv : v ≤ 255) :
    Calls Try.prog 51 #[.int .i64 v] w fun e w' => e = .returned (.tuple #[.int .i64 (decA v), .int .i64 (decK v)]) ∧ w = w' := by
  have d0 : decide ((v : Int) < 0) = false := decide_eq_false (by omega)
  have d1 : decide (255 < (v : Int)) = false := decide_eq_false (by omega)
  go_enter Try.func51, Try.ntmps51
  go_wp2_with fail
  go_loop [4] (fun kv => ∃ k : Nat, k ≤ 16 ∧ kv = .int .i64 k ∧ NoneBelow v k) (fun kv => 16 - (intOf kv).toNat)
  case atStart => exact ⟨0, Nat.zero_le _, rfl, NoneBelow.zero v⟩
  case round =>
    obtain ⟨k, hk, rfl, hnb⟩ := hrel
    by_cases hlt : k < 16
    · have hE := encN_lt k hlt
      have hX := hide (xor64 (encN k) v (by omega) (by omega))
      have hD := hide (dist_is k v hlt hv)
      have h8 := dist_le8 k v
      go_wp2_with (go_at_call 49; refine (i_EncodeNibble_yes k _ hlt).mono ?_; rintro e w' ⟨rfl, rfl⟩)
      rw [hX.out]
      refine (i_CountOnes _ _).mono ?_
      rintro e w' ⟨rfl, rfl⟩
      rw [hD.out]
      by_cases hd : dist k v ≤ 1
      · have hfin := hide (dec_some hv (hnb.found hlt hd))
        clear hX hD hnb hE
        generalize dist k v = d at *
        go_wp2_with fail
        go_ret2
        exact ⟨ret_two hfin.out.1.symm hfin.out.2.symm, rfl⟩
      · have hnb' := hide (hnb.succ hd)
        clear hX hD hnb hE
        generalize dist k v = d at *
        go_wp2_with fail
        go_round
        case rel => exact ⟨k + 1, by omega, by go_num, hnb'.out⟩
        case measure => simp [intOf]; omega
    · obtain rfl : k = 16 := by omega
      have hfin := hide (dec_none hv hnb.all)
      clear hnb
      go_wp2_with fail
      go_ret2
      exact ⟨ret_two hfin.out.1.symm hfin.out.2.symm, rfl⟩
set_option maxHeartbeats 400000 in
theorem i_DecodeNibble (v : Int) (w : World) :
    Calls Try.prog 51 #[.int .i64 v] w fun e w' => e = .returned (.tuple #[.int .i64 (decA v), .int .i64 (decK v)]) ∧ w = w' := by
  by_cases h : v < 0 ∨ 255 < v
  · have H := hide (dec_out h)
    rcases (show v < 0 ∨ (0 ≤ v ∧ 255 < v) by omega) with h1 | ⟨h1, h2⟩
    all_goals
      clear h
      go_enter Try.func51, Try.ntmps51
      go_wp2_with fail
      go_ret2
      exact ⟨ret_two H.out.1.symm H.out.2.symm, rfl⟩
  · obtain ⟨m, rfl⟩ := Int.eq_ofNat_of_zero_le (show 0 ≤ v by omega)
    exact i_DecodeNibble_in m w (by omega)
set_option maxHeartbeats 800000 in
theorem s_DecodeNibble_in (v : Nat) (w : World) (hv : v ≤ 255) :
    Calls Try.prog 59 #[.int .i64 v] w fun e w' => e = .returned (.tuple #[.int .i64 (decA v), .int .i64 (decK v)]) ∧ w = w' := by
  go_enter Try.func59, Try.ntmps59
  go_wp2_with fail
  go_loop [4] (fun kv => ∃ k : Nat, k ≤ 16 ∧ kv = .int .i64 k ∧ NoneBelow v k) (fun kv => 16 - (intOf kv).toNat)
  case atStart => exact ⟨0, Nat.zero_le _, rfl, NoneBelow.zero v⟩
  case round =>
    obtain ⟨k, hk, rfl, hnb⟩ := hrel
    by_cases hlt : k < 16
    · have hE := encN_lt k hlt
      have hX := hide (xor64 v (encN k) (by omega) (by omega))
      have hD := hide (dist_is' k v hlt hv)
      have h8 := dist_le8 k v
      have dk : decide ((k : Int) < 16) = true := decide_eq_true (by omega)
      go_wp2_with (first | (go_at_call 40; refine (s_In_yes _ _ _ _ (by omega) (by omega)).mono ?_; rintro e w' ⟨rfl, rfl⟩) | (go_at_call 63; refine (s_EncodeNibble_yes k _ hlt).mono ?_; rintro e w' ⟨rfl, rfl⟩))
      rw [hX.out]
      refine (s_CountOnes _ _).mono ?_
      rintro e w' ⟨rfl, rfl⟩
      rw [hD.out]
      by_cases hd : dist k v ≤ 1
      · have hfin := hide (dec_some hv (hnb.found hlt hd))
        clear hX hD hnb hE
        generalize dist k v = d at *
        go_wp2_with fail
        go_ret2
        exact ⟨ret_two hfin.out.1.symm hfin.out.2.symm, rfl⟩
      · have hnb' := hide (hnb.succ hd)
        clear hX hD hnb hE
        generalize dist k v = d at *
        go_wp2_with fail
        go_round
        case rel => exact ⟨k + 1, by omega, by go_num, hnb'.out⟩
        case measure => simp [intOf]; omega
    · obtain rfl : k = 16 := by omega
      have hfin := hide (dec_none hv hnb.all)
      clear hnb
      go_wp2_with fail
      go_ret2
      exact ⟨ret_two hfin.out.1.symm hfin.out.2.symm, rfl⟩
set_option maxHeartbeats 400000 in
theorem s_DecodeNibble (v : Int) (w : World) :
    Calls Try.prog 59 #[.int .i64 v] w fun e w' => e = .returned (.tuple #[.int .i64 (decA v), .int .i64 (decK v)]) ∧ w = w' := by
  by_cases h : v < 0 ∨ 255 < v
  · have H := hide (dec_out h)
    go_enter Try.func59, Try.ntmps59
    go_wp2_with fail
    refine wp_loop_rounds 1 ?_
    rw [rounds_succ]
    go_wp2_with (go_at_call 40; refine (s_In_no _ _ _ _ h).mono ?_; rintro e w' ⟨rfl, rfl⟩)
    go_ret2
    exact ⟨ret_two H.out.1.symm H.out.2.symm, rfl⟩
  · obtain ⟨m, rfl⟩ := Int.eq_ofNat_of_zero_le (show 0 ≤ v by omega)
    exact s_DecodeNibble_in m w (by omega)
end Go.Proofs.Ytimkjhjdddllcaa
