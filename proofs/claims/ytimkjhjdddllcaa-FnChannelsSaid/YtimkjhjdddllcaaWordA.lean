/- What the small functions on numbers return: l01In, between, NextRandom, RandomBelow, Clamp, in the program and in the reference; no condition beyond that the arguments are ints. -/
import Derived.Test.YtimkjhjdddllcaaProg
import Derived.WalkKit
import Derived.WalkSpells
import Derived.WalkLawsBesides
import Derived.Deep.QuietTactic
import Derived.BigQuiet
namespace Go.Proofs.Ytimkjhjdddllcaa
open Go.RowKit

theorem hide {p : Prop} (h : p) : Hid p := h
theorem ret_int {k : IntKind} {a b : Int} (h : a = b) : Ending.returned (.int k a) = .returned (.int k b) := by rw [h]
theorem ret_bool {a b : Bool} (h : a = b) : Ending.returned (.bool a) = .returned (.bool b) := by rw [h]
/-- is x in the range a to b? -/
def inR (x a b : Int) : Bool := decide (a ≤ x ∧ x ≤ b)
theorem inR_true {x a b : Int} (h1 : a ≤ x) (h2 : x ≤ b) : inR x a b = true := decide_eq_true ⟨h1, h2⟩
theorem inR_false {x a b : Int} (h : x < a ∨ b < x) : inR x a b = false := decide_eq_false (by omega)
theorem of_inR {x a b : Int} (h : inR x a b = true) : a ≤ x ∧ x ≤ b := of_decide_eq_true h
theorem of_inR_false {x a b : Int} (h : inR x a b = false) : x < a ∨ b < x := by have := of_decide_eq_false h; omega

set_option maxHeartbeats 400000 in
theorem s_In (x a b : Int) (w : World) :
    Calls Try.prog 40 #[.int .i64 x, .int .i64 a, .int .i64 b] w fun e w' => e = .returned (.bool (inR x a b)) ∧ w = w' := by
  by_cases h1 : a ≤ x
  · by_cases h2 : x ≤ b
    · go_enter Try.func40, Try.ntmps40
      go_wp2
      go_ret
      exact ⟨ret_bool (inR_true h1 h2).symm, rfl⟩
    · go_enter Try.func40, Try.ntmps40
      go_wp2
      go_ret
      exact ⟨ret_bool (inR_false (by omega)).symm, rfl⟩
  · go_enter Try.func40, Try.ntmps40
    go_wp2
    go_ret
    exact ⟨ret_bool (inR_false (by omega)).symm, rfl⟩
theorem s_In_yes (x a b : Int) (w : World) (h1 : a ≤ x) (h2 : x ≤ b) :
    Calls Try.prog 40 #[.int .i64 x, .int .i64 a, .int .i64 b] w fun e w' => e = .returned (.bool true) ∧ w = w' :=
  (s_In x a b w).mono fun _ _ h => by rw [inR_true h1 h2] at h; exact h
theorem s_In_no (x a b : Int) (w : World) (h : x < a ∨ b < x) :
    Calls Try.prog 40 #[.int .i64 x, .int .i64 a, .int .i64 b] w fun e w' => e = .returned (.bool false) ∧ w = w' :=
  (s_In x a b w).mono fun _ _ h' => by rw [inR_false h] at h'; exact h'
set_option maxHeartbeats 400000 in
theorem i_between (x a b : Int) (w : World) :
    Calls Try.prog 47 #[.int .i64 x, .int .i64 a, .int .i64 b] w fun e w' => e = .returned (.bool (inR x a b)) ∧ w = w' := by
  by_cases h1 : a ≤ x
  · by_cases h2 : x ≤ b
    · go_enter Try.func47, Try.ntmps47
      go_wp2
      go_ret
      exact ⟨ret_bool (inR_true h1 h2).symm, rfl⟩
    · go_enter Try.func47, Try.ntmps47
      go_wp2
      go_ret
      exact ⟨ret_bool (inR_false (by omega)).symm, rfl⟩
  · go_enter Try.func47, Try.ntmps47
    go_wp2
    go_ret
    exact ⟨ret_bool (inR_false (by omega)).symm, rfl⟩
theorem i_between_yes (x a b : Int) (w : World) (h1 : a ≤ x) (h2 : x ≤ b) :
    Calls Try.prog 47 #[.int .i64 x, .int .i64 a, .int .i64 b] w fun e w' => e = .returned (.bool true) ∧ w = w' :=
  (i_between x a b w).mono fun _ _ h => by rw [inR_true h1 h2] at h; exact h
theorem i_between_no (x a b : Int) (w : World) (h : x < a ∨ b < x) :
    Calls Try.prog 47 #[.int .i64 x, .int .i64 a, .int .i64 b] w fun e w' => e = .returned (.bool false) ∧ w = w' :=
  (i_between x a b w).mono fun _ _ h' => by rw [inR_false h] at h'; exact h'

def nextR (s : Int) : Int := if s < 0 ∨ 65535 < s then 0 else (s * 25173 + 13849) % 65536
theorem nextR_range (s : Int) : 0 ≤ nextR s ∧ nextR s ≤ 65535 := by unfold nextR; split <;> omega
theorem nextR_out {s : Int} (h : s < 0 ∨ 65535 < s) : nextR s = 0 := by unfold nextR; rw [if_pos h]
theorem nextR_in {s : Int} (h1 : 0 ≤ s) (h2 : s ≤ 65535) : nextR s = (s * 25173 + 13849) % 65536 := by unfold nextR; rw [if_neg (by omega)]
set_option maxHeartbeats 400000 in
theorem i_NextRandom (s : Int) (w : World) :
    Calls Try.prog 50 #[.int .i64 s] w fun e w' => e = .returned (.int .i64 (nextR s)) ∧ w = w' := by
  by_cases h1 : s < 0
  · go_enter Try.func50, Try.ntmps50
    go_wp2
    go_ret
    exact ⟨ret_int (nextR_out (by omega)).symm, rfl⟩
  · by_cases h2 : 65535 < s
    · go_enter Try.func50, Try.ntmps50
      go_wp2
      go_ret
      exact ⟨ret_int (nextR_out (by omega)).symm, rfl⟩
    · go_enter Try.func50, Try.ntmps50
      go_wp2
      go_ret
      exact ⟨ret_int (nextR_in (by omega) (by omega)).symm, rfl⟩
theorem mask16 (x : Nat) (hx : x < 9223372036854775808) : bits .and .i64 (x : Int) 65535 = (x : Int) % 65536 :=
  bits_mask .i64 63 (by decide) (fun n h0 h1 => by rw [IntKind.wrap_i64]; omega) 16 (by decide) x (by omega) (by omega)
set_option maxHeartbeats 400000 in
theorem s_NextRandom (s : Int) (w : World) :
    Calls Try.prog 53 #[.int .i64 s] w fun e w' => e = .returned (.int .i64 (nextR s)) ∧ w = w' := by
  by_cases h : s < 0 ∨ 65535 < s
  · go_enter Try.func53, Try.ntmps53
    go_wp2_with (go_at_call 40; refine (s_In_no _ _ _ _ h).mono ?_; rintro e w' ⟨rfl, rfl⟩)
    go_ret
    exact ⟨ret_int (nextR_out h).symm, rfl⟩
  · have h1 : 0 ≤ s := by omega
    have h2 : s ≤ 65535 := by omega
    clear h
    go_enter Try.func53, Try.ntmps53
    go_wp2_with (go_at_call 40; refine (s_In_yes _ _ _ _ h1 h2).mono ?_; rintro e w' ⟨rfl, rfl⟩)
    go_ret
    refine ⟨ret_int ?_, rfl⟩
    rw [nextR_in h1 h2]
    obtain ⟨n, rfl⟩ := Int.eq_ofNat_of_zero_le h1
    have := mask16 (n * 25173 + 13849) (by omega)
    simpa using this
def randB (s n : Int) : Int := if s < 0 ∨ 65535 < s ∨ n < 1 ∨ 4096 < n then 0 else nextR s / 16 % n
def randS (s n : Int) : Int := if s < 0 ∨ 65535 < s ∨ n < 1 ∨ 4096 < n then 0 else nextR s
theorem ret_two {k : IntKind} {a b c d : Int} (h : a = c) (h' : b = d) : Ending.returned (.tuple #[.int k a, .int k b]) = .returned (.tuple #[.int k c, .int k d]) := by rw [h, h']
set_option maxHeartbeats 400000 in
theorem i_RandomBelow (s n : Int) (w : World) :
    Calls Try.prog 37 #[.int .i64 s, .int .i64 n] w fun e w' => e = .returned (.tuple #[.int .i64 (randS s n), .int .i64 (randB s n)]) ∧ ∃ m, w' = w.drewN m := by
  by_cases h : s < 0 ∨ 65535 < s ∨ n < 1 ∨ 4096 < n
  · rcases (show s < 0 ∨ (0 ≤ s ∧ 65535 < s) ∨ (0 ≤ s ∧ s ≤ 65535 ∧ n < 1) ∨ (0 ≤ s ∧ s ≤ 65535 ∧ 1 ≤ n ∧ 4096 < n) by omega) with h1 | ⟨h1, h2⟩ | ⟨h1, h2, h3⟩ | ⟨h1, h2, h3, h4⟩
    all_goals
      have H := hide h
      clear h
      go_enter Try.func37, Try.ntmps37
      go_wp2
      go_ret2
      exact ⟨ret_two (by unfold randS; rw [if_pos H.out]) (by unfold randB; rw [if_pos H.out]), 0, rfl⟩
  · have H := hide h
    have h1 : 0 ≤ s := by omega
    have h2 : s ≤ 65535 := by omega
    have h3 : 1 ≤ n := by omega
    have h4 : n ≤ 4096 := by omega
    have hr := nextR_range s
    have hr1 := hr.1
    have hr2 := hr.2
    clear h hr
    go_enter Try.func37, Try.ntmps37
    go_wp2_with (go_at_call 50; refine (i_NextRandom _ _).mono ?_; rintro e w' ⟨rfl, rfl⟩)
    go_quiet (fail)
    go_wp2
    go_ret2
    exact ⟨ret_two (by unfold randS; rw [if_neg H.out]) (by unfold randB; rw [if_neg H.out]), _, rfl⟩
set_option maxHeartbeats 400000 in
theorem s_RandomBelow (s n : Int) (w : World) :
    Calls Try.prog 43 #[.int .i64 s, .int .i64 n] w fun e w' => e = .returned (.tuple #[.int .i64 (randS s n), .int .i64 (randB s n)]) ∧ ∃ m, w' = w.drewN m := by
  by_cases h : s < 0 ∨ 65535 < s ∨ n < 1 ∨ 4096 < n
  · have H := hide h
    by_cases h0 : s < 0 ∨ 65535 < s
    · clear h
      go_enter Try.func43, Try.ntmps43
      go_wp2_with (go_at_call 40; refine (s_In_no _ _ _ _ h0).mono ?_; rintro e w' ⟨rfl, rfl⟩)
      go_ret2
      exact ⟨ret_two (by unfold randS; rw [if_pos H.out]) (by unfold randB; rw [if_pos H.out]), 0, rfl⟩
    · have h1 : 0 ≤ s := by omega
      have h2 : s ≤ 65535 := by omega
      have h3 : n < 1 ∨ 4096 < n := by omega
      clear h h0
      go_enter Try.func43, Try.ntmps43
      go_wp2_with fail
      refine (s_In_yes _ _ _ _ h1 h2).mono ?_
      rintro e w' ⟨rfl, rfl⟩
      go_wp2_with fail
      refine (s_In_no _ _ _ _ h3).mono ?_
      rintro e w' ⟨rfl, rfl⟩
      go_wp2_with fail
      go_ret2
      exact ⟨ret_two (by unfold randS; rw [if_pos H.out]) (by unfold randB; rw [if_pos H.out]), 0, rfl⟩
  · have H := hide h
    have h1 : 0 ≤ s := by omega
    have h2 : s ≤ 65535 := by omega
    have h3 : 1 ≤ n := by omega
    have h4 : n ≤ 4096 := by omega
    have hr := nextR_range s
    have hr1 := hr.1
    have hr2 := hr.2
    clear h hr
    go_enter Try.func43, Try.ntmps43
    go_wp2_with fail
    refine (s_In_yes _ _ _ _ h1 h2).mono ?_
    rintro e w' ⟨rfl, rfl⟩
    go_wp2_with fail
    refine (s_In_yes _ _ _ _ h3 h4).mono ?_
    rintro e w' ⟨rfl, rfl⟩
    go_wp2_with (go_at_call 53; refine (s_NextRandom _ _).mono ?_; rintro e w' ⟨rfl, rfl⟩)
    go_quiet (fail)
    go_wp2
    go_ret2
    exact ⟨ret_two (by unfold randS; rw [if_neg H.out]) (by unfold randB; rw [if_neg H.out]), _, rfl⟩
end Go.Proofs.Ytimkjhjdddllcaa
