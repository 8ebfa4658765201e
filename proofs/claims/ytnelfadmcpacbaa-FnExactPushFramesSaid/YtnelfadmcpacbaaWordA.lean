/- What the small functions on numbers return: l01In, between, NextRandom, RandomBelow, Clamp, in the program and in the reference; no condition beyond that the arguments are ints. -/
import Derived.Test.YtnelfadmcpacbaaProg
import Derived.WalkKit
import Derived.WalkSpells
import Derived.WalkLawsBesides
import Derived.Deep.QuietTactic
import Derived.BigQuiet
namespace Go.Proofs.Ytnelfadmcpacbaa
open Go.RowKit

theorem hide {p : Prop} (h : p) : Hid p := h
theorem ret_int {k : IntKind} {a b : Int} (h : a = b) : Ending.returned (.int k a) = .returned (.int k b) := by rw [h]
theorem ret_bool {a b : Bool} (h : a = b) : Ending.returned (.bool a) = .returned (.bool b) := by rw [h]
/-- is x in the range a to b? -/
def inR (x a b : Int) : Bool := decide (a ≤ x ∧ x ≤ b)
theorem inR_true {x a b : Int} (h1 : a ≤ x) (h2 : x ≤ b) : inR x a b = true := decide_eq_true ⟨h1, h2⟩
theorem inR_false {x a b : Int} (h : x < a ∨ b < x) : inR x a b = false := decide_eq_false (by omega)
theorem of_inR {x a b : Int} (h : inR x a b = true) : a ≤ x ∧ x ≤ b := of_decide_eq_true h
theorem of_inR_false {x a b : Int} (h : inR x a b = false) : x < a ∨ b < x := by have := of_decide_eq_false h; omega

set_option maxHeartbeats 400000 in
theorem s_In (x a b : Int) (w : World) :
    Calls Try.prog 54 #[.int .i64 x, .int .i64 a, .int .i64 b] w fun e w' => e = .returned (.bool (inR x a b)) ∧ w = w' := by
  by_cases h1 : a ≤ x
  · by_cases h2 : x ≤ b
    · go_enter Try.func54, Try.ntmps54
      go_wp2
      go_ret
      exact ⟨ret_bool (inR_true h1 h2).symm, rfl⟩
    · go_enter Try.func54, Try.ntmps54
      go_wp2
      go_ret
      exact ⟨ret_bool (inR_false (by omega)).symm, rfl⟩
  · go_enter Try.func54, Try.ntmps54
    go_wp2
    go_ret
    exact ⟨ret_bool (inR_false (by omega)).symm, rfl⟩
theorem s_In_yes (x a b : Int) (w : World) (h1 : a ≤ x) (h2 : x ≤ b) :
    Calls Try.prog 54 #[.int .i64 x, .int .i64 a, .int .i64 b] w fun e w' => e = .returned (.bool true) ∧ w = w' :=
  (s_In x a b w).mono fun _ _ h => by rw [inR_true h1 h2] at h; exact h
theorem s_In_no (x a b : Int) (w : World) (h : x < a ∨ b < x) :
    Calls Try.prog 54 #[.int .i64 x, .int .i64 a, .int .i64 b] w fun e w' => e = .returned (.bool false) ∧ w = w' :=
  (s_In x a b w).mono fun _ _ h' => by rw [inR_false h] at h'; exact h'
set_option maxHeartbeats 400000 in
theorem i_between (x a b : Int) (w : World) :
    Calls Try.prog 56 #[.int .i64 x, .int .i64 a, .int .i64 b] w fun e w' => e = .returned (.bool (inR x a b)) ∧ w = w' := by
  by_cases h1 : a ≤ x
  · by_cases h2 : x ≤ b
    · go_enter Try.func56, Try.ntmps56
      go_wp2
      go_ret
      exact ⟨ret_bool (inR_true h1 h2).symm, rfl⟩
    · go_enter Try.func56, Try.ntmps56
      go_wp2
      go_ret
      exact ⟨ret_bool (inR_false (by omega)).symm, rfl⟩
  · go_enter Try.func56, Try.ntmps56
    go_wp2
    go_ret
    exact ⟨ret_bool (inR_false (by omega)).symm, rfl⟩
theorem i_between_yes (x a b : Int) (w : World) (h1 : a ≤ x) (h2 : x ≤ b) :
    Calls Try.prog 56 #[.int .i64 x, .int .i64 a, .int .i64 b] w fun e w' => e = .returned (.bool true) ∧ w = w' :=
  (i_between x a b w).mono fun _ _ h => by rw [inR_true h1 h2] at h; exact h
theorem i_between_no (x a b : Int) (w : World) (h : x < a ∨ b < x) :
    Calls Try.prog 56 #[.int .i64 x, .int .i64 a, .int .i64 b] w fun e w' => e = .returned (.bool false) ∧ w = w' :=
  (i_between x a b w).mono fun _ _ h' => by rw [inR_false h] at h'; exact h'

end Go.Proofs.Ytnelfadmcpacbaa
