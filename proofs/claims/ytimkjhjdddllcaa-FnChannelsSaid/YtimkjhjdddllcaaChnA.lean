/- What the test of a channel returns, in the program and in the reference, and the laws' helpers on channels; no condition. -/
import Derived.Test.YtimkjhjdddllcaaStr
import Derived.Test.YtimkjhjdddllcaaWordA
namespace Go.Proofs.Ytimkjhjdddllcaa
open Go.RowKit Sat
set_option linter.unusedVariables false
set_option linter.unusedSimpArgs false

theorem i_between_is (x a b : Int) (r : Bool) (w : World) (h : inR x a b = r) : Calls Try.prog 47 #[.int .i64 x, .int .i64 a, .int .i64 b] w fun e w' => e = .returned (.bool r) ∧ w = w' := by
  subst h; exact i_between x a b w
theorem s_In_is (x a b : Int) (r : Bool) (w : World) (h : inR x a b = r) : Calls Try.prog 40 #[.int .i64 x, .int .i64 a, .int .i64 b] w fun e w' => e = .returned (.bool r) ∧ w = w' := by
  subst h; exact s_In x a b w
def chOk (a b c : Int) : Bool := inR a 0 65535 && inR b 0 100 && inR c 0 100
set_option maxHeartbeats 800000 in
theorem i_ChannelOk (a b c : Int) (w : World)  :
    Calls Try.prog 30 #[.agg #[.int .i64 a, .int .i64 b, .int .i64 c]] w fun e w' => e = .returned (.bool (chOk a b c)) ∧ Below w.heap.size w w' := by
  go_enter Try.func30, Try.ntmps30
  go_wp2_with fail
  cases hc0 : inR a 0 65535 with
  | false =>
    have H0 := hide hc0
    clear hc0
    refine (i_between_is _ _ _ _ _ H0.out).mono ?_
    rintro e w' ⟨rfl, rfl⟩
    go_wp2_with fail
    go_ret
    exact ⟨ret_bool (by unfold chOk; simp [H0.out] <;> omega), (by repeat (first | exact Below.refl _ _ | refine Below.drew ?_ | refine Below.alloc ?_ (by first | exact Nat.le_refl _ | (simp; done) | (simp; omega)) _))⟩
  | true =>
    have H0 := hide hc0
    clear hc0
    refine (i_between_is _ _ _ _ _ H0.out).mono ?_
    rintro e w' ⟨rfl, rfl⟩
    go_wp2_with fail
    cases hc1 : inR b 0 100 with
    | false =>
      have H1 := hide hc1
      clear hc1
      refine (i_between_is _ _ _ _ _ H1.out).mono ?_
      rintro e w' ⟨rfl, rfl⟩
      go_wp2_with fail
      go_ret
      exact ⟨ret_bool (by unfold chOk; simp [H0.out, H1.out] <;> omega), (by repeat (first | exact Below.refl _ _ | refine Below.drew ?_ | refine Below.alloc ?_ (by first | exact Nat.le_refl _ | (simp; done) | (simp; omega)) _))⟩
    | true =>
      have H1 := hide hc1
      clear hc1
      refine (i_between_is _ _ _ _ _ H1.out).mono ?_
      rintro e w' ⟨rfl, rfl⟩
      go_wp2_with fail
      cases hc2 : inR c 0 100 with
      | false =>
        have H2 := hide hc2
        clear hc2
        refine (i_between_is _ _ _ _ _ H2.out).mono ?_
        rintro e w' ⟨rfl, rfl⟩
        go_wp2_with fail
        go_ret
        exact ⟨ret_bool (by unfold chOk; simp [H0.out, H1.out, H2.out] <;> omega), (by repeat (first | exact Below.refl _ _ | refine Below.drew ?_ | refine Below.alloc ?_ (by first | exact Nat.le_refl _ | (simp; done) | (simp; omega)) _))⟩
      | true =>
        have H2 := hide hc2
        clear hc2
        refine (i_between_is _ _ _ _ _ H2.out).mono ?_
        rintro e w' ⟨rfl, rfl⟩
        go_wp2_with fail
        go_ret
        exact ⟨ret_bool (by unfold chOk; simp [H0.out, H1.out, H2.out] <;> omega), (by repeat (first | exact Below.refl _ _ | refine Below.drew ?_ | refine Below.alloc ?_ (by first | exact Nat.le_refl _ | (simp; done) | (simp; omega)) _))⟩
set_option maxHeartbeats 800000 in
theorem s_ChannelOk (a b c : Int) (w : World)  :
    Calls Try.prog 42 #[.agg #[.int .i64 a, .int .i64 b, .int .i64 c]] w fun e w' => e = .returned (.bool (chOk a b c)) ∧ Below w.heap.size w w' := by
  go_enter Try.func42, Try.ntmps42
  go_wp2_with fail
  cases hc0 : inR a 0 65535 with
  | false =>
    have H0 := hide hc0
    clear hc0
    refine (s_In_is _ _ _ _ _ H0.out).mono ?_
    rintro e w' ⟨rfl, rfl⟩
    go_wp2_with fail
    go_ret
    exact ⟨ret_bool (by unfold chOk; simp [H0.out] <;> omega), (by repeat (first | exact Below.refl _ _ | refine Below.drew ?_ | refine Below.alloc ?_ (by first | exact Nat.le_refl _ | (simp; done) | (simp; omega)) _))⟩
  | true =>
    have H0 := hide hc0
    clear hc0
    refine (s_In_is _ _ _ _ _ H0.out).mono ?_
    rintro e w' ⟨rfl, rfl⟩
    go_wp2_with fail
    cases hc1 : inR b 0 100 with
    | false =>
      have H1 := hide hc1
      clear hc1
      refine (s_In_is _ _ _ _ _ H1.out).mono ?_
      rintro e w' ⟨rfl, rfl⟩
      go_wp2_with fail
      go_ret
      exact ⟨ret_bool (by unfold chOk; simp [H0.out, H1.out] <;> omega), (by repeat (first | exact Below.refl _ _ | refine Below.drew ?_ | refine Below.alloc ?_ (by first | exact Nat.le_refl _ | (simp; done) | (simp; omega)) _))⟩
    | true =>
      have H1 := hide hc1
      clear hc1
      refine (s_In_is _ _ _ _ _ H1.out).mono ?_
      rintro e w' ⟨rfl, rfl⟩
      go_wp2_with fail
      cases hc2 : inR c 0 100 with
      | false =>
        have H2 := hide hc2
        clear hc2
        refine (s_In_is _ _ _ _ _ H2.out).mono ?_
        rintro e w' ⟨rfl, rfl⟩
        go_wp2_with fail
        go_ret
        exact ⟨ret_bool (by unfold chOk; simp [H0.out, H1.out, H2.out] <;> omega), (by repeat (first | exact Below.refl _ _ | refine Below.drew ?_ | refine Below.alloc ?_ (by first | exact Nat.le_refl _ | (simp; done) | (simp; omega)) _))⟩
      | true =>
        have H2 := hide hc2
        clear hc2
        refine (s_In_is _ _ _ _ _ H2.out).mono ?_
        rintro e w' ⟨rfl, rfl⟩
        go_wp2_with fail
        go_ret
        exact ⟨ret_bool (by unfold chOk; simp [H0.out, H1.out, H2.out] <;> omega), (by repeat (first | exact Below.refl _ _ | refine Below.drew ?_ | refine Below.alloc ?_ (by first | exact Nat.le_refl _ | (simp; done) | (simp; omega)) _))⟩
set_option maxHeartbeats 400000 in
theorem l_toChannel (a b c : Int) (w : World) :
    Calls Try.prog 21 #[.agg #[.int .i64 a, .int .i64 b, .int .i64 c]] w fun e w' => e = .returned (.agg #[.int .i64 a, .int .i64 b, .int .i64 c]) ∧ Below w.heap.size w w' := by
  go_enter Try.func21, Try.ntmps21
  go_wp2
  exact bodyPost_ret (v := .agg #[.int .i64 a, .int .i64 b, .int .i64 c]) (by simp [results, Try.results21, go_sem]) rfl ⟨rfl, (by repeat (first | exact Below.refl _ _ | refine Below.drew ?_ | refine Below.alloc ?_ (by first | exact Nat.le_refl _ | (simp; done) | (simp; omega)) _))⟩
end Go.Proofs.Ytimkjhjdddllcaa
