/- What the tests of packets, frames and unpackers return, in the program and in the reference, and the laws' helpers on them; no condition beyond sizes of strings. -/
import Derived.Test.YtnelfadmcpacbaaStr
namespace Go.Proofs.Ytnelfadmcpacbaa
open Go.RowKit Sat
set_option linter.unusedVariables false
set_option linter.unusedSimpArgs false

theorem i_between_is (x a b : Int) (r : Bool) (w : World) (h : inR x a b = r) : Calls Try.prog 56 #[.int .i64 x, .int .i64 a, .int .i64 b] w fun e w' => e = .returned (.bool r) ∧ w = w' := by
  subst h; exact i_between x a b w
theorem s_In_is (x a b : Int) (r : Bool) (w : World) (h : inR x a b = r) : Calls Try.prog 54 #[.int .i64 x, .int .i64 a, .int .i64 b] w fun e w' => e = .returned (.bool r) ∧ w = w' := by
  subst h; exact s_In x a b w
theorem empty_no {s : ByteArray} (h : 1 ≤ s.size) : s.toList.isEmpty = false := by
  rw [ByteArray.toList_eq]
  cases hl : s.data.toList with
  | nil => have : s.data.toList.length = s.size := by simp
           rw [hl] at this; simp at this; omega
  | cons a l => rfl
theorem empty_yes {s : ByteArray} (h : s.size = 0) : s.toList.isEmpty = true := by
  rw [ByteArray.toList_eq]
  cases hl : s.data.toList with
  | nil => rfl
  | cons a l => have : s.data.toList.length = s.size := by simp
                rw [hl] at this; simp at this; omega
def pktOk (a q : Int) (d : ByteArray) : Bool := inR a 0 15 && inR q 0 65535 && decide (d.size ≤ 40)
def frmOk (c n f : Int) (d : ByteArray) : Bool := inR c 0 2 && inR n 0 255 && (inR f 0 23 || decide (f = 255)) && decide (d.size = 24)
def unpOk (c n : Int) (y : Bool) (r : ByteArray) (o : Int) : Bool := inR c 0 2 && inR n (-1) 255 && inR o 0 1000000 && (y || decide (r.size = 0)) && decide (r.size ≤ 43)
set_option maxHeartbeats 800000 in
theorem i_PacketOk (a q : Int) (d : ByteArray) (w : World) (hd : d.size ≤ 1099511627776) :
    Calls Try.prog 61 #[.agg #[.int .i64 a, .int .i64 q, .string d]] w fun e w' => e = .returned (.bool (pktOk a q d)) ∧ Below w.heap.size w w' := by
  go_enter Try.func61, Try.ntmps61
  go_wp2_with fail
  cases hc0 : inR a 0 15 with
  | false =>
    have H0 := hide hc0
    clear hc0
    refine (i_between_is _ _ _ _ _ H0.out).mono ?_
    rintro e w' ⟨rfl, rfl⟩
    go_wp2_with fail
    go_ret
    exact ⟨ret_bool (by unfold pktOk; simp [H0.out] <;> omega), (by repeat (first | exact Below.refl _ _ | refine Below.drew ?_ | refine Below.alloc ?_ (by first | exact Nat.le_refl _ | (simp; done) | (simp; omega)) _))⟩
  | true =>
    have H0 := hide hc0
    clear hc0
    refine (i_between_is _ _ _ _ _ H0.out).mono ?_
    rintro e w' ⟨rfl, rfl⟩
    go_wp2_with fail
    cases hc1 : inR q 0 65535 with
    | false =>
      have H1 := hide hc1
      clear hc1
      refine (i_between_is _ _ _ _ _ H1.out).mono ?_
      rintro e w' ⟨rfl, rfl⟩
      go_wp2_with fail
      go_ret
      exact ⟨ret_bool (by unfold pktOk; simp [H0.out, H1.out] <;> omega), (by repeat (first | exact Below.refl _ _ | refine Below.drew ?_ | refine Below.alloc ?_ (by first | exact Nat.le_refl _ | (simp; done) | (simp; omega)) _))⟩
    | true =>
      have H1 := hide hc1
      clear hc1
      refine (i_between_is _ _ _ _ _ H1.out).mono ?_
      rintro e w' ⟨rfl, rfl⟩
      by_cases hd2 : d.size ≤ 40
      · skip
        have HD2 := hide hd2
        go_wp2_with fail
        go_ret
        exact ⟨ret_bool (by unfold pktOk; simp [H0.out, H1.out, HD2.out] <;> omega), (by repeat (first | exact Below.refl _ _ | refine Below.drew ?_ | refine Below.alloc ?_ (by first | exact Nat.le_refl _ | (simp; done) | (simp; omega)) _))⟩
      · skip
        have HD2 := hide hd2
        go_wp2_with fail
        go_ret
        exact ⟨ret_bool (by unfold pktOk; simp [H0.out, H1.out, HD2.out] <;> omega), (by repeat (first | exact Below.refl _ _ | refine Below.drew ?_ | refine Below.alloc ?_ (by first | exact Nat.le_refl _ | (simp; done) | (simp; omega)) _))⟩
set_option maxHeartbeats 800000 in
theorem s_PacketOk (a q : Int) (d : ByteArray) (w : World) (hd : d.size ≤ 1099511627776) :
    Calls Try.prog 59 #[.agg #[.int .i64 a, .int .i64 q, .string d]] w fun e w' => e = .returned (.bool (pktOk a q d)) ∧ Below w.heap.size w w' := by
  go_enter Try.func59, Try.ntmps59
  go_wp2_with fail
  cases hc0 : inR a 0 15 with
  | false =>
    have H0 := hide hc0
    clear hc0
    refine (s_In_is _ _ _ _ _ H0.out).mono ?_
    rintro e w' ⟨rfl, rfl⟩
    go_wp2_with fail
    go_ret
    exact ⟨ret_bool (by unfold pktOk; simp [H0.out] <;> omega), (by repeat (first | exact Below.refl _ _ | refine Below.drew ?_ | refine Below.alloc ?_ (by first | exact Nat.le_refl _ | (simp; done) | (simp; omega)) _))⟩
  | true =>
    have H0 := hide hc0
    clear hc0
    refine (s_In_is _ _ _ _ _ H0.out).mono ?_
    rintro e w' ⟨rfl, rfl⟩
    go_wp2_with fail
    cases hc1 : inR q 0 65535 with
    | false =>
      have H1 := hide hc1
      clear hc1
      refine (s_In_is _ _ _ _ _ H1.out).mono ?_
      rintro e w' ⟨rfl, rfl⟩
      go_wp2_with fail
      go_ret
      exact ⟨ret_bool (by unfold pktOk; simp [H0.out, H1.out] <;> omega), (by repeat (first | exact Below.refl _ _ | refine Below.drew ?_ | refine Below.alloc ?_ (by first | exact Nat.le_refl _ | (simp; done) | (simp; omega)) _))⟩
    | true =>
      have H1 := hide hc1
      clear hc1
      refine (s_In_is _ _ _ _ _ H1.out).mono ?_
      rintro e w' ⟨rfl, rfl⟩
      by_cases hd2 : d.size ≤ 40
      · skip
        have HD2 := hide hd2
        go_wp2_with fail
        go_ret
        exact ⟨ret_bool (by unfold pktOk; simp [H0.out, H1.out, HD2.out] <;> omega), (by repeat (first | exact Below.refl _ _ | refine Below.drew ?_ | refine Below.alloc ?_ (by first | exact Nat.le_refl _ | (simp; done) | (simp; omega)) _))⟩
      · skip
        have HD2 := hide hd2
        go_wp2_with fail
        go_ret
        exact ⟨ret_bool (by unfold pktOk; simp [H0.out, H1.out, HD2.out] <;> omega), (by repeat (first | exact Below.refl _ _ | refine Below.drew ?_ | refine Below.alloc ?_ (by first | exact Nat.le_refl _ | (simp; done) | (simp; omega)) _))⟩
set_option maxHeartbeats 800000 in
theorem i_FrameOk (c n f : Int) (d : ByteArray) (w : World) (hd : d.size ≤ 1099511627776) :
    Calls Try.prog 72 #[.agg #[.int .i64 c, .int .i64 n, .int .i64 f, .string d]] w fun e w' => e = .returned (.bool (frmOk c n f d)) ∧ Below w.heap.size w w' := by
  go_enter Try.func72, Try.ntmps72
  go_wp2_with fail
  cases hc0 : inR f 0 23 with
  | false =>
    have H0 := hide hc0
    clear hc0
    refine (i_between_is _ _ _ _ _ H0.out).mono ?_
    rintro e w' ⟨rfl, rfl⟩
    by_cases hd1 : f = 255
    · have e0 : (f == 255) = true := beq_iff_eq.2 (by omega)
      have HD1 := hide hd1
      clear hd1
      go_wp2_with fail
      cases hc2 : inR c 0 2 with
      | false =>
        have H2 := hide hc2
        clear hc2
        refine (i_between_is _ _ _ _ _ H2.out).mono ?_
        rintro e w' ⟨rfl, rfl⟩
        go_wp2_with fail
        go_ret
        exact ⟨ret_bool (by unfold frmOk; simp [H0.out, HD1.out, H2.out] <;> omega), (by repeat (first | exact Below.refl _ _ | refine Below.drew ?_ | refine Below.alloc ?_ (by first | exact Nat.le_refl _ | (simp; done) | (simp; omega)) _))⟩
      | true =>
        have H2 := hide hc2
        clear hc2
        refine (i_between_is _ _ _ _ _ H2.out).mono ?_
        rintro e w' ⟨rfl, rfl⟩
        go_wp2_with fail
        cases hc3 : inR n 0 255 with
        | false =>
          have H3 := hide hc3
          clear hc3
          refine (i_between_is _ _ _ _ _ H3.out).mono ?_
          rintro e w' ⟨rfl, rfl⟩
          go_wp2_with fail
          go_ret
          exact ⟨ret_bool (by unfold frmOk; simp [H0.out, HD1.out, H2.out, H3.out] <;> omega), (by repeat (first | exact Below.refl _ _ | refine Below.drew ?_ | refine Below.alloc ?_ (by first | exact Nat.le_refl _ | (simp; done) | (simp; omega)) _))⟩
        | true =>
          have H3 := hide hc3
          clear hc3
          refine (i_between_is _ _ _ _ _ H3.out).mono ?_
          rintro e w' ⟨rfl, rfl⟩
          by_cases hd4 : d.size = 24
          · have e1 : ((d.size : Int) == 24) = true := beq_iff_eq.2 (by omega)
            have HD4 := hide hd4
            clear hd4
            go_wp2_with fail
            go_ret
            exact ⟨ret_bool (by unfold frmOk; simp [H0.out, HD1.out, H2.out, H3.out, HD4.out] <;> omega), (by repeat (first | exact Below.refl _ _ | refine Below.drew ?_ | refine Below.alloc ?_ (by first | exact Nat.le_refl _ | (simp; done) | (simp; omega)) _))⟩
          · have e1 : ((d.size : Int) == 24) = false := beq_eq_false_iff_ne.2 (by omega)
            have HD4 := hide hd4
            clear hd4
            go_wp2_with fail
            go_ret
            exact ⟨ret_bool (by unfold frmOk; simp [H0.out, HD1.out, H2.out, H3.out, HD4.out] <;> omega), (by repeat (first | exact Below.refl _ _ | refine Below.drew ?_ | refine Below.alloc ?_ (by first | exact Nat.le_refl _ | (simp; done) | (simp; omega)) _))⟩
    · have e0 : (f == 255) = false := beq_eq_false_iff_ne.2 (by omega)
      have HD1 := hide hd1
      clear hd1
      go_wp2_with fail
      cases hc2 : inR c 0 2 with
      | false =>
        have H2 := hide hc2
        clear hc2
        refine (i_between_is _ _ _ _ _ H2.out).mono ?_
        rintro e w' ⟨rfl, rfl⟩
        go_wp2_with fail
        go_ret
        exact ⟨ret_bool (by unfold frmOk; simp [H0.out, HD1.out, H2.out] <;> omega), (by repeat (first | exact Below.refl _ _ | refine Below.drew ?_ | refine Below.alloc ?_ (by first | exact Nat.le_refl _ | (simp; done) | (simp; omega)) _))⟩
      | true =>
        have H2 := hide hc2
        clear hc2
        refine (i_between_is _ _ _ _ _ H2.out).mono ?_
        rintro e w' ⟨rfl, rfl⟩
        go_wp2_with fail
        cases hc3 : inR n 0 255 with
        | false =>
          have H3 := hide hc3
          clear hc3
          refine (i_between_is _ _ _ _ _ H3.out).mono ?_
          rintro e w' ⟨rfl, rfl⟩
          go_wp2_with fail
          go_ret
          exact ⟨ret_bool (by unfold frmOk; simp [H0.out, HD1.out, H2.out, H3.out] <;> omega), (by repeat (first | exact Below.refl _ _ | refine Below.drew ?_ | refine Below.alloc ?_ (by first | exact Nat.le_refl _ | (simp; done) | (simp; omega)) _))⟩
        | true =>
          have H3 := hide hc3
          clear hc3
          refine (i_between_is _ _ _ _ _ H3.out).mono ?_
          rintro e w' ⟨rfl, rfl⟩
          go_wp2_with fail
          go_ret
          exact ⟨ret_bool (by unfold frmOk; simp [H0.out, HD1.out, H2.out, H3.out] <;> omega), (by repeat (first | exact Below.refl _ _ | refine Below.drew ?_ | refine Below.alloc ?_ (by first | exact Nat.le_refl _ | (simp; done) | (simp; omega)) _))⟩
  | true =>
    have H0 := hide hc0
    clear hc0
    refine (i_between_is _ _ _ _ _ H0.out).mono ?_
    rintro e w' ⟨rfl, rfl⟩
    go_wp2_with fail
    cases hc1 : inR c 0 2 with
    | false =>
      have H1 := hide hc1
      clear hc1
      refine (i_between_is _ _ _ _ _ H1.out).mono ?_
      rintro e w' ⟨rfl, rfl⟩
      go_wp2_with fail
      go_ret
      exact ⟨ret_bool (by unfold frmOk; simp [H0.out, H1.out] <;> omega), (by repeat (first | exact Below.refl _ _ | refine Below.drew ?_ | refine Below.alloc ?_ (by first | exact Nat.le_refl _ | (simp; done) | (simp; omega)) _))⟩
    | true =>
      have H1 := hide hc1
      clear hc1
      refine (i_between_is _ _ _ _ _ H1.out).mono ?_
      rintro e w' ⟨rfl, rfl⟩
      go_wp2_with fail
      cases hc2 : inR n 0 255 with
      | false =>
        have H2 := hide hc2
        clear hc2
        refine (i_between_is _ _ _ _ _ H2.out).mono ?_
        rintro e w' ⟨rfl, rfl⟩
        go_wp2_with fail
        go_ret
        exact ⟨ret_bool (by unfold frmOk; simp [H0.out, H1.out, H2.out] <;> omega), (by repeat (first | exact Below.refl _ _ | refine Below.drew ?_ | refine Below.alloc ?_ (by first | exact Nat.le_refl _ | (simp; done) | (simp; omega)) _))⟩
      | true =>
        have H2 := hide hc2
        clear hc2
        refine (i_between_is _ _ _ _ _ H2.out).mono ?_
        rintro e w' ⟨rfl, rfl⟩
        by_cases hd3 : d.size = 24
        · have e1 : ((d.size : Int) == 24) = true := beq_iff_eq.2 (by omega)
          have HD3 := hide hd3
          clear hd3
          go_wp2_with fail
          go_ret
          exact ⟨ret_bool (by unfold frmOk; simp [H0.out, H1.out, H2.out, HD3.out] <;> omega), (by repeat (first | exact Below.refl _ _ | refine Below.drew ?_ | refine Below.alloc ?_ (by first | exact Nat.le_refl _ | (simp; done) | (simp; omega)) _))⟩
        · have e1 : ((d.size : Int) == 24) = false := beq_eq_false_iff_ne.2 (by omega)
          have HD3 := hide hd3
          clear hd3
          go_wp2_with fail
          go_ret
          exact ⟨ret_bool (by unfold frmOk; simp [H0.out, H1.out, H2.out, HD3.out] <;> omega), (by repeat (first | exact Below.refl _ _ | refine Below.drew ?_ | refine Below.alloc ?_ (by first | exact Nat.le_refl _ | (simp; done) | (simp; omega)) _))⟩
set_option maxHeartbeats 800000 in
theorem s_FrameOk (c n f : Int) (d : ByteArray) (w : World) (hd : d.size ≤ 1099511627776) :
    Calls Try.prog 68 #[.agg #[.int .i64 c, .int .i64 n, .int .i64 f, .string d]] w fun e w' => e = .returned (.bool (frmOk c n f d)) ∧ Below w.heap.size w w' := by
  go_enter Try.func68, Try.ntmps68
  go_wp2_with fail
  cases hc0 : inR c 0 2 with
  | false =>
    have H0 := hide hc0
    clear hc0
    refine (s_In_is _ _ _ _ _ H0.out).mono ?_
    rintro e w' ⟨rfl, rfl⟩
    go_wp2_with fail
    go_ret
    exact ⟨ret_bool (by unfold frmOk; simp [H0.out] <;> omega), (by repeat (first | exact Below.refl _ _ | refine Below.drew ?_ | refine Below.alloc ?_ (by first | exact Nat.le_refl _ | (simp; done) | (simp; omega)) _))⟩
  | true =>
    have H0 := hide hc0
    clear hc0
    refine (s_In_is _ _ _ _ _ H0.out).mono ?_
    rintro e w' ⟨rfl, rfl⟩
    go_wp2_with fail
    cases hc1 : inR n 0 255 with
    | false =>
      have H1 := hide hc1
      clear hc1
      refine (s_In_is _ _ _ _ _ H1.out).mono ?_
      rintro e w' ⟨rfl, rfl⟩
      go_wp2_with fail
      go_ret
      exact ⟨ret_bool (by unfold frmOk; simp [H0.out, H1.out] <;> omega), (by repeat (first | exact Below.refl _ _ | refine Below.drew ?_ | refine Below.alloc ?_ (by first | exact Nat.le_refl _ | (simp; done) | (simp; omega)) _))⟩
    | true =>
      have H1 := hide hc1
      clear hc1
      refine (s_In_is _ _ _ _ _ H1.out).mono ?_
      rintro e w' ⟨rfl, rfl⟩
      go_wp2_with fail
      cases hc2 : inR f 0 23 with
      | false =>
        have H2 := hide hc2
        clear hc2
        refine (s_In_is _ _ _ _ _ H2.out).mono ?_
        rintro e w' ⟨rfl, rfl⟩
        by_cases hd3 : f = 255
        · have e0 : (f == 255) = true := beq_iff_eq.2 (by omega)
          have HD3 := hide hd3
          clear hd3
          by_cases hd4 : d.size = 24
          · have e1 : ((d.size : Int) == 24) = true := beq_iff_eq.2 (by omega)
            have HD4 := hide hd4
            clear hd4
            go_wp2_with fail
            go_ret
            exact ⟨ret_bool (by unfold frmOk; simp [H0.out, H1.out, H2.out, HD3.out, HD4.out] <;> omega), (by repeat (first | exact Below.refl _ _ | refine Below.drew ?_ | refine Below.alloc ?_ (by first | exact Nat.le_refl _ | (simp; done) | (simp; omega)) _))⟩
          · have e1 : ((d.size : Int) == 24) = false := beq_eq_false_iff_ne.2 (by omega)
            have HD4 := hide hd4
            clear hd4
            go_wp2_with fail
            go_ret
            exact ⟨ret_bool (by unfold frmOk; simp [H0.out, H1.out, H2.out, HD3.out, HD4.out] <;> omega), (by repeat (first | exact Below.refl _ _ | refine Below.drew ?_ | refine Below.alloc ?_ (by first | exact Nat.le_refl _ | (simp; done) | (simp; omega)) _))⟩
        · have e0 : (f == 255) = false := beq_eq_false_iff_ne.2 (by omega)
          have HD3 := hide hd3
          clear hd3
          go_wp2_with fail
          go_ret
          exact ⟨ret_bool (by unfold frmOk; simp [H0.out, H1.out, H2.out, HD3.out] <;> omega), (by repeat (first | exact Below.refl _ _ | refine Below.drew ?_ | refine Below.alloc ?_ (by first | exact Nat.le_refl _ | (simp; done) | (simp; omega)) _))⟩
      | true =>
        have H2 := hide hc2
        clear hc2
        refine (s_In_is _ _ _ _ _ H2.out).mono ?_
        rintro e w' ⟨rfl, rfl⟩
        by_cases hd3 : d.size = 24
        · have e1 : ((d.size : Int) == 24) = true := beq_iff_eq.2 (by omega)
          have HD3 := hide hd3
          clear hd3
          go_wp2_with fail
          go_ret
          exact ⟨ret_bool (by unfold frmOk; simp [H0.out, H1.out, H2.out, HD3.out] <;> omega), (by repeat (first | exact Below.refl _ _ | refine Below.drew ?_ | refine Below.alloc ?_ (by first | exact Nat.le_refl _ | (simp; done) | (simp; omega)) _))⟩
        · have e1 : ((d.size : Int) == 24) = false := beq_eq_false_iff_ne.2 (by omega)
          have HD3 := hide hd3
          clear hd3
          go_wp2_with fail
          go_ret
          exact ⟨ret_bool (by unfold frmOk; simp [H0.out, H1.out, H2.out, HD3.out] <;> omega), (by repeat (first | exact Below.refl _ _ | refine Below.drew ?_ | refine Below.alloc ?_ (by first | exact Nat.le_refl _ | (simp; done) | (simp; omega)) _))⟩
set_option maxHeartbeats 800000 in
theorem i_UnpackerOk (c n : Int) (y : Bool) (r : ByteArray) (o : Int) (w : World) (hd : r.size ≤ 1099511627776) :
    Calls Try.prog 71 #[.agg #[.int .i64 c, .int .i64 n, .bool y, .string r, .int .i64 o]] w fun e w' => e = .returned (.bool (unpOk c n y r o)) ∧ Below w.heap.size w w' := by
  go_enter Try.func71, Try.ntmps71
  go_wp2_with fail
  cases hc0 : inR c 0 2 with
  | false =>
    have H0 := hide hc0
    clear hc0
    refine (i_between_is _ _ _ _ _ H0.out).mono ?_
    rintro e w' ⟨rfl, rfl⟩
    go_wp2_with fail
    go_ret
    exact ⟨ret_bool (by unfold unpOk; simp [H0.out] <;> omega), (by repeat (first | exact Below.refl _ _ | refine Below.drew ?_ | refine Below.alloc ?_ (by first | exact Nat.le_refl _ | (simp; done) | (simp; omega)) _))⟩
  | true =>
    have H0 := hide hc0
    clear hc0
    refine (i_between_is _ _ _ _ _ H0.out).mono ?_
    rintro e w' ⟨rfl, rfl⟩
    go_wp2_with fail
    cases hc1 : inR n (-1) 255 with
    | false =>
      have H1 := hide hc1
      clear hc1
      refine (i_between_is _ _ _ _ _ H1.out).mono ?_
      rintro e w' ⟨rfl, rfl⟩
      go_wp2_with fail
      go_ret
      exact ⟨ret_bool (by unfold unpOk; simp [H0.out, H1.out] <;> omega), (by repeat (first | exact Below.refl _ _ | refine Below.drew ?_ | refine Below.alloc ?_ (by first | exact Nat.le_refl _ | (simp; done) | (simp; omega)) _))⟩
    | true =>
      have H1 := hide hc1
      clear hc1
      refine (i_between_is _ _ _ _ _ H1.out).mono ?_
      rintro e w' ⟨rfl, rfl⟩
      go_wp2_with fail
      cases hc2 : inR o 0 1000000 with
      | false =>
        have H2 := hide hc2
        clear hc2
        refine (i_between_is _ _ _ _ _ H2.out).mono ?_
        rintro e w' ⟨rfl, rfl⟩
        go_wp2_with fail
        go_ret
        exact ⟨ret_bool (by unfold unpOk; simp [H0.out, H1.out, H2.out] <;> omega), (by repeat (first | exact Below.refl _ _ | refine Below.drew ?_ | refine Below.alloc ?_ (by first | exact Nat.le_refl _ | (simp; done) | (simp; omega)) _))⟩
      | true =>
        have H2 := hide hc2
        clear hc2
        refine (i_between_is _ _ _ _ _ H2.out).mono ?_
        rintro e w' ⟨rfl, rfl⟩
        by_cases hd3 : y = true
        · subst hd3
          by_cases hd4 : r.size ≤ 43
          · skip
            have HD4 := hide hd4
            go_wp2_with fail
            go_ret
            exact ⟨ret_bool (by unfold unpOk; simp [H0.out, H1.out, H2.out, HD4.out] <;> omega), (by repeat (first | exact Below.refl _ _ | refine Below.drew ?_ | refine Below.alloc ?_ (by first | exact Nat.le_refl _ | (simp; done) | (simp; omega)) _))⟩
          · skip
            have HD4 := hide hd4
            go_wp2_with fail
            go_ret
            exact ⟨ret_bool (by unfold unpOk; simp [H0.out, H1.out, H2.out, HD4.out] <;> omega), (by repeat (first | exact Below.refl _ _ | refine Below.drew ?_ | refine Below.alloc ?_ (by first | exact Nat.le_refl _ | (simp; done) | (simp; omega)) _))⟩
        · have hy0 : y = false := by simpa using hd3
          subst hy0
          by_cases hd4 : r.size = 0
          · have e2 := empty_yes (s := r) (by omega)
            have HD4 := hide hd4
            clear hd4
            by_cases hd5 : r.size ≤ 43
            · skip
              have HD5 := hide hd5
              go_wp2_with fail
              go_ret
              exact ⟨ret_bool (by unfold unpOk; simp [H0.out, H1.out, H2.out, HD4.out, HD5.out] <;> omega), (by repeat (first | exact Below.refl _ _ | refine Below.drew ?_ | refine Below.alloc ?_ (by first | exact Nat.le_refl _ | (simp; done) | (simp; omega)) _))⟩
            · skip
              have HD5 := hide hd5
              go_wp2_with fail
              go_ret
              exact ⟨ret_bool (by unfold unpOk; simp [H0.out, H1.out, H2.out, HD4.out, HD5.out] <;> omega), (by repeat (first | exact Below.refl _ _ | refine Below.drew ?_ | refine Below.alloc ?_ (by first | exact Nat.le_refl _ | (simp; done) | (simp; omega)) _))⟩
          · have e2 := empty_no (s := r) (by omega)
            have HD4 := hide hd4
            clear hd4
            go_wp2_with fail
            go_ret
            exact ⟨ret_bool (by unfold unpOk; simp [H0.out, H1.out, H2.out, HD4.out] <;> omega), (by repeat (first | exact Below.refl _ _ | refine Below.drew ?_ | refine Below.alloc ?_ (by first | exact Nat.le_refl _ | (simp; done) | (simp; omega)) _))⟩
set_option maxHeartbeats 800000 in
theorem s_UnpackerOk (c n : Int) (y : Bool) (r : ByteArray) (o : Int) (w : World) (hd : r.size ≤ 1099511627776) :
    Calls Try.prog 67 #[.agg #[.int .i64 c, .int .i64 n, .bool y, .string r, .int .i64 o]] w fun e w' => e = .returned (.bool (unpOk c n y r o)) ∧ Below w.heap.size w w' := by
  go_enter Try.func67, Try.ntmps67
  go_wp2_with fail
  cases hc0 : inR c 0 2 with
  | false =>
    have H0 := hide hc0
    clear hc0
    refine (s_In_is _ _ _ _ _ H0.out).mono ?_
    rintro e w' ⟨rfl, rfl⟩
    go_wp2_with fail
    go_ret
    exact ⟨ret_bool (by unfold unpOk; simp [H0.out] <;> omega), (by repeat (first | exact Below.refl _ _ | refine Below.drew ?_ | refine Below.alloc ?_ (by first | exact Nat.le_refl _ | (simp; done) | (simp; omega)) _))⟩
  | true =>
    have H0 := hide hc0
    clear hc0
    refine (s_In_is _ _ _ _ _ H0.out).mono ?_
    rintro e w' ⟨rfl, rfl⟩
    go_wp2_with fail
    cases hc1 : inR n (-1) 255 with
    | false =>
      have H1 := hide hc1
      clear hc1
      refine (s_In_is _ _ _ _ _ H1.out).mono ?_
      rintro e w' ⟨rfl, rfl⟩
      go_wp2_with fail
      go_ret
      exact ⟨ret_bool (by unfold unpOk; simp [H0.out, H1.out] <;> omega), (by repeat (first | exact Below.refl _ _ | refine Below.drew ?_ | refine Below.alloc ?_ (by first | exact Nat.le_refl _ | (simp; done) | (simp; omega)) _))⟩
    | true =>
      have H1 := hide hc1
      clear hc1
      refine (s_In_is _ _ _ _ _ H1.out).mono ?_
      rintro e w' ⟨rfl, rfl⟩
      go_wp2_with fail
      cases hc2 : inR o 0 1000000 with
      | false =>
        have H2 := hide hc2
        clear hc2
        refine (s_In_is _ _ _ _ _ H2.out).mono ?_
        rintro e w' ⟨rfl, rfl⟩
        go_wp2_with fail
        go_ret
        exact ⟨ret_bool (by unfold unpOk; simp [H0.out, H1.out, H2.out] <;> omega), (by repeat (first | exact Below.refl _ _ | refine Below.drew ?_ | refine Below.alloc ?_ (by first | exact Nat.le_refl _ | (simp; done) | (simp; omega)) _))⟩
      | true =>
        have H2 := hide hc2
        clear hc2
        refine (s_In_is _ _ _ _ _ H2.out).mono ?_
        rintro e w' ⟨rfl, rfl⟩
        by_cases hd3 : y = true
        · subst hd3
          by_cases hd4 : r.size ≤ 43
          · skip
            have HD4 := hide hd4
            go_wp2_with fail
            go_ret
            exact ⟨ret_bool (by unfold unpOk; simp [H0.out, H1.out, H2.out, HD4.out] <;> omega), (by repeat (first | exact Below.refl _ _ | refine Below.drew ?_ | refine Below.alloc ?_ (by first | exact Nat.le_refl _ | (simp; done) | (simp; omega)) _))⟩
          · skip
            have HD4 := hide hd4
            go_wp2_with fail
            go_ret
            exact ⟨ret_bool (by unfold unpOk; simp [H0.out, H1.out, H2.out, HD4.out] <;> omega), (by repeat (first | exact Below.refl _ _ | refine Below.drew ?_ | refine Below.alloc ?_ (by first | exact Nat.le_refl _ | (simp; done) | (simp; omega)) _))⟩
        · have hy0 : y = false := by simpa using hd3
          subst hy0
          by_cases hd4 : r.size = 0
          · have e2 := empty_yes (s := r) (by omega)
            have HD4 := hide hd4
            clear hd4
            by_cases hd5 : r.size ≤ 43
            · skip
              have HD5 := hide hd5
              go_wp2_with fail
              go_ret
              exact ⟨ret_bool (by unfold unpOk; simp [H0.out, H1.out, H2.out, HD4.out, HD5.out] <;> omega), (by repeat (first | exact Below.refl _ _ | refine Below.drew ?_ | refine Below.alloc ?_ (by first | exact Nat.le_refl _ | (simp; done) | (simp; omega)) _))⟩
            · skip
              have HD5 := hide hd5
              go_wp2_with fail
              go_ret
              exact ⟨ret_bool (by unfold unpOk; simp [H0.out, H1.out, H2.out, HD4.out, HD5.out] <;> omega), (by repeat (first | exact Below.refl _ _ | refine Below.drew ?_ | refine Below.alloc ?_ (by first | exact Nat.le_refl _ | (simp; done) | (simp; omega)) _))⟩
          · have e2 := empty_no (s := r) (by omega)
            have HD4 := hide hd4
            clear hd4
            go_wp2_with fail
            go_ret
            exact ⟨ret_bool (by unfold unpOk; simp [H0.out, H1.out, H2.out, HD4.out] <;> omega), (by repeat (first | exact Below.refl _ _ | refine Below.drew ?_ | refine Below.alloc ?_ (by first | exact Nat.le_refl _ | (simp; done) | (simp; omega)) _))⟩
set_option maxHeartbeats 400000 in
theorem l_toPacket (a q : Int) (d : ByteArray) (w : World) :
    Calls Try.prog 17 #[.agg #[.int .i64 a, .int .i64 q, .string d]] w fun e w' => e = .returned (.agg #[.int .i64 a, .int .i64 q, .string d]) ∧ Below w.heap.size w w' := by
  go_enter Try.func17, Try.ntmps17
  go_wp2
  exact bodyPost_ret (v := .agg #[.int .i64 a, .int .i64 q, .string d]) (by simp [results, Try.results17, go_sem]) rfl ⟨rfl, (by repeat (first | exact Below.refl _ _ | refine Below.drew ?_ | refine Below.alloc ?_ (by first | exact Nat.le_refl _ | (simp; done) | (simp; omega)) _))⟩
set_option maxHeartbeats 400000 in
theorem l_toFrame (c n f : Int) (d : ByteArray) (w : World) :
    Calls Try.prog 33 #[.agg #[.int .i64 c, .int .i64 n, .int .i64 f, .string d]] w fun e w' => e = .returned (.agg #[.int .i64 c, .int .i64 n, .int .i64 f, .string d]) ∧ Below w.heap.size w w' := by
  go_enter Try.func33, Try.ntmps33
  go_wp2
  exact bodyPost_ret (v := .agg #[.int .i64 c, .int .i64 n, .int .i64 f, .string d]) (by simp [results, Try.results33, go_sem]) rfl ⟨rfl, (by repeat (first | exact Below.refl _ _ | refine Below.drew ?_ | refine Below.alloc ?_ (by first | exact Nat.le_refl _ | (simp; done) | (simp; omega)) _))⟩
set_option maxHeartbeats 400000 in
theorem l_toUnpacker (c n : Int) (y : Bool) (r : ByteArray) (o : Int) (w : World) :
    Calls Try.prog 32 #[.agg #[.int .i64 c, .int .i64 n, .bool y, .string r, .int .i64 o]] w fun e w' => e = .returned (.agg #[.int .i64 c, .int .i64 n, .bool y, .string r, .int .i64 o]) ∧ Below w.heap.size w w' := by
  go_enter Try.func32, Try.ntmps32
  go_wp2
  exact bodyPost_ret (v := .agg #[.int .i64 c, .int .i64 n, .bool y, .string r, .int .i64 o]) (by simp [results, Try.results32, go_sem]) rfl ⟨rfl, (by repeat (first | exact Below.refl _ _ | refine Below.drew ?_ | refine Below.alloc ?_ (by first | exact Nat.le_refl _ | (simp; done) | (simp; omega)) _))⟩
set_option maxHeartbeats 400000 in
theorem l_szPacket_no (a q : Int) (d : ByteArray) (lf : Int) (w : World) (hn0 : 0 ≤ lf) (hn : lf ≤ 1048576) (hd : d.size ≤ 9223372036854775807) (h : (d.size : Int) ≤ lf) :
    Calls Try.prog 15 #[.agg #[.int .i64 a, .int .i64 q, .string d], .int .i64 lf] w fun e w' => e = .returned (.int .i64 (lf - d.size)) ∧ Below w.heap.size w w' := by
  go_enter Try.func15, Try.ntmps15
  go_wp2
  go_ret
  exact ⟨rfl, (by repeat (first | exact Below.refl _ _ | refine Below.drew ?_ | refine Below.alloc ?_ (by first | exact Nat.le_refl _ | (simp; done) | (simp; omega)) _))⟩
set_option maxHeartbeats 400000 in
theorem l_szPacket_big (a q : Int) (d : ByteArray) (lf : Int) (w : World) (hn0 : 0 ≤ lf) (hn : lf ≤ 1048576) (hd : d.size ≤ 9223372036854775807) (h : lf < (d.size : Int)) :
    Calls Try.prog 15 #[.agg #[.int .i64 a, .int .i64 q, .string d], .int .i64 lf] w fun e w' => e = .returned (.int .i64 (-1)) ∧ Below w.heap.size w w' := by
  go_enter Try.func15, Try.ntmps15
  go_wp2
  go_ret
  exact ⟨rfl, (by repeat (first | exact Below.refl _ _ | refine Below.drew ?_ | refine Below.alloc ?_ (by first | exact Nat.le_refl _ | (simp; done) | (simp; omega)) _))⟩
set_option maxHeartbeats 400000 in
theorem l_szFrame_no (c n f : Int) (d : ByteArray) (lf : Int) (w : World) (hn0 : 0 ≤ lf) (hn : lf ≤ 1048576) (hd : d.size ≤ 9223372036854775807) (h : (d.size : Int) ≤ lf) :
    Calls Try.prog 30 #[.agg #[.int .i64 c, .int .i64 n, .int .i64 f, .string d], .int .i64 lf] w fun e w' => e = .returned (.int .i64 (lf - d.size)) ∧ Below w.heap.size w w' := by
  go_enter Try.func30, Try.ntmps30
  go_wp2
  go_ret
  exact ⟨rfl, (by repeat (first | exact Below.refl _ _ | refine Below.drew ?_ | refine Below.alloc ?_ (by first | exact Nat.le_refl _ | (simp; done) | (simp; omega)) _))⟩
set_option maxHeartbeats 400000 in
theorem l_szFrame_big (c n f : Int) (d : ByteArray) (lf : Int) (w : World) (hn0 : 0 ≤ lf) (hn : lf ≤ 1048576) (hd : d.size ≤ 9223372036854775807) (h : lf < (d.size : Int)) :
    Calls Try.prog 30 #[.agg #[.int .i64 c, .int .i64 n, .int .i64 f, .string d], .int .i64 lf] w fun e w' => e = .returned (.int .i64 (-1)) ∧ Below w.heap.size w w' := by
  go_enter Try.func30, Try.ntmps30
  go_wp2
  go_ret
  exact ⟨rfl, (by repeat (first | exact Below.refl _ _ | refine Below.drew ?_ | refine Below.alloc ?_ (by first | exact Nat.le_refl _ | (simp; done) | (simp; omega)) _))⟩
set_option maxHeartbeats 400000 in
theorem l_szUnpacker_no (c n : Int) (y : Bool) (r : ByteArray) (o : Int) (lf : Int) (w : World) (hn0 : 0 ≤ lf) (hn : lf ≤ 1048576) (hd : r.size ≤ 9223372036854775807) (h : (r.size : Int) ≤ lf) :
    Calls Try.prog 29 #[.agg #[.int .i64 c, .int .i64 n, .bool y, .string r, .int .i64 o], .int .i64 lf] w fun e w' => e = .returned (.int .i64 (lf - r.size)) ∧ Below w.heap.size w w' := by
  go_enter Try.func29, Try.ntmps29
  go_wp2
  go_ret
  exact ⟨rfl, (by repeat (first | exact Below.refl _ _ | refine Below.drew ?_ | refine Below.alloc ?_ (by first | exact Nat.le_refl _ | (simp; done) | (simp; omega)) _))⟩
set_option maxHeartbeats 400000 in
theorem l_szUnpacker_big (c n : Int) (y : Bool) (r : ByteArray) (o : Int) (lf : Int) (w : World) (hn0 : 0 ≤ lf) (hn : lf ≤ 1048576) (hd : r.size ≤ 9223372036854775807) (h : lf < (r.size : Int)) :
    Calls Try.prog 29 #[.agg #[.int .i64 c, .int .i64 n, .bool y, .string r, .int .i64 o], .int .i64 lf] w fun e w' => e = .returned (.int .i64 (-1)) ∧ Below w.heap.size w w' := by
  go_enter Try.func29, Try.ntmps29
  go_wp2
  go_ret
  exact ⟨rfl, (by repeat (first | exact Below.refl _ _ | refine Below.drew ?_ | refine Below.alloc ?_ (by first | exact Nat.le_refl _ | (simp; done) | (simp; omega)) _))⟩
end Go.Proofs.Ytnelfadmcpacbaa
