/- What the comparison of two packers and the test of a packer return, in the program and in the reference. -/
import Derived.Test.YtnelfadmcpacbaaPckA
import Derived.Deep.RegionHeld3
import Derived.Deep.DrawnRows
namespace Go.Proofs.Ytnelfadmcpacbaa
open Go.RowKit Sat
set_option linter.unusedVariables false
set_option linter.unusedSimpArgs false
attribute [local go_sem ↓] Go.wp_at_zero Go.wp_at_succ

/-- the first k starts ascend and lie within -/
def stTo (R : Nat) (l : List Int) : Nat → Bool
  | 0 => true
  | k + 1 => stTo R l k && (inR (l.getD k 0) 0 ((R : Int) - 1) && (decide (k = 0) || decide (l.getD (k - 1) 0 < l.getD k 0)))
def pkOk (a b : Int) (r : ByteArray) (l : List Int) : Bool := inR a 0 2 && inR b 0 255 && decide (r.size ≤ 5000) && stTo r.size l l.length
theorem stTo_bad {R : Nat} {l : List Int} {k : Nat} (hk : k < l.length) (h : stTo R l (k + 1) = false) : stTo R l l.length = false := by
  have : ∀ n, k + 1 ≤ n → stTo R l n = false := by
    intro n
    induction n with
    | zero => intro h; omega
    | succ n ih =>
      intro hn
      by_cases e : k = n
      · subst e; exact h
      · rw [stTo, ih (by omega)]; rfl
  exact this _ (by omega)
set_option maxHeartbeats 1600000 in
theorem l_eqPacker (a b : Int) (r : ByteArray) (B1 B2 : Nat) (v1 v2 : Value) (l : List Int) (w : World) (h1 : w.ownsRow B1 3 1 v1 l.length (Is l)) (h2 : w.ownsRow B2 3 1 v2 l.length (Is l)) (hl : l.length ≤ 1048576) :
    Calls Try.prog 14 #[.agg #[.int .i64 a, .int .i64 b, .string r, v1], .agg #[.int .i64 a, .int .i64 b, .string r, v2]] w fun e w' => e = .returned (.bool true) ∧ Below w.heap.size w w' := by
  obtain ⟨A1, c1, rfl⟩ := own_form h1
  obtain ⟨A2, c2, rfl⟩ := own_form h2
  have H1 := hide h1
  have H2 := hide h2
  clear h1 h2
  go_enter Try.func14, Try.ntmps14
  go_wp2_with fail
  refine (l_eqIntS B1 B2 _ _ l _ ((H1.out.alloc _).alloc _) ((H2.out.alloc _).alloc _) (by omega)).mono ?_
  rintro e w1 ⟨rfl, m, rfl⟩
  go_wp2_with fail
  go_ret
  exact ⟨rfl, (by repeat (first | exact Below.refl _ _ | refine Below.drew ?_ | refine below_drewN ?_ _ | refine Below.alloc ?_ (by first | exact Nat.le_refl _ | (simp; done) | (simp; omega)) _))⟩
set_option maxHeartbeats 1600000 in
theorem i_PackerOk_in (a b : Int) (r : ByteArray) (A : Option Addr) (n c : Nat) (l : List Int) (w : World) (h : RI w A n l) (hn : n ≤ 1048576) (ha : inR a 0 2 = true) (hb : inR b 0 255 = true) (hr : r.size ≤ 5000) :
    Calls Try.prog 13 #[.agg #[.int .i64 a, .int .i64 b, .string r, .slice A n c]] w fun e w' => e = .returned (.bool (pkOk a b r l)) ∧ Below w.heap.size w w' := by
  have HL := hide h.1
  have H := hide h
  have H0 := hide ha
  have H1 := hide hb
  have HP := hide (show pkOk a b r l = stTo r.size l l.length by unfold pkOk; rw [ha, hb, decide_eq_true hr]; rfl)
  clear h ha hb
  go_enter Try.func13, Try.ntmps13
  go_wp2_with fail
  refine (i_between_is _ _ _ _ _ H0.out).mono ?_
  rintro e w' ⟨rfl, rfl⟩
  go_wp2_with fail
  refine (i_between_is _ _ _ _ _ H1.out).mono ?_
  rintro e w' ⟨rfl, rfl⟩
  go_wp2_with fail
  have hbW : Below w.heap.size w (w.alloc (.cells #[.int .i64 a, .int .i64 b, .string r, .slice A n c] 27)) := (Below.refl w.heap.size w).alloc (Nat.le_refl _) _
  have bx : Box (w.alloc (.cells #[.int .i64 a, .int .i64 b, .string r, .slice A n c] 27)) w.heap.size [.int .i64 a, .int .i64 b, .string r, .slice A n c] := by simpa using Box.new w #[.int .i64 a, .int .i64 b, .string r, .slice A n c] 27
  generalize (w.alloc (.cells #[.int .i64 a, .int .i64 b, .string r, .slice A n c] 27)) = W at *
  have HW := hide hbW
  have x0 := bx.c 0 rfl
  have x1 := bx.c 1 rfl
  have x2 := bx.c 2 rfl
  have x3 := bx.c 3 rfl
  have HR := hide (H.out.below hbW)
  clear hbW bx H
  go_loop [24] (fun iv => ∃ k : Nat, k ≤ n ∧ iv = .int .i64 k ∧ Hid (stTo r.size l k = true)) (fun iv => n - (intOf iv).toNat)
  case atStart => exact ⟨0, Nat.zero_le _, rfl, rfl⟩
  case round =>
    obtain ⟨k, hk, rfl, hst⟩ := hrel
    by_cases hlt : k < n
    · obtain ⟨g, off, rfl, hg, hc⟩ := HR.out.2 (by omega)
      have k1 := hc k hlt
      have HS := hide (show stTo r.size l (k + 1) = (stTo r.size l k && (inR (l.getD k 0) 0 ((r.size : Int) - 1) && (decide (k = 0) || decide (l.getD (k - 1) 0 < l.getD k 0)))) from rfl)
      have hkl : k < l.length := by rw [HL.out]; exact hlt
      cases hin : inR (l.getD k 0) 0 ((r.size : Int) - 1) with
      | false =>
        have hf := hide (stTo_bad hkl (by rw [HS.out, hin]; simp))
        have HI := hide hin
        clear hc hin HS
        generalize l.getD k 0 = x at *
        go_wp2_with fail
        refine (i_between_is _ _ _ _ _ HI.out).mono ?_
        rintro e w' ⟨rfl, rfl⟩
        go_wp2_with fail
        go_ret
        exact ⟨ret_bool (by rw [HP.out, hf.out]), HW.out⟩
      | true =>
        have HI := hide hin
        by_cases hk0 : k = 0
        · subst hk0
          have hn1 := hide (show stTo r.size l (0 + 1) = true by rw [HS.out, hst.out, hin]; rfl)
          clear hc hin HS
          rw [Nat.add_zero] at k1
          generalize l.getD 0 0 = x at *
          go_wp2_with fail
          refine (i_between_is _ _ _ _ _ HI.out).mono ?_
          rintro e w' ⟨rfl, rfl⟩
          go_wp2_with fail
          go_round
          case rel => exact ⟨1, by omega, by go_num, hn1⟩
          case measure => simp [intOf]; omega
        · have hkp : 0 < k := by omega
          have k0 := hc (k - 1) (by omega)
          have e1 : ((k : Int) - 1).toNat = k - 1 := by omega
          have e2 : (0 : Int) ≤ (k : Int) - 1 := by omega
          have e3 : (k : Int) - 1 < (n : Int) := by omega
          by_cases hle : l.getD (k - 1) 0 < l.getD k 0
          · have hn1 := hide (show stTo r.size l (k + 1) = true by rw [HS.out, hst.out, hin, decide_eq_true hle]; simp)
            clear hc hin HS hk0
            generalize l.getD k 0 = x at *
            generalize l.getD (k - 1) 0 = y at *
            have hxy : ¬ x ≤ y := by omega
            go_wp2_with fail
            refine (i_between_is _ _ _ _ _ HI.out).mono ?_
            rintro e w' ⟨rfl, rfl⟩
            go_wp2_with fail
            go_round
            case rel => exact ⟨k + 1, by omega, by go_num, hn1⟩
            case measure => simp [intOf]; omega
          · have hf := hide (stTo_bad hkl (by rw [HS.out, hin, decide_eq_false hle, decide_eq_false hk0]; simp))
            clear hc hin HS hk0
            generalize l.getD k 0 = x at *
            generalize l.getD (k - 1) 0 = y at *
            have hxy : x ≤ y := by omega
            go_wp2_with fail
            refine (i_between_is _ _ _ _ _ HI.out).mono ?_
            rintro e w' ⟨rfl, rfl⟩
            go_wp2_with fail
            go_ret
            exact ⟨ret_bool (by rw [HP.out, hf.out]), HW.out⟩
    · obtain rfl : k = n := by omega
      have hf := hide (show pkOk a b r l = true by rw [HP.out, HL.out]; exact hst.out)
      go_wp2_with fail
      go_ret
      exact ⟨ret_bool hf.out.symm, HW.out⟩
set_option maxHeartbeats 800000 in
theorem i_PackerOk (a b : Int) (r : ByteArray) (A : Option Addr) (n c : Nat) (l : List Int) (w : World) (h : RI w A n l) (hn : n ≤ 1048576) (hr : r.size ≤ 1099511627776) :
    Calls Try.prog 13 #[.agg #[.int .i64 a, .int .i64 b, .string r, .slice A n c]] w fun e w' => e = .returned (.bool (pkOk a b r l)) ∧ Below w.heap.size w w' := by
  cases ha : inR a 0 2 with
  | false =>
    have HF := hide (show pkOk a b r l = false by unfold pkOk; rw [ha]; rfl)
    have H0 := hide ha
    clear ha h
    go_enter Try.func13, Try.ntmps13
    go_wp2_with fail
    refine (i_between_is _ _ _ _ _ H0.out).mono ?_
    rintro e w' ⟨rfl, rfl⟩
    go_wp2_with fail
    go_ret
    exact ⟨ret_bool HF.out.symm, (Below.refl _ _).alloc (Nat.le_refl _) _⟩
  | true =>
    cases hb : inR b 0 255 with
    | false =>
      have HF := hide (show pkOk a b r l = false by unfold pkOk; rw [hb]; simp)
      have H0 := hide ha
      have H1 := hide hb
      clear ha hb h
      go_enter Try.func13, Try.ntmps13
      go_wp2_with fail
      refine (i_between_is _ _ _ _ _ H0.out).mono ?_
      rintro e w' ⟨rfl, rfl⟩
      go_wp2_with fail
      refine (i_between_is _ _ _ _ _ H1.out).mono ?_
      rintro e w' ⟨rfl, rfl⟩
      go_wp2_with fail
      go_ret
      exact ⟨ret_bool HF.out.symm, (Below.refl _ _).alloc (Nat.le_refl _) _⟩
    | true =>
      by_cases h5 : r.size ≤ 5000
      · exact i_PackerOk_in a b r A n c l w h hn ha hb h5
      · have HF := hide (show pkOk a b r l = false by unfold pkOk; rw [decide_eq_false h5]; simp)
        have H0 := hide ha
        have H1 := hide hb
        have h5' : 5000 < r.size := by omega
        clear ha hb h h5
        go_enter Try.func13, Try.ntmps13
        go_wp2_with fail
        refine (i_between_is _ _ _ _ _ H0.out).mono ?_
        rintro e w' ⟨rfl, rfl⟩
        go_wp2_with fail
        refine (i_between_is _ _ _ _ _ H1.out).mono ?_
        rintro e w' ⟨rfl, rfl⟩
        go_wp2_with fail
        go_ret
        exact ⟨ret_bool HF.out.symm, (Below.refl _ _).alloc (Nat.le_refl _) _⟩
theorem quiet_leftP {P : Program} {f : FuncId} {args : Array Value} {w : World} {n : Nat} {v : Value}
    (h : Calls P f args (w.drewN n) fun e w' => e = .returned v ∧ w.drewN n = w') : Calls P f args (w.drewN n) fun e w'' => e = .returned v ∧ ∃ m, w'' = w.drewN m :=
  h.mono fun _ _ ⟨he, hm⟩ => ⟨he, n, hm.symm⟩
theorem quiet_addP {P : Program} {f : FuncId} {args : Array Value} {w : World} {a n : Nat} {v : Value}
    (h : Calls P f args (w.drewN (a + n)) fun e w' => e = .returned v ∧ w.drewN (a + n) = w') :
    Calls P f args (w.drewN (a + n)) fun e w'' => e = .returned v ∧ ∃ m, w'' = w.drewN (a + m) :=
  h.mono fun _ _ ⟨he, hm⟩ => ⟨he, n, hm.symm⟩
set_option maxHeartbeats 3200000 in
theorem s_PackerOk (a b : Int) (r : ByteArray) (A : Option Addr) (n c : Nat) (l : List Int) (w : World) (h : RI w A n l) (hn : n ≤ 1048576) (hr : r.size ≤ 1099511627776) :
    Calls Try.prog 11 #[.agg #[.int .i64 a, .int .i64 b, .string r, .slice A n c]] w fun e w' => e = .returned (.bool (pkOk a b r l)) ∧ Below w.heap.size w w' := by
  have HL := hide h.1
  have H := hide h
  clear h
  go_enter Try.func11, Try.ntmps11
  go_wp2_with fail
  have hbW : Below w.heap.size w (w.alloc (.cells #[.int .i64 a, .int .i64 b, .string r, .slice A n c] 27)) := (Below.refl w.heap.size w).alloc (Nat.le_refl _) _
  have bx : Box (w.alloc (.cells #[.int .i64 a, .int .i64 b, .string r, .slice A n c] 27)) w.heap.size [.int .i64 a, .int .i64 b, .string r, .slice A n c] := by simpa using Box.new w #[.int .i64 a, .int .i64 b, .string r, .slice A n c] 27
  generalize (w.alloc (.cells #[.int .i64 a, .int .i64 b, .string r, .slice A n c] 27)) = W at *
  have HW := hide hbW
  have x0 := bx.c 0 rfl
  have x1 := bx.c 1 rfl
  have x2 := bx.c 2 rfl
  have x3 := bx.c 3 rfl
  have HR := hide (H.out.below hbW)
  clear hbW bx H
  go_loopw [3] (fun iv wr => ∃ k m : Nat, k ≤ n ∧ iv = .int .i64 k ∧ Hid (stTo r.size l k = true) ∧ wr = W.drewN m) (fun iv _ => n - (intOf iv).toNat)
  case atStart => exact ⟨0, 0, Nat.zero_le _, rfl, rfl, rfl⟩
  case round =>
    obtain ⟨k, m, hk, rfl, hst, rfl⟩ := hrel
    by_cases hlt : k < n
    · obtain ⟨g, off, rfl, hg, hc⟩ := HR.out.2 (by omega)
      have k1 := hc k hlt
      have HS := hide (show stTo r.size l (k + 1) = (stTo r.size l k && (inR (l.getD k 0) 0 ((r.size : Int) - 1) && (decide (k = 0) || decide (l.getD (k - 1) 0 < l.getD k 0)))) from rfl)
      have hkl : k < l.length := by rw [HL.out]; exact hlt
      have i1 : (0 : Int) ≤ (k : Int) := by omega
      have i2 : (k : Int) < (n : Int) := by omega
      cases hin : inR (l.getD k 0) 0 ((r.size : Int) - 1) with
      | false =>
        have hf := hide (show pkOk a b r l = false by unfold pkOk; rw [stTo_bad hkl (by rw [HS.out, hin]; simp)]; simp)
        have HI := hide hin
        clear hc hin HS
        generalize l.getD k 0 = x at *
        have jw : IntKind.i64.wrap ((r.size : Int) - 1) = (r.size : Int) - 1 := by rw [IntKind.wrap_i64]; omega
        go_wp2_with fail
        go_quiet (first | (go_at_call 54; exact quiet_addP (s_In_is _ _ _ _ _ HI.out)) | (go_at_call 54; exact quiet_leftP (s_In_is _ _ _ _ _ HI.out)))
        clear jw
        go_wp2_with fail
        go_ret
        exact ⟨ret_bool hf.out.symm, below_drewN (below_drewN HW.out _) _⟩
      | true =>
        have HI := hide hin
        by_cases hk0 : k = 0
        · subst hk0
          have hn1 := hide (show stTo r.size l (0 + 1) = true by rw [HS.out, hst.out, hin]; rfl)
          clear hc hin HS
          rw [Nat.add_zero] at k1
          generalize l.getD 0 0 = x at *
          have jw : IntKind.i64.wrap ((r.size : Int) - 1) = (r.size : Int) - 1 := by rw [IntKind.wrap_i64]; omega
          go_wp2_with fail
          go_quiet (first | (go_at_call 54; exact quiet_addP (s_In_is _ _ _ _ _ HI.out)) | (go_at_call 54; exact quiet_leftP (s_In_is _ _ _ _ _ HI.out)))
          clear jw
          go_wp2_with fail
          go_roundw
          case rel => exact ⟨1, _, by omega, by go_num, hn1, rfl⟩
          case measure => simp [intOf]; omega
        · have hkp : 0 < k := by omega
          have k0 := hc (k - 1) (by omega)
          have e1 : ((k : Int) - 1).toNat = k - 1 := by omega
          have e2 : (0 : Int) ≤ (k : Int) - 1 := by omega
          have e3 : (k : Int) - 1 < (n : Int) := by omega
          have d0 : decide ((0 : Int) < (k : Int)) = true := decide_eq_true (by omega)
          by_cases hle : l.getD (k - 1) 0 < l.getD k 0
          · have hn1 := hide (show stTo r.size l (k + 1) = true by rw [HS.out, hst.out, hin, decide_eq_true hle]; simp)
            clear hc hin HS hk0
            generalize l.getD k 0 = x at *
            generalize l.getD (k - 1) 0 = y at *
            have hxy : ¬ x ≤ y := by omega
            have jw : IntKind.i64.wrap ((r.size : Int) - 1) = (r.size : Int) - 1 := by rw [IntKind.wrap_i64]; omega
            have jk : IntKind.i64.wrap ((k : Int) - 1) = (k : Int) - 1 := by rw [IntKind.wrap_i64]; omega
            go_wp2_with fail
            go_quiet (first | (go_at_call 54; exact quiet_addP (s_In_is _ _ _ _ _ HI.out)) | (go_at_call 54; exact quiet_leftP (s_In_is _ _ _ _ _ HI.out)))
            clear jw jk
            go_wp2_with fail
            go_roundw
            case rel => exact ⟨k + 1, _, by omega, by go_num, hn1, rfl⟩
            case measure => simp [intOf]; omega
          · have hf := hide (show pkOk a b r l = false by unfold pkOk; rw [stTo_bad hkl (by rw [HS.out, hin, decide_eq_false hle, decide_eq_false hk0]; simp)]; simp)
            clear hc hin HS hk0
            generalize l.getD k 0 = x at *
            generalize l.getD (k - 1) 0 = y at *
            have hxy : x ≤ y := by omega
            have jw : IntKind.i64.wrap ((r.size : Int) - 1) = (r.size : Int) - 1 := by rw [IntKind.wrap_i64]; omega
            have jk : IntKind.i64.wrap ((k : Int) - 1) = (k : Int) - 1 := by rw [IntKind.wrap_i64]; omega
            go_wp2_with fail
            go_quiet (first | (go_at_call 54; exact quiet_addP (s_In_is _ _ _ _ _ HI.out)) | (go_at_call 54; exact quiet_leftP (s_In_is _ _ _ _ _ HI.out)))
            clear jw jk
            go_wp2_with fail
            go_ret
            exact ⟨ret_bool hf.out.symm, below_drewN (below_drewN HW.out _) _⟩
    · obtain rfl : k = n := by omega
      have HS := hide (show stTo r.size l l.length = true by rw [HL.out]; exact hst.out)
      clear hst
      cases ha : inR a 0 2 with
      | false =>
        have HF := hide (show pkOk a b r l = false by unfold pkOk; rw [ha]; rfl)
        have H0 := hide ha
        clear ha
        go_wp2_with fail
        refine (s_In_is _ _ _ _ _ H0.out).mono ?_
        rintro e w' ⟨rfl, rfl⟩
        go_wp2_with fail
        go_ret
        exact ⟨ret_bool HF.out.symm, below_drewN HW.out _⟩
      | true =>
        cases hb : inR b 0 255 with
        | false =>
          have HF := hide (show pkOk a b r l = false by unfold pkOk; rw [hb]; simp)
          have H0 := hide ha
          have H1 := hide hb
          clear ha hb
          go_wp2_with fail
          refine (s_In_is _ _ _ _ _ H0.out).mono ?_
          rintro e w' ⟨rfl, rfl⟩
          go_wp2_with fail
          refine (s_In_is _ _ _ _ _ H1.out).mono ?_
          rintro e w' ⟨rfl, rfl⟩
          go_wp2_with fail
          go_ret
          exact ⟨ret_bool HF.out.symm, below_drewN HW.out _⟩
        | true =>
          have HF := hide (show pkOk a b r l = decide (r.size ≤ 5000) by unfold pkOk; rw [ha, hb, HS.out]; simp)
          have H0 := hide ha
          have H1 := hide hb
          clear ha hb
          go_wp2_with fail
          refine (s_In_is _ _ _ _ _ H0.out).mono ?_
          rintro e w' ⟨rfl, rfl⟩
          go_wp2_with fail
          refine (s_In_is _ _ _ _ _ H1.out).mono ?_
          rintro e w' ⟨rfl, rfl⟩
          go_wp2_with fail
          go_ret
          refine ⟨ret_bool ?_, below_drewN HW.out _⟩
          rw [HF.out]
          first | rfl | (apply decide_eq_decide.2; omega)
end Go.Proofs.Ytnelfadmcpacbaa
