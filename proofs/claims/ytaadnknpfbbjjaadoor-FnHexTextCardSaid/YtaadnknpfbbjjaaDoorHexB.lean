/- What DecodeHex returns, in the program and in the reference, for strings of at most 2^40 bytes. -/
import Derived.Test.YtaadnknpfbbjjaaDoorHexA
import Derived.Deep.QuietTactic
import Derived.BigQuiet
namespace Go.Proofs.YtaadnknpfbbjjaaDoor
open Go.RowKit Sat
set_option linter.unusedVariables false

theorem quiet_left {P : Program} {f : FuncId} {args : Array Value} {w : World} {n : Nat} {v : Value}
    (h : Calls P f args (w.drewN n) fun e w' => e = .returned v ∧ w.drewN n = w') : Calls P f args (w.drewN n) fun e w'' => e = .returned v ∧ ∃ m, w'' = w.drewN m :=
  h.mono fun _ _ ⟨he, hm⟩ => ⟨he, n, hm.symm⟩
theorem unhex_no {l : List UInt8} (h : unhexOk l = false) : str (unhex l) = str [] := by unfold unhex; rw [h]; rfl
theorem unhex_bad {l : List UInt8} {k : Nat} (hk : k < l.length / 2) (h : hexOk l k = false) : unhexOk l = false := by
  have : ∀ n, k < n → hexOkTo l n = false := by
    intro n
    induction n with
    | zero => intro h; omega
    | succ n ih =>
      intro hn
      rw [hexOkTo]
      by_cases e : k = n
      · subst e; rw [h]; simp
      · rw [ih (by omega)]; rfl
  unfold unhexOk
  rw [this _ hk]; simp
theorem unhex_yes {l : List UInt8} (h2 : l.length % 2 = 0) (h4 : l.length ≤ 40000) (h : hexOkTo l (l.length / 2) = true) : unhexOk l = true ∧ unhex l = unhexTo l (l.length / 2) := by
  have ok : unhexOk l = true := by unfold unhexOk; rw [h]; simp; omega
  unfold unhex; rw [ok]; exact ⟨rfl, rfl⟩
set_option maxHeartbeats 1600000 in
theorem i_DecodeHex_in (s : ByteArray) (w : World) (h2 : s.size % 2 = 0) (h4 : s.size ≤ 40000) :
    Calls Tryd.prog 14 #[.string s] w fun e w' => e = .returned (.tuple #[.string (str (unhex s.data.toList)), .bool (unhexOk s.data.toList)]) ∧ Below w.heap.size w w' := by
  have HL := hide (show s.data.toList.length = s.size by simp)
  have d0 : ((s.size : Int) % 2 != 0) = false := by have : (s.size : Int) % 2 = 0 := by omega
                                                    rw [this]; rfl
  have d1 : decide (20000 < (s.size : Int) / 2) = false := decide_eq_false (by omega)
  go_enter Tryd.func14, Tryd.ntmps14
  go_wp2_with (at_make; refine wpList_mk0 rfl _ _ rfl _ (s.size / 2) rfl rfl (by omega) (by omega) ?_; intro w1 hown hb)
  go_loopw [4, 5] (fun v iv wr => ∃ k : Nat, 2 * k ≤ s.size ∧ iv = .int .i64 ((2 * k : Nat) : Int) ∧ BOwn wr w.heap.size v (unhexTo s.data.toList k) ∧ Hid (hexOkTo s.data.toList k = true) ∧ Below w.heap.size w wr) (fun _ iv _ => s.size - (intOf iv).toNat)
  case atStart => exact ⟨0, Nat.zero_le _, rfl, hown, rfl, hb⟩
  case round =>
    clear hown hb
    obtain ⟨k, hk, rfl, hown, hok, hb⟩ := hrel
    have hsz := hb.size
    by_cases hlt : 2 * k < s.size
    · have h1 : 2 * k + 1 < s.size := by omega
      have hx : (s[2 * k]'hlt).toNat < 256 := UInt8.toNat_lt _
      have hy : (s[2 * k + 1]'h1).toNat < 256 := UInt8.toNat_lt _
      have hbx := hide (bAt_s s (2 * k) hlt)
      have hby := hide (bAt_s s (2 * k + 1) h1)
      have hlen : k < s.data.toList.length / 2 := by rw [HL.out]; omega
      have v1 := hexVal_le (s[2 * k]'hlt).toNat
      have v2 := hexVal_le (s[2 * k + 1]'h1).toNat
      have hgo := hide (show hexOk s.data.toList k = (decide (0 ≤ hexVal (s[2 * k]'hlt).toNat) && decide (0 ≤ hexVal (s[2 * k + 1]'h1).toNat)) by unfold hexOk; rw [hbx.out, hby.out])
      have hun := hide (show unhexB s.data.toList k = UInt8.ofNat (16 * (hexVal (s[2 * k]'hlt).toNat).toNat + (hexVal (s[2 * k + 1]'h1).toNat).toNat) by unfold unhexB; rw [hbx.out, hby.out])
      have hus := hide (show unhexTo s.data.toList (k + 1) = unhexTo s.data.toList k ++ [unhexB s.data.toList k] from rfl)
      have hos := hide (show hexOkTo s.data.toList (k + 1) = (hexOkTo s.data.toList k && hexOk s.data.toList k) from rfl)
      have hol := hide (unhexTo_length s.data.toList k)
      have HO := hide hown
      clear hown
      obtain ⟨p, hp⟩ : ∃ p, p = 2 * k := ⟨_, rfl⟩
      have hps : p < s.size := by omega
      have hps1 : p + 1 < s.size := by omega
      have e1 : (s[2 * k]'hlt) = (s[p]'hps) := by subst hp; rfl
      have e2 : (s[2 * k + 1]'h1) = (s[p + 1]'hps1) := by subst hp; rfl
      rw [e1] at hx v1 hgo hun
      rw [e2] at hy v2 hgo hun
      rw [← hp]
      have HP := hide hp
      clear e1 e2 hbx hby hp hlt h1
      have j1 : (p : Int) < (s.size : Int) := by omega
      have j5 : (p : Int) + 1 < (s.size : Int) := by omega
      have j3 : 0 ≤ (p : Int) + 1 := by omega
      have j4 : ((p : Int) + 1).toNat = p + 1 := by omega
      have j2 : IntKind.i64.wrap ((p : Int) + 1) = (p : Int) + 1 := by rw [IntKind.wrap_i64]; omega
      go_wp2_with fail
      go_quiet (first | (go_at_call 28; exact quiet_left (i_hexValue _ _ (UInt8.toNat_lt _))))
      clear j2
      generalize hexVal (s[p]'hps).toNat = a at *
      generalize hexVal (s[p + 1]'hps1).toNat = b at *
      by_cases hab : a < 0 ∨ b < 0
      · have hbad := unhex_bad hlen (show hexOk s.data.toList k = false by rw [hgo.out]; rcases hab with h | h <;> simp <;> omega)
        have hfin := hide (And.intro (unhex_no hbad) hbad)
        clear hbad HO hok
        by_cases ha : a < 0
        · clear hab
          go_wp2_with fail
          go_ret2
          exact ⟨ret_sb_ hfin.out.1.symm hfin.out.2.symm, below_drewN hb _⟩
        · have hb0 : b < 0 := by omega
          clear hab
          go_wp2_with fail
          go_ret2
          exact ⟨ret_sb_ hfin.out.1.symm hfin.out.2.symm, below_drewN hb _⟩
      · have ha : 0 ≤ a := by omega
        have hb0 : 0 ≤ b := by omega
        have hokn : hexOkTo s.data.toList (k + 1) = true := by rw [hos.out, hok.out, hgo.out]; simp; omega
        have HOK := hide hokn
        have hby2 := hide (show (16 * a + b) % 256 = ((unhexB s.data.toList k).toNat : Int) by rw [hun.out, UInt8.toNat_ofNat']; omega)
        clear hab hokn hok
        go_wp2_with (at_builtin; refine wpList_app rfl _ _ rfl w.heap.size _ _ [unhexB s.data.toList k] rfl (HO.out.drewN _) rfl ?c1 ?c2 ?c3 ?_)
        case c1 =>
          have h := hby2.out
          have h2 : (16 * a + b) % 256 = 16 * a + b := by omega
          first | (rw [h]; rfl) | (rw [h2] at h; rw [h]; rfl)
        case c2 => rw [hol.out]; simp; omega
        case c3 => exact hsz
        · intro v' w' hown' hb'
          clear HO
          go_wp2
          go_roundw
          case rel => exact ⟨k + 1, by have := HP.out; omega, by have := HP.out; go_num, by rw [hus.out]; exact hown', HOK.out, (below_drewN hb _).trans hb'⟩
          case measure => simp [intOf]; have := HP.out; omega
    · have hk2 : k = s.size / 2 := by omega
      have hs' := hown.str
      have hdy := unhex_yes (l := s.data.toList) (by rw [HL.out]; exact h2) (by rw [HL.out]; exact h4) (by rw [HL.out, ← hk2]; exact hok.out)
      rw [HL.out, ← hk2] at hdy
      have hfin := hide hdy
      clear hdy hown hok hk2
      go_wp2
      go_ret2
      exact ⟨ret_sb_ (by rw [hfin.out.2]) hfin.out.1.symm, hb⟩
set_option maxHeartbeats 400000 in
theorem i_DecodeHex (s : ByteArray) (w : World) (hs : s.size ≤ 1099511627776) :
    Calls Tryd.prog 14 #[.string s] w fun e w' => e = .returned (.tuple #[.string (str (unhex s.data.toList)), .bool (unhexOk s.data.toList)]) ∧ Below w.heap.size w w' := by
  have HL := hide (show s.data.toList.length = s.size by simp)
  by_cases h : s.size % 2 = 0 ∧ s.size ≤ 40000
  · exact i_DecodeHex_in s w h.1 h.2
  · have hbad : unhexOk s.data.toList = false := by
      unfold unhexOk
      rw [HL.out]
      by_cases h2 : s.size % 2 = 0
      · rw [decide_eq_false (p := s.size ≤ 40000) (by omega)]; simp
      · rw [decide_eq_false h2]; rfl
    have hfin := hide (And.intro (unhex_no hbad) hbad)
    clear hbad
    by_cases h2 : s.size % 2 = 0
    · have d0 : ((s.size : Int) % 2 != 0) = false := by
        have e : (s.size : Int) % 2 = 0 := by omega
        rw [e]; rfl
      have d1 : decide (20000 < (s.size : Int) / 2) = true := decide_eq_true (by omega)
      have d2 : decide (40000 < (s.size : Int)) = true := decide_eq_true (by omega)
      clear h
      go_enter Tryd.func14, Tryd.ntmps14
      go_wp2_with fail
      go_ret2
      exact ⟨ret_sb_ hfin.out.1.symm hfin.out.2.symm, Below.refl _ _⟩
    · have d0 : ((s.size : Int) % 2 != 0) = true := by
        have e : (s.size : Int) % 2 = 1 := by omega
        rw [e]; rfl
      by_cases h40 : s.size ≤ 40000
      · have d2 : decide (40000 < (s.size : Int)) = false := decide_eq_false (by omega)
        clear h
        go_enter Tryd.func14, Tryd.ntmps14
        go_wp2_with fail
        go_ret2
        exact ⟨ret_sb_ hfin.out.1.symm hfin.out.2.symm, Below.refl _ _⟩
      · have d2 : decide (40000 < (s.size : Int)) = true := decide_eq_true (by omega)
        clear h
        go_enter Tryd.func14, Tryd.ntmps14
        go_wp2_with fail
        go_ret2
        exact ⟨ret_sb_ hfin.out.1.symm hfin.out.2.symm, Below.refl _ _⟩
end Go.Proofs.YtaadnknpfbbjjaaDoor
