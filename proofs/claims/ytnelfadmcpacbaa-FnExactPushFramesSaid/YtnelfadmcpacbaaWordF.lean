/- What SealText and OpenText return, in the program and in the reference: a text with its check, for strings of at most 2^46 bytes. -/
import Derived.Test.YtnelfadmcpacbaaWordC
import Derived.Test.YtnelfadmcpacbaaWordD
import Derived.Test.YtnelfadmcpacbaaStr
namespace Go.Proofs.Ytnelfadmcpacbaa
open Go.RowKit Sat

def sealB (s : ByteArray) : ByteArray := str (sealL s.data.toList)
theorem putB_word (n k : Nat) (h1 : 1 ≤ k) (h4 : k ≤ 4) (hn : n < 256 ^ k) : putB n k = str (wordBytes n k) := by
  have hok : putOk (n : Int) (k : Int) = true := by
    unfold putOk
    have : ((256 ^ k : Nat) : Int) = 256 ^ k := by simp
    simp only [Int.toNat_natCast, decide_eq_true_eq]
    omega
  rw [putB_yes _ _ hok, Int.toNat_natCast, Int.toNat_natCast]
theorem sealB_eq (s : ByteArray) : s ++ putB (crc s.data.toList) 2 = sealB s := by
  have := crc_lt s.data.toList
  have h := putB_word (crc s.data.toList) 2 (by omega) (by omega) (by omega)
  rw [show ((2 : Nat) : Int) = 2 from rfl] at h
  rw [h, app_str]
  rfl
theorem sealB_size (s : ByteArray) : (sealB s).size = s.size + 2 := by unfold sealB; rw [str_size, sealL_length]; rfl
set_option maxHeartbeats 400000 in
theorem i_SealText (s : ByteArray) (w : World) (hs : s.size ≤ 70368744177664) :
    Calls Try.prog 48 #[.string s] w fun e w' => e = .returned (.string (sealB s)) ∧ Below w.heap.size w w' := by
  have hp := putB_size (crc s.data.toList) 2
  have hadd := fun w => run_string_add_sum (P := Try.prog) (w := w) s (putB (crc s.data.toList) 2) (by omega)
  have hfin := hide (sealB_eq s)
  go_enter Try.func48, Try.ntmps48
  go_wp2_with (first | (go_at_call 51; refine (i_CheckOf _ _ (by omega)).mono ?_; rintro e w' ⟨rfl, rfl⟩) | (go_at_call 46; refine (i_PutWord _ _ _).mono ?_; rintro e w' ⟨rfl, hb⟩))
  go_ret
  exact ⟨ret_str hfin.out, hb⟩
theorem ret_sb {a b : ByteArray} {c d : Bool} (h : a = b) (h' : c = d) : Ending.returned (.tuple #[.string a, .bool c]) = .returned (.tuple #[.string b, .bool d]) := by rw [h, h']
theorem open_short (s : ByteArray) (h : s.size < 2) : openOk s.data.toList = false ∧ openT s.data.toList = [] := by
  have e : openOk s.data.toList = false := by
    unfold openOk
    rw [decide_eq_false (by simp; have : s.size = s.data.size := rfl; omega)]; rfl
  exact ⟨e, by unfold openT; rw [e]; rfl⟩
theorem open_cmp (s : ByteArray) (h : 2 ≤ s.size) : ((sealB (s.extract 0 (s.size - 2))).toList == s.toList) = openOk s.data.toList := by
  rw [cmp_str]
  unfold openOk sealB
  rw [str_data, ext_data]
  have e : s.data.toList.length = s.size := by simp
  rw [decide_eq_true (show 2 ≤ s.data.toList.length by omega), e]
  simp
theorem open_yes (s : ByteArray) (h : 2 ≤ s.size) (hc : openOk s.data.toList = true) : (!(sealB (s.extract 0 (s.size - 2))).toList == s.toList) = false ∧ s.extract 0 (s.size - 2) = str (openT s.data.toList) := by
  refine ⟨by rw [open_cmp s h, hc]; rfl, ?_⟩
  unfold openT
  rw [if_pos hc, ← str_of (s.extract 0 (s.size - 2)), ext_data]
  have e : s.data.toList.length = s.size := by simp
  rw [e]; simp
theorem open_no (s : ByteArray) (h : 2 ≤ s.size) (hc : openOk s.data.toList = false) : (!(sealB (s.extract 0 (s.size - 2))).toList == s.toList) = true ∧ str [] = str (openT s.data.toList) := by
  refine ⟨by rw [open_cmp s h, hc]; rfl, ?_⟩
  unfold openT
  rw [hc]; rfl
set_option maxHeartbeats 400000 in
theorem i_OpenText (s : ByteArray) (w : World) (hs : s.size ≤ 70368744177664) :
    Calls Try.prog 49 #[.string s] w fun e w' => e = .returned (.tuple #[.string (str (openT s.data.toList)), .bool (openOk s.data.toList)]) ∧ Below w.heap.size w w' := by
  by_cases h2 : s.size < 2
  · have H := hide (open_short s h2)
    go_enter Try.func49, Try.ntmps49
    go_wp2_with fail
    go_ret2
    exact ⟨ret_sb (by rw [H.out.2]; rfl) H.out.1.symm, Below.refl _ _⟩
  · have hsz := ext_size s (s.size - 2) (by omega)
    have hsz' : (s.extract 0 (s.size - 2)).size ≤ 70368744177664 := by omega
    clear hsz
    by_cases hc : openOk s.data.toList = true
    · obtain ⟨H1, h3⟩ := open_yes s (by omega) hc
      have HC := hide hc
      have H2 := hide h3
      clear hc h3
      go_enter Try.func49, Try.ntmps49
      go_wp2_with (go_at_call 48; refine (i_SealText _ _ hsz').mono ?_; rintro e w' ⟨rfl, hb⟩)
      go_ret2
      exact ⟨ret_sb H2.out HC.out.symm, hb⟩
    · have hc : openOk s.data.toList = false := by simpa using hc
      obtain ⟨H1, h3⟩ := open_no s (by omega) hc
      have HC := hide hc
      have H2 := hide h3
      clear hc h3
      go_enter Try.func49, Try.ntmps49
      go_wp2_with (go_at_call 48; refine (i_SealText _ _ hsz').mono ?_; rintro e w' ⟨rfl, hb⟩)
      go_ret2
      exact ⟨ret_sb H2.out HC.out.symm, hb⟩
end Go.Proofs.Ytnelfadmcpacbaa
