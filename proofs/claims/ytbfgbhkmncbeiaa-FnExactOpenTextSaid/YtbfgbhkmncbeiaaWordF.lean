/- What SealText and OpenText return, in the program and in the reference: a text with its check, for strings of at most 2^46 bytes. -/
import Derived.Test.YtbfgbhkmncbeiaaWordC
import Derived.Test.YtbfgbhkmncbeiaaWordD
namespace Go.Proofs.Ytbfgbhkmncbeiaa
open Go.RowKit Sat

def sealB (s : ByteArray) : ByteArray := str (sealL s.data.toList)
theorem app_str (s : ByteArray) (l : List UInt8) : s ++ str l = str (s.data.toList ++ l) := by
  have h : s = str s.data.toList := (str_of s).symm
  rw [h]
  exact ByteArray.mk_append_mk _ _
theorem putB_word (n k : Nat) (h1 : 1 ≤ k) (h4 : k ≤ 4) (hn : n < 256 ^ k) : putB n k = str (wordBytes n k) := by
  have hok : putOk (n : Int) (k : Int) = true := by
    unfold putOk
    have : ((256 ^ k : Nat) : Int) = 256 ^ k := by simp
    simp only [Int.toNat_natCast, decide_eq_true_eq]
    omega
  rw [putB_yes _ _ hok, Int.toNat_natCast, Int.toNat_natCast]
theorem sealB_eq (s : ByteArray) : s ++ putB (crc s.data.toList) 2 = sealB s := by
  have := crc_lt s.data.toList
  have h := putB_word (crc s.data.toList) 2 (by omega) (by omega) (by omega)
  rw [show ((2 : Nat) : Int) = 2 from rfl] at h
  rw [h, app_str]
  rfl
theorem sealB_size (s : ByteArray) : (sealB s).size = s.size + 2 := by unfold sealB; rw [str_size, sealL_length]; rfl
set_option maxHeartbeats 400000 in
theorem i_SealText (s : ByteArray) (w : World) (hs : s.size ≤ 70368744177664) :
    Calls Try.prog 32 #[.string s] w fun e w' => e = .returned (.string (sealB s)) ∧ Below w.heap.size w w' := by
  have hp := putB_size (crc s.data.toList) 2
  have hadd := fun w => run_string_add_sum (P := Try.prog) (w := w) s (putB (crc s.data.toList) 2) (by omega)
  have hfin := hide (sealB_eq s)
  go_enter Try.func32, Try.ntmps32
  go_wp2_with (first | (go_at_call 28; refine (i_CheckOf _ _ (by omega)).mono ?_; rintro e w' ⟨rfl, rfl⟩) | (go_at_call 22; refine (i_PutWord _ _ _).mono ?_; rintro e w' ⟨rfl, hb⟩))
  go_ret
  exact ⟨ret_str hfin.out, hb⟩
set_option maxHeartbeats 400000 in
theorem s_SealText (s : ByteArray) (w : World) (hs : s.size ≤ 70368744177664) :
    Calls Try.prog 31 #[.string s] w fun e w' => e = .returned (.string (sealB s)) ∧ Below w.heap.size w w' := by
  have hp := putB_size (crc s.data.toList) 2
  have hadd := fun w => run_string_add_sum (P := Try.prog) (w := w) s (putB (crc s.data.toList) 2) (by omega)
  have hfin := hide (sealB_eq s)
  go_enter Try.func31, Try.ntmps31
  go_wp2_with (first | (go_at_call 27; refine (s_CheckOf _ _ (by omega)).mono ?_; rintro e w' ⟨rfl, rfl⟩) | (go_at_call 21; refine (s_PutWord _ _ _).mono ?_; rintro e w' ⟨rfl, hb⟩))
  go_ret
  exact ⟨ret_str hfin.out, hb⟩
theorem ext_data (s : ByteArray) (a b : Nat) : (s.extract a b).data.toList = (s.data.toList.drop a).take (b - a) := by
  have h := ByteArray.extract_mk s.data.toList a b
  have e : (ByteArray.mk s.data.toList.toArray) = s := by cases s; simp
  rw [e] at h
  rw [h]
theorem ext_size (s : ByteArray) (n : Nat) (h : n ≤ s.size) : (s.extract 0 n).size = n := by
  have h1 : (s.extract 0 n).data.toList.length = n := by
    rw [ext_data]; simp; have : s.size = s.data.size := rfl; omega
  simpa using h1
theorem ret_sb {a b : ByteArray} {c d : Bool} (h : a = b) (h' : c = d) : Ending.returned (.tuple #[.string a, .bool c]) = .returned (.tuple #[.string b, .bool d]) := by rw [h, h']
theorem cmp_str (a b : ByteArray) : (a.toList == b.toList) = decide (a.data.toList = b.data.toList) := by
  rw [ByteArray.toList_eq, ByteArray.toList_eq]
  by_cases h : a.data.toList = b.data.toList
  · simp [h]
  · rw [decide_eq_false h]; exact beq_eq_false_iff_ne.2 h
theorem open_short (s : ByteArray) (h : s.size < 2) : openOk s.data.toList = false ∧ openT s.data.toList = [] := by
  have e : openOk s.data.toList = false := by
    unfold openOk
    rw [decide_eq_false (by simp; have : s.size = s.data.size := rfl; omega)]; rfl
  exact ⟨e, by unfold openT; rw [e]; rfl⟩
theorem open_cmp (s : ByteArray) (h : 2 ≤ s.size) : ((sealB (s.extract 0 (s.size - 2))).toList == s.toList) = openOk s.data.toList := by
  rw [cmp_str]
  unfold openOk sealB
  rw [str_data, ext_data]
  have e : s.data.toList.length = s.size := by simp
  rw [decide_eq_true (show 2 ≤ s.data.toList.length by omega), e]
  simp
theorem open_yes (s : ByteArray) (h : 2 ≤ s.size) (hc : openOk s.data.toList = true) : (!(sealB (s.extract 0 (s.size - 2))).toList == s.toList) = false ∧ s.extract 0 (s.size - 2) = str (openT s.data.toList) := by
  refine ⟨by rw [open_cmp s h, hc]; rfl, ?_⟩
  unfold openT
  rw [if_pos hc, ← str_of (s.extract 0 (s.size - 2)), ext_data]
  have e : s.data.toList.length = s.size := by simp
  rw [e]; simp
theorem open_no (s : ByteArray) (h : 2 ≤ s.size) (hc : openOk s.data.toList = false) : (!(sealB (s.extract 0 (s.size - 2))).toList == s.toList) = true ∧ str [] = str (openT s.data.toList) := by
  refine ⟨by rw [open_cmp s h, hc]; rfl, ?_⟩
  unfold openT
  rw [hc]; rfl
set_option maxHeartbeats 400000 in
theorem i_OpenText (s : ByteArray) (w : World) (hs : s.size ≤ 70368744177664) :
    Calls Try.prog 35 #[.string s] w fun e w' => e = .returned (.tuple #[.string (str (openT s.data.toList)), .bool (openOk s.data.toList)]) ∧ Below w.heap.size w w' := by
  by_cases h2 : s.size < 2
  · have H := hide (open_short s h2)
    go_enter Try.func35, Try.ntmps35
    go_wp2_with fail
    go_ret2
    exact ⟨ret_sb (by rw [H.out.2]; rfl) H.out.1.symm, Below.refl _ _⟩
  · have hsz := ext_size s (s.size - 2) (by omega)
    have hsz' : (s.extract 0 (s.size - 2)).size ≤ 70368744177664 := by omega
    clear hsz
    by_cases hc : openOk s.data.toList = true
    · obtain ⟨H1, h3⟩ := open_yes s (by omega) hc
      have HC := hide hc
      have H2 := hide h3
      clear hc h3
      go_enter Try.func35, Try.ntmps35
      go_wp2_with (go_at_call 32; refine (i_SealText _ _ hsz').mono ?_; rintro e w' ⟨rfl, hb⟩)
      go_ret2
      exact ⟨ret_sb H2.out HC.out.symm, hb⟩
    · have hc : openOk s.data.toList = false := by simpa using hc
      obtain ⟨H1, h3⟩ := open_no s (by omega) hc
      have HC := hide hc
      have H2 := hide h3
      clear hc h3
      go_enter Try.func35, Try.ntmps35
      go_wp2_with (go_at_call 32; refine (i_SealText _ _ hsz').mono ?_; rintro e w' ⟨rfl, hb⟩)
      go_ret2
      exact ⟨ret_sb H2.out HC.out.symm, hb⟩
set_option maxHeartbeats 400000 in
theorem s_OpenText (s : ByteArray) (w : World) (hs : s.size ≤ 70368744177664) :
    Calls Try.prog 34 #[.string s] w fun e w' => e = .returned (.tuple #[.string (str (openT s.data.toList)), .bool (openOk s.data.toList)]) ∧ Below w.heap.size w w' := by
  by_cases h2 : s.size < 2
  · have H := hide (open_short s h2)
    go_enter Try.func34, Try.ntmps34
    go_wp2_with fail
    go_ret2
    exact ⟨ret_sb (by rw [H.out.2]; rfl) H.out.1.symm, Below.refl _ _⟩
  · have hsz := ext_size s (s.size - 2) (by omega)
    have hsz' : (s.extract 0 (s.size - 2)).size ≤ 70368744177664 := by omega
    clear hsz
    by_cases hc : openOk s.data.toList = true
    · obtain ⟨H1, h3⟩ := open_yes s (by omega) hc
      have HC := hide hc
      have H2 := hide h3
      clear hc h3
      go_enter Try.func34, Try.ntmps34
      go_wp2_with (go_at_call 31; refine (s_SealText _ _ hsz').mono ?_; rintro e w' ⟨rfl, hb⟩)
      go_ret2
      exact ⟨ret_sb H2.out HC.out.symm, hb⟩
    · have hc : openOk s.data.toList = false := by simpa using hc
      obtain ⟨H1, h3⟩ := open_no s (by omega) hc
      have HC := hide hc
      have H2 := hide h3
      clear hc h3
      go_enter Try.func34, Try.ntmps34
      go_wp2_with (go_at_call 31; refine (s_SealText _ _ hsz').mono ?_; rintro e w' ⟨rfl, hb⟩)
      go_ret2
      exact ⟨ret_sb H2.out HC.out.symm, hb⟩
end Go.Proofs.Ytbfgbhkmncbeiaa
