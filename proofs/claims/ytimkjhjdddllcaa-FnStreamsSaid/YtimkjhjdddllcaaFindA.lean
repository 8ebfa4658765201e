/- What FindBlocks returns, in the program and in the reference, for all ints and strings of at most 2^40 bytes. -/
import Derived.Test.YtimkjhjdddllcaaOwn
import Derived.Test.YtimkjhjdddllcaaStr
import Derived.Test.YtimkjhjdddllcaaPlFind
namespace Go.Proofs.Ytimkjhjdddllcaa
open Go.RowKit Sat
set_option linter.unusedVariables false

theorem infoI : (Try.prog.info? 3).map (fun i => (i.zero, i.size, i.bytes)) = some (some (.int .i64 0), 1, 8) := by kernel_rfl
def findIn (n : Nat) (size : Int) : Bool := decide (1 ≤ size ∧ size ≤ 200 ∧ n ≤ 20000)
def findL (s : ByteArray) (size : Int) : List Nat := if findIn s.size size then fnd s.data.toList size.toNat 0 else []
theorem findL_in {s : ByteArray} {sz : Nat} (h1 : 1 ≤ sz) (h2 : sz ≤ 200) (h3 : s.size ≤ 20000) : findL s sz = fnd s.data.toList sz 0 := by
  unfold findL; rw [if_pos (show findIn s.size (sz : Int) = true from decide_eq_true (by omega))]; rfl
theorem findL_out {s : ByteArray} {size : Int} (h : size < 1 ∨ 200 < size ∨ 20000 < s.size) : findL s size = [] := by
  unfold findL; rw [show findIn s.size size = false from decide_eq_false (by omega)]; rfl
theorem findL_len (s : ByteArray) (size : Int) : (findL s size).length ≤ 20000 := by
  unfold findL
  by_cases h : findIn s.size size = true
  · rw [if_pos h]
    have h' := of_decide_eq_true h
    have := fnd_len (l := s.data.toList) (sz := size.toNat) _ 0 (Nat.le_refl _)
    have hl : s.data.toList.length = s.size := by simp
    omega
  · rw [if_neg h]; simp
theorem fit_parts {l : List UInt8} {sz i : Nat} {a : Bool} (h : decide ((l.drop i).take 4 = syncL) = a) : fitsAt l sz i = (a && decide (i + 4 + 2 * sz ≤ l.length)) := by
  unfold fitsAt; rw [h]
theorem sync_list : (⟨#[26, 207, 252, 29]⟩ : ByteArray).toList = [26, 207, 252, 29] := by rw [ByteArray.toList_eq]
theorem drop_ext (s : ByteArray) (k : Nat) : (s.extract k s.size).data.toList = s.data.toList.drop k := by
  rw [ext_data]; exact List.take_of_length_le (by simp)
set_option maxHeartbeats 800000 in
theorem x_HasSync (s : ByteArray) (r : Bool) (w : World) (hr : decide (s.data.toList.take 4 = syncL) = r) :
    Calls Try.prog 41 #[.string s, .string ⟨#[26, 207, 252, 29]⟩] w fun e w' => e = .returned (.bool r) ∧ w = w' := by
  have hsz : (⟨#[26, 207, 252, 29]⟩ : ByteArray).size = 4 := rfl
  by_cases h : 4 ≤ s.size
  · have hc := cmp_str (s.extract 0 4) (⟨#[26, 207, 252, 29]⟩ : ByteArray)
    rw [ext_data, List.drop_zero] at hc
    have hc' : ((s.extract 0 4).toList == (⟨#[26, 207, 252, 29]⟩ : ByteArray).toList) = r := by rw [hc]; exact hr
    rw [sync_list] at hc'
    have HC := hide hc'
    clear hc hc' hr hsz
    go_enter Try.func41, Try.ntmps41
    go_wp2
    go_ret
    exact ⟨ret_bool (by first | exact HC.out | (rw [← HC.out]; rfl)), rfl⟩
  · have hr' : r = false := by
      rw [← hr]
      refine decide_eq_false fun e => ?_
      have := congrArg List.length e
      simp [syncL] at this
      omega
    subst hr'
    clear hr hsz
    go_enter Try.func41, Try.ntmps41
    go_wp2
    go_ret
    exact ⟨rfl, rfl⟩
set_option maxHeartbeats 1600000 in
theorem i_FindBlocks_in (s : ByteArray) (sz : Nat) (w : World) (h1 : 1 ≤ sz) (h2 : sz ≤ 200) (h3 : s.size ≤ 20000) :
    Calls Try.prog 16 #[.string s, .int .i64 sz] w (MadeRow 3 1 (findL s sz).length (Ns (findL s sz)) w) := by
  have HL := hide (show s.data.toList.length = s.size by simp)
  have HF := hide (findL_in (s := s) h1 h2 h3)
  go_enter Try.func16, Try.ntmps16
  go_wp2_with fail
  go_loopw [5, 6] (fun v iv wr => ∃ (k : Nat) (acc : List Nat), k ≤ s.size ∧ iv = .int .i64 k ∧ wr.ownsRow w.heap.size 3 1 v acc.length (Ns acc) ∧ acc.length ≤ k ∧ Hid (acc ++ fnd s.data.toList sz k = fnd s.data.toList sz 0) ∧ Below w.heap.size w wr) (fun _ iv _ => s.size - (intOf iv).toNat)
  case atStart => exact ⟨0, [], Nat.zero_le _, rfl, World.ownsRow_nil _ _ _ _, Nat.zero_le _, by simp [Hid], Below.refl _ _⟩
  case round =>
    obtain ⟨k, acc, hk, rfl, hown, hac, hacc, hb⟩ := hrel
    have hsz := hb.size
    by_cases hlt : k < s.size
    · have HO := hide hown
      clear hown
      cases hr : decide ((s.data.toList.drop k).take 4 = syncL) with
      | false =>
        have hn := hide (show acc ++ fnd s.data.toList sz (k + 1) = fnd s.data.toList sz 0 by
          rw [← fnd_skip (by rw [HL.out]; exact hlt) (by rw [fit_parts hr]; rfl)]; exact hacc.out)
        have HR := hide (show decide ((s.extract k s.size).data.toList.take 4 = syncL) = false by rw [drop_ext]; exact hr)
        clear hr hacc
        go_wp2_with fail
        refine (x_HasSync _ _ _ HR.out).mono ?_
        rintro e w1 ⟨rfl, rfl⟩
        go_wp2_with fail
        go_roundw
        case rel => exact ⟨k + 1, acc, by omega, by go_num, HO.out, by omega, hn, hb⟩
        case measure => simp [intOf]; omega
      | true =>
        have HR := hide (show decide ((s.extract k s.size).data.toList.take 4 = syncL) = true by rw [drop_ext]; exact hr)
        by_cases hfit : k + 4 + 2 * sz ≤ s.size
        · have hn := hide (show (acc ++ [k + 4]) ++ fnd s.data.toList sz (k + 4 + 2 * sz) = fnd s.data.toList sz 0 by
            rw [← hacc.out, fnd_mark (i := k) (by rw [HL.out]; exact hlt) (by rw [fit_parts hr, HL.out, decide_eq_true hfit]; rfl)]; simp)
          clear hr hacc
          go_wp2_with fail
          refine (x_HasSync _ _ _ HR.out).mono ?_
          rintro e w1 ⟨rfl, rfl⟩
          go_wp2_with (at_builtin; refine wpList_appV 31 3 (.int .i64 0) 1 8 Try.underlying31 infoI rfl (by decide) (by decide) rfl _ _ rfl w.heap.size _ acc.length 1 (Ns acc) [.int .i64 ((k + 4 : Nat) : Int)] rfl HO.out rfl ?c1 rfl ?c3 ?c4 ?c5 ?_)
          case c1 => rfl
          case c3 => intro u hu; simp at hu; subst hu; rfl
          case c4 => omega
          case c5 => exact hsz
          · intro v' w' hown' hb'
            have HO' := hide (show w'.ownsRow w.heap.size 3 1 v' (acc ++ [k + 4]).length (Ns (acc ++ [k + 4])) by rw [Ns_snoc, List.length_append]; exact hown')
            clear HO hown'
            go_wp2
            go_roundw
            case rel => exact ⟨k + 4 + 2 * sz, acc ++ [k + 4], by omega, by go_num, HO'.out, by simp; omega, hn, hb.trans hb'⟩
            case measure => simp [intOf]; omega
        · have hn := hide (show acc ++ fnd s.data.toList sz (k + 1) = fnd s.data.toList sz 0 by
            rw [← fnd_skip (by rw [HL.out]; exact hlt) (by rw [fit_parts hr, HL.out, decide_eq_false hfit]; rfl)]; exact hacc.out)
          clear hr hacc
          go_wp2_with fail
          refine (x_HasSync _ _ _ HR.out).mono ?_
          rintro e w1 ⟨rfl, rfl⟩
          go_wp2_with fail
          go_roundw
          case rel => exact ⟨k + 1, acc, by omega, by go_num, HO.out, by omega, hn, hb⟩
          case measure => simp [intOf]; omega
    · have hfin := hide (show acc = findL s sz by
        have h := hacc.out
        rw [fnd_out (by rw [HL.out]; omega), List.append_nil] at h
        rw [HF.out]; exact h)
      have HO := hide hown
      clear hown hacc
      go_wp2
      go_ret
      exact ⟨_, rfl, by rw [← hfin.out]; exact HO.out, hb⟩
set_option maxHeartbeats 400000 in
theorem i_FindBlocks (s : ByteArray) (size : Int) (w : World) (hs : s.size ≤ 1099511627776) :
    Calls Try.prog 16 #[.string s, .int .i64 size] w (MadeRow 3 1 (findL s size).length (Ns (findL s size)) w) := by
  by_cases h : size < 1 ∨ 200 < size ∨ 20000 < s.size
  · have HF := hide (findL_out h)
    rcases (show size < 1 ∨ (1 ≤ size ∧ 200 < size) ∨ (1 ≤ size ∧ size ≤ 200 ∧ 20000 < s.size) by omega) with h1 | ⟨h1, h2⟩ | ⟨h1, h2, h3⟩
    all_goals
      clear h
      go_enter Try.func16, Try.ntmps16
      go_wp2_with fail
      go_ret
      exact ⟨_, rfl, by rw [HF.out]; exact World.ownsRow_nil _ _ _ _, Below.refl _ _⟩
  · obtain ⟨sz, rfl⟩ := Int.eq_ofNat_of_zero_le (show 0 ≤ size by omega)
    exact i_FindBlocks_in s sz w (by omega) (by omega) (by omega)
set_option maxHeartbeats 1600000 in
theorem s_FindBlocks_in (s : ByteArray) (sz : Nat) (w : World) (h1 : 1 ≤ sz) (h2 : sz ≤ 200) (h3 : s.size ≤ 20000) :
    Calls Try.prog 15 #[.string s, .int .i64 sz] w (MadeRow 3 1 (findL s sz).length (Ns (findL s sz)) w) := by
  have HL := hide (show s.data.toList.length = s.size by simp)
  have HF := hide (findL_in (s := s) h1 h2 h3)
  go_enter Try.func15, Try.ntmps15
  go_wp2_with fail
  refine (s_In_yes _ _ _ _ (by omega) (by omega)).mono ?_
  rintro e w1 ⟨rfl, rfl⟩
  go_wp2_with fail
  go_loopw [5, 6] (fun v iv wr => ∃ (k : Nat) (acc : List Nat), k ≤ s.size ∧ iv = .int .i64 k ∧ wr.ownsRow w.heap.size 3 1 v acc.length (Ns acc) ∧ acc.length ≤ k ∧ Hid (acc ++ fnd s.data.toList sz k = fnd s.data.toList sz 0) ∧ Below w.heap.size w wr) (fun _ iv _ => s.size - (intOf iv).toNat)
  case atStart => exact ⟨0, [], Nat.zero_le _, rfl, own_lit w _ _, Nat.zero_le _, by simp [Hid], (Below.refl _ _).alloc (Nat.le_refl _) _⟩
  case round =>
    obtain ⟨k, acc, hk, rfl, hown, hac, hacc, hb⟩ := hrel
    have hsz := hb.size
    by_cases hfit : k + 4 + 2 * sz ≤ s.size
    · have HO := hide hown
      clear hown
      have hcm : ((s.extract k (k + 4)).toList == (⟨#[26, 207, 252, 29]⟩ : ByteArray).toList) = decide ((s.data.toList.drop k).take 4 = syncL) := by
        rw [cmp_str, ext_data, show k + 4 - k = 4 by omega]; rfl
      rw [sync_list] at hcm
      cases hr : decide ((s.data.toList.drop k).take 4 = syncL) with
      | false =>
        have hn := hide (show acc ++ fnd s.data.toList sz (k + 1) = fnd s.data.toList sz 0 by
          rw [← fnd_skip (by rw [HL.out]; omega) (by rw [fit_parts hr]; rfl)]; exact hacc.out)
        rw [hr] at hcm
        clear hr hacc
        go_wp2_with fail
        go_roundw
        case rel => exact ⟨k + 1, acc, by omega, by go_num, HO.out, by omega, hn, hb⟩
        case measure => simp [intOf]; omega
      | true =>
        have hn := hide (show (acc ++ [k + 4]) ++ fnd s.data.toList sz (k + 4 + 2 * sz) = fnd s.data.toList sz 0 by
          rw [← hacc.out, fnd_mark (i := k) (by rw [HL.out]; omega) (by rw [fit_parts hr, HL.out, decide_eq_true hfit]; rfl)]; simp)
        rw [hr] at hcm
        clear hr hacc
        go_wp2_with (at_builtin; refine wpList_appV 31 3 (.int .i64 0) 1 8 Try.underlying31 infoI rfl (by decide) (by decide) rfl _ _ rfl w.heap.size _ acc.length 1 (Ns acc) [.int .i64 ((k + 4 : Nat) : Int)] rfl HO.out rfl ?c1 rfl ?c3 ?c4 ?c5 ?_)
        case c1 => rfl
        case c3 => intro u hu; simp at hu; subst hu; rfl
        case c4 => omega
        case c5 => exact hsz
        · intro v' w' hown' hb'
          have HO' := hide (show w'.ownsRow w.heap.size 3 1 v' (acc ++ [k + 4]).length (Ns (acc ++ [k + 4])) by rw [Ns_snoc, List.length_append]; exact hown')
          clear HO hown' hcm
          go_wp2
          go_roundw
          case rel => exact ⟨k + 4 + 2 * sz, acc ++ [k + 4], by omega, by go_num, HO'.out, by simp; omega, hn, hb.trans hb'⟩
          case measure => simp [intOf]; omega
    · have hfin := hide (show acc = findL s sz by
        have h := hacc.out
        rw [fnd_last (by rw [HL.out]; omega), List.append_nil] at h
        rw [HF.out]; exact h)
      have HO := hide hown
      clear hown hacc
      go_wp2
      go_ret
      exact ⟨_, rfl, by rw [← hfin.out]; exact HO.out, hb⟩
set_option maxHeartbeats 400000 in
theorem s_FindBlocks (s : ByteArray) (size : Int) (w : World) (hs : s.size ≤ 1099511627776) :
    Calls Try.prog 15 #[.string s, .int .i64 size] w (MadeRow 3 1 (findL s size).length (Ns (findL s size)) w) := by
  by_cases h : size < 1 ∨ 200 < size ∨ 20000 < s.size
  · have HF := hide (findL_out h)
    by_cases h1 : size < 1 ∨ 200 < size
    · clear h
      go_enter Try.func15, Try.ntmps15
      go_wp2_with fail
      refine (s_In_no _ _ _ _ h1).mono ?_
      rintro e w1 ⟨rfl, rfl⟩
      go_wp2_with fail
      go_ret
      exact ⟨_, rfl, by rw [HF.out]; exact own_lit w _ _, (Below.refl _ _).alloc (Nat.le_refl _) _⟩
    · have h3 : 20000 < s.size := by omega
      have h4 : 1 ≤ size := by omega
      have h5 : size ≤ 200 := by omega
      clear h h1
      go_enter Try.func15, Try.ntmps15
      go_wp2_with fail
      refine (s_In_yes _ _ _ _ h4 h5).mono ?_
      rintro e w1 ⟨rfl, rfl⟩
      go_wp2_with fail
      go_ret
      exact ⟨_, rfl, by rw [HF.out]; exact own_lit w _ _, (Below.refl _ _).alloc (Nat.le_refl _) _⟩
  · obtain ⟨sz, rfl⟩ := Int.eq_ofNat_of_zero_le (show 0 ≤ size by omega)
    exact s_FindBlocks_in s sz w (by omega) (by omega) (by omega)
end Go.Proofs.Ytimkjhjdddllcaa
