/- What DecodeBlock returns, in the program and in the reference, for strings of at most 2^40 bytes. -/
import Derived.Test.YtimkjhjdddllcaaLinkD
namespace Go.Proofs.Ytimkjhjdddllcaa
open Go.RowKit Sat

theorem ret_sib {a b : ByteArray} {x y : Int} {c d : Bool} (h : a = b) (h1 : x = y) (h2 : c = d) : Ending.returned (.tuple #[.string a, .int .i64 x, .bool c]) = .returned (.tuple #[.string b, .int .i64 y, .bool d]) := by rw [h, h1, h2]
theorem byteAt_s (s : ByteArray) (m : Nat) (h : m < s.size) : byteAt s.data.toList m = (s[m]'h).toNat := by
  unfold byteAt; rw [List.getD_eq_getElem?_getD, List.getElem?_eq_getElem (by simpa using h)]; rfl
theorem nib_some {l : List UInt8} {j m : Nat} (x : Nat) (hx : byteAt l j = x) (h : nib l j = some m) : decA x = (m : Int) ∧ decK x = (difs l j : Int) ∧ m < 16 ∧ nibD l j = m := by
  have hl := byteAt_lt l j
  unfold nib at h
  rw [hx] at h hl
  have h1 := dec_some (w := x) (by omega) h
  have e : nibD l j = m := by unfold nibD nib; rw [hx, h]; rfl
  refine ⟨h1.1, ?_, decN_lt h, e⟩
  rw [h1.2]; unfold difs; rw [e, hx]
theorem nib_none {l : List UInt8} {j : Nat} (x : Nat) (hx : byteAt l j = x) (h : nib l j = none) : decA x = -1 := by
  have hl := byteAt_lt l j
  unfold nib at h
  rw [hx] at h hl
  exact (dec_none (w := x) (by omega) h).1
theorem ok_bad {l : List UInt8} {k : Nat} (hk : k < l.length / 2) (h : okPair l k = false) : decodeOk l = false := by
  have : ∀ n, k < n → okTo l n = false := by
    intro n
    induction n with
    | zero => intro h; omega
    | succ n ih =>
      intro hn
      rw [okTo]
      by_cases e : k = n
      · subst e; rw [h]; simp
      · rw [ih (by omega)]; rfl
  unfold decodeOk
  rw [this _ hk]; simp
theorem decode_no {l : List UInt8} (h : decodeOk l = false) : str (decodeOut l) = str [] ∧ decodeSum l = 0 := by
  unfold decodeOut decodeSum; rw [h]; exact ⟨rfl, rfl⟩
theorem decode_yes {l : List UInt8} (h2 : l.length % 2 = 0) (h4 : l.length ≤ 400) (h : okTo l (l.length / 2) = true) : decodeOk l = true ∧ decodeOut l = outTo l (l.length / 2) ∧ decodeSum l = sumTo l (l.length / 2) := by
  have ok : decodeOk l = true := by unfold decodeOk; rw [h]; simp; omega
  unfold decodeOut decodeSum; rw [ok]; exact ⟨rfl, rfl, rfl⟩
theorem out_byte (l : List UInt8) (k a b : Nat) (ha : nibD l (2 * k) = a) (hb : nibD l (2 * k + 1) = b) (h1 : a < 16) (h2 : b < 16) : 16 * (a : Int) + (b : Int) = ((outB l k).toNat : Int) := by
  unfold outB
  rw [ha, hb, UInt8.toNat_ofNat']
  omega
set_option maxHeartbeats 3200000 in
theorem i_DecodeBlock_in (s : ByteArray) (w : World) (h2 : s.size % 2 = 0) (h4 : s.size ≤ 400) :
    Calls Try.prog 38 #[.string s] w fun e w' => e = .returned (.tuple #[.string (str (decodeOut s.data.toList)), .int .i64 (decodeSum s.data.toList), .bool (decodeOk s.data.toList)]) ∧ Below w.heap.size w w' := by
  have HL := hide (show s.data.toList.length = s.size by simp)
  have d0 : ((s.size : Int) % 2 != 0) = false := by have : (s.size : Int) % 2 = 0 := by omega
                                                    rw [this]; rfl
  have d1 : decide (400 < (s.size : Int)) = false := decide_eq_false (by omega)
  go_enter Try.func38, Try.ntmps38
  go_wp2_with (at_make; refine wpList_mk0 rfl _ _ rfl _ (s.size / 2) rfl rfl (by omega) (by omega) ?_; intro w1 hown hb)
  go_loopw [5, 6, 7] (fun v sv iv wr => ∃ k : Nat, 2 * k ≤ s.size ∧ iv = .int .i64 ((2 * k : Nat) : Int) ∧ sv = .int .i64 (sumTo s.data.toList k) ∧ BOwn wr w.heap.size v (outTo s.data.toList k) ∧ Hid (okTo s.data.toList k = true) ∧ Below w.heap.size w wr) (fun _ _ iv _ => s.size - (intOf iv).toNat)
  case atStart => exact ⟨0, Nat.zero_le _, rfl, rfl, hown, rfl, hb⟩
  case round =>
    clear hown hb
    obtain ⟨k, hk, rfl, rfl, hown, hok, hb⟩ := hrel
    have hsz := hb.size
    have hsm := sumTo_le s.data.toList k
    by_cases hlt : 2 * k < s.size
    · have h1 : 2 * k + 1 < s.size := by omega
      have hx : (s[2 * k]'hlt).toNat < 256 := UInt8.toNat_lt _
      have hy : (s[2 * k + 1]'h1).toNat < 256 := UInt8.toNat_lt _
      have hbx := hide (byteAt_s s (2 * k) hlt)
      have hby := hide (byteAt_s s (2 * k + 1) h1)
      have hd1 := dist_lt (nibD s.data.toList (2 * k)) (byteAt s.data.toList (2 * k))
      have hd2 := dist_lt (nibD s.data.toList (2 * k + 1)) (byteAt s.data.toList (2 * k + 1))
      change difs s.data.toList (2 * k) ≤ 8 at hd1
      change difs s.data.toList (2 * k + 1) ≤ 8 at hd2
      have hss := hide (show sumTo s.data.toList (k + 1) = sumTo s.data.toList k + (difs s.data.toList (2 * k) + difs s.data.toList (2 * k + 1)) from rfl)
      have hos := hide (outTo_succ s.data.toList k)
      have hol := hide (outTo_length s.data.toList k)
      have hlen : k < s.data.toList.length / 2 := by rw [HL.out]; omega
      have hoks := hide (show okTo s.data.toList (k + 1) = (okTo s.data.toList k && okPair s.data.toList k) from rfl)
      cases ha : nib s.data.toList (2 * k) with
      | none =>
        have hv := hide (nib_none _ hbx.out ha)
        have hbad := ok_bad hlen (show okPair s.data.toList k = false by unfold okPair; rw [ha]; rfl)
        have hfin := hide (And.intro hbad (decode_no hbad))
        clear ha hbad
        go_wp2_with fail
        refine (i_DecodeNibble _ _).mono ?_
        rintro e w2 ⟨rfl, rfl⟩
        rw [hv.out]
        generalize decK _ = q at *
        clear hown hss hos hol hoks hok
        go_wp2_with fail
        refine (i_DecodeNibble _ _).mono ?_
        rintro e w2 ⟨rfl, rfl⟩
        generalize decK _ = q2 at *
        generalize decA _ = q3 at *
        go_wp2_with fail
        go_ret3
        exact ⟨ret_sib hfin.out.2.1.symm (by rw [hfin.out.2.2]; rfl) hfin.out.1.symm, hb⟩
      | some a =>
        obtain ⟨ea, eka, la, na⟩ := nib_some _ hbx.out ha
        have Ea := hide ea
        have Ka := hide eka
        have Na := hide na
        clear ea eka na
        cases hbn : nib s.data.toList (2 * k + 1) with
        | none =>
          have hv := hide (nib_none _ hby.out hbn)
          have hbad := ok_bad hlen (show okPair s.data.toList k = false by unfold okPair; rw [hbn]; simp)
          have hfin := hide (And.intro hbad (decode_no hbad))
          clear ha hbn hbad
          go_wp2_with fail
          refine (i_DecodeNibble _ _).mono ?_
          rintro e w2 ⟨rfl, rfl⟩
          rw [Ea.out]
          generalize decK _ = q at *
          clear hown hss hos hol hoks hok
          go_wp2_with fail
          refine (i_DecodeNibble _ _).mono ?_
          rintro e w2 ⟨rfl, rfl⟩
          rw [hv.out]
          generalize decK _ = q2 at *
          go_wp2_with fail
          go_ret3
          exact ⟨ret_sib hfin.out.2.1.symm (by rw [hfin.out.2.2]; rfl) hfin.out.1.symm, hb⟩
        | some b =>
          obtain ⟨eb, ekb, lb, nb⟩ := nib_some _ hby.out hbn
          have Eb := hide eb
          have Kb := hide ekb
          have hout := hide (out_byte s.data.toList k a b Na.out nb la lb)
          have hokn : okTo s.data.toList (k + 1) = true := by
            rw [hoks.out, hok.out]; unfold okPair; rw [ha, hbn]; rfl
          have HOK := hide hokn
          clear eb ekb nb ha hbn hokn
          go_wp2_with fail
          refine (i_DecodeNibble _ _).mono ?_
          rintro e w2 ⟨rfl, rfl⟩
          rw [Ea.out, Ka.out]
          go_wp2_with fail
          refine (i_DecodeNibble _ _).mono ?_
          rintro e w2 ⟨rfl, rfl⟩
          rw [Eb.out, Kb.out]
          clear Ea Ka Eb Kb Na hbx hby hoks hok
          go_wp2_with (at_builtin; refine wpList_app rfl _ _ rfl w.heap.size _ _ [outB s.data.toList k] rfl hown rfl ?c1 ?c2 ?c3 ?_)
          case c1 => rw [hout.out]; rfl
          case c2 => rw [hol.out]; simp; omega
          case c3 => exact hsz
          · intro v' w' hown' hb'
            clear hown
            go_wp2
            go_roundw
            case rel => exact ⟨k + 1, by omega, by go_num, by rw [hss.out]; go_num, by rw [hos.out]; exact hown', HOK.out, hb.trans hb'⟩
            case measure => simp [intOf]; omega
    · have hk2 : k = s.size / 2 := by omega
      have hs' := hown.str
      have hdy := decode_yes (l := s.data.toList) (by rw [HL.out]; exact h2) (by rw [HL.out]; exact h4) (by rw [HL.out, ← hk2]; exact hok.out)
      rw [HL.out, ← hk2] at hdy
      have hfin := hide hdy
      clear hdy hown hok hk2
      go_wp2
      go_ret3
      exact ⟨ret_sib (by rw [hfin.out.2.1]) (by rw [hfin.out.2.2]) hfin.out.1.symm, hb⟩
set_option maxHeartbeats 400000 in
theorem i_DecodeBlock (s : ByteArray) (w : World) (hs : s.size ≤ 1099511627776) :
    Calls Try.prog 38 #[.string s] w fun e w' => e = .returned (.tuple #[.string (str (decodeOut s.data.toList)), .int .i64 (decodeSum s.data.toList), .bool (decodeOk s.data.toList)]) ∧ Below w.heap.size w w' := by
  have HL := hide (show s.data.toList.length = s.size by simp)
  by_cases h : s.size % 2 = 0 ∧ s.size ≤ 400
  · exact i_DecodeBlock_in s w h.1 h.2
  · have hbad : decodeOk s.data.toList = false := by
      unfold decodeOk
      rw [HL.out]
      by_cases h2 : s.size % 2 = 0
      · rw [decide_eq_false (p := s.size ≤ 400) (by omega)]; simp
      · rw [decide_eq_false h2]; rfl
    have hfin := hide (And.intro hbad (decode_no hbad))
    clear hbad
    by_cases h2 : s.size % 2 = 0
    · have d0 : ((s.size : Int) % 2 != 0) = false := by
        have e : (s.size : Int) % 2 = 0 := by omega
        rw [e]; rfl
      have d1 : decide (400 < (s.size : Int)) = true := decide_eq_true (by omega)
      clear h
      go_enter Try.func38, Try.ntmps38
      go_wp2_with fail
      go_ret3
      exact ⟨ret_sib hfin.out.2.1.symm (by rw [hfin.out.2.2]; rfl) hfin.out.1.symm, Below.refl _ _⟩
    · have d0 : ((s.size : Int) % 2 != 0) = true := by
        have e : (s.size : Int) % 2 = 1 := by omega
        rw [e]; rfl
      clear h
      go_enter Try.func38, Try.ntmps38
      go_wp2_with fail
      go_ret3
      exact ⟨ret_sib hfin.out.2.1.symm (by rw [hfin.out.2.2]; rfl) hfin.out.1.symm, Below.refl _ _⟩
set_option maxHeartbeats 3200000 in
theorem s_DecodeBlock_in (s : ByteArray) (w : World) (h2 : s.size % 2 = 0) (h4 : s.size ≤ 400) :
    Calls Try.prog 54 #[.string s] w fun e w' => e = .returned (.tuple #[.string (str (decodeOut s.data.toList)), .int .i64 (decodeSum s.data.toList), .bool (decodeOk s.data.toList)]) ∧ Below w.heap.size w w' := by
  have HL := hide (show s.data.toList.length = s.size by simp)
  have d0 : ((s.size : Int) % 2 != 0) = false := by have : (s.size : Int) % 2 = 0 := by omega
                                                    rw [this]; rfl
  have d1 : decide (400 < (s.size : Int)) = false := decide_eq_false (by omega)
  go_enter Try.func54, Try.ntmps54
  go_wp2_with fail
  have hown := BOwn.lit w
  have hb : Below w.heap.size w (w.alloc (.cells #[] 5)) := (Below.refl _ _).alloc (Nat.le_refl _) _
  go_loopw [5, 6, 7] (fun v sv iv wr => ∃ k : Nat, 2 * k ≤ s.size ∧ iv = .int .i64 ((2 * k : Nat) : Int) ∧ sv = .int .i64 (sumTo s.data.toList k) ∧ BOwn wr w.heap.size v (outTo s.data.toList k) ∧ Hid (okTo s.data.toList k = true) ∧ Below w.heap.size w wr) (fun _ _ iv _ => s.size - (intOf iv).toNat)
  case atStart => exact ⟨0, Nat.zero_le _, rfl, rfl, hown, rfl, hb⟩
  case round =>
    clear hown hb
    obtain ⟨k, hk, rfl, rfl, hown, hok, hb⟩ := hrel
    have hsz := hb.size
    have hsm := sumTo_le s.data.toList k
    by_cases hlt : 2 * k < s.size
    · have h1 : 2 * k + 1 < s.size := by omega
      have hx : (s[2 * k]'hlt).toNat < 256 := UInt8.toNat_lt _
      have hy : (s[2 * k + 1]'h1).toNat < 256 := UInt8.toNat_lt _
      have hbx := hide (byteAt_s s (2 * k) hlt)
      have hby := hide (byteAt_s s (2 * k + 1) h1)
      have hd1 := dist_lt (nibD s.data.toList (2 * k)) (byteAt s.data.toList (2 * k))
      have hd2 := dist_lt (nibD s.data.toList (2 * k + 1)) (byteAt s.data.toList (2 * k + 1))
      change difs s.data.toList (2 * k) ≤ 8 at hd1
      change difs s.data.toList (2 * k + 1) ≤ 8 at hd2
      have hss := hide (show sumTo s.data.toList (k + 1) = sumTo s.data.toList k + (difs s.data.toList (2 * k) + difs s.data.toList (2 * k + 1)) from rfl)
      have hos := hide (outTo_succ s.data.toList k)
      have hol := hide (outTo_length s.data.toList k)
      have hlen : k < s.data.toList.length / 2 := by rw [HL.out]; omega
      have hoks := hide (show okTo s.data.toList (k + 1) = (okTo s.data.toList k && okPair s.data.toList k) from rfl)
      cases ha : nib s.data.toList (2 * k) with
      | none =>
        have hv := hide (nib_none _ hbx.out ha)
        have hbad := ok_bad hlen (show okPair s.data.toList k = false by unfold okPair; rw [ha]; rfl)
        have hfin := hide (And.intro hbad (decode_no hbad))
        clear ha hbad
        go_wp2_with fail
        refine (s_DecodeNibble _ _).mono ?_
        rintro e w2 ⟨rfl, rfl⟩
        rw [hv.out]
        generalize decK _ = q at *
        clear hown hss hos hol hoks hok
        go_wp2_with fail
        refine (s_DecodeNibble _ _).mono ?_
        rintro e w2 ⟨rfl, rfl⟩
        generalize decK _ = q2 at *
        generalize decA _ = q3 at *
        go_wp2_with fail
        go_ret3
        exact ⟨ret_sib hfin.out.2.1.symm (by rw [hfin.out.2.2]; rfl) hfin.out.1.symm, hb⟩
      | some a =>
        obtain ⟨ea, eka, la, na⟩ := nib_some _ hbx.out ha
        have Ea := hide ea
        have Ka := hide eka
        have Na := hide na
        clear ea eka na
        cases hbn : nib s.data.toList (2 * k + 1) with
        | none =>
          have hv := hide (nib_none _ hby.out hbn)
          have hbad := ok_bad hlen (show okPair s.data.toList k = false by unfold okPair; rw [hbn]; simp)
          have hfin := hide (And.intro hbad (decode_no hbad))
          clear ha hbn hbad
          go_wp2_with fail
          refine (s_DecodeNibble _ _).mono ?_
          rintro e w2 ⟨rfl, rfl⟩
          rw [Ea.out]
          generalize decK _ = q at *
          clear hown hss hos hol hoks hok
          go_wp2_with fail
          refine (s_DecodeNibble _ _).mono ?_
          rintro e w2 ⟨rfl, rfl⟩
          rw [hv.out]
          generalize decK _ = q2 at *
          go_wp2_with fail
          go_ret3
          exact ⟨ret_sib hfin.out.2.1.symm (by rw [hfin.out.2.2]; rfl) hfin.out.1.symm, hb⟩
        | some b =>
          obtain ⟨eb, ekb, lb, nb⟩ := nib_some _ hby.out hbn
          have Eb := hide eb
          have Kb := hide ekb
          have hout := hide (out_byte s.data.toList k a b Na.out nb la lb)
          have hokn : okTo s.data.toList (k + 1) = true := by
            rw [hoks.out, hok.out]; unfold okPair; rw [ha, hbn]; rfl
          have HOK := hide hokn
          clear eb ekb nb ha hbn hokn
          go_wp2_with fail
          refine (s_DecodeNibble _ _).mono ?_
          rintro e w2 ⟨rfl, rfl⟩
          rw [Ea.out, Ka.out]
          go_wp2_with fail
          refine (s_DecodeNibble _ _).mono ?_
          rintro e w2 ⟨rfl, rfl⟩
          rw [Eb.out, Kb.out]
          clear Ea Ka Eb Kb Na hbx hby hoks hok
          go_wp2_with (at_builtin; refine wpList_app rfl _ _ rfl w.heap.size _ _ [outB s.data.toList k] rfl hown rfl ?c1 ?c2 ?c3 ?_)
          case c1 => rw [hout.out]; rfl
          case c2 => rw [hol.out]; simp; omega
          case c3 => exact hsz
          · intro v' w' hown' hb'
            clear hown
            go_wp2
            go_roundw
            case rel => exact ⟨k + 1, by omega, by go_num, by rw [hss.out]; go_num, by rw [hos.out]; exact hown', HOK.out, hb.trans hb'⟩
            case measure => simp [intOf]; omega
    · have hk2 : k = s.size / 2 := by omega
      have hs' := hown.str
      have hdy := decode_yes (l := s.data.toList) (by rw [HL.out]; exact h2) (by rw [HL.out]; exact h4) (by rw [HL.out, ← hk2]; exact hok.out)
      rw [HL.out, ← hk2] at hdy
      have hfin := hide hdy
      clear hdy hown hok hk2
      go_wp2
      go_ret3
      exact ⟨ret_sib (by rw [hfin.out.2.1]) (by rw [hfin.out.2.2]) hfin.out.1.symm, hb⟩
set_option maxHeartbeats 400000 in
theorem s_DecodeBlock (s : ByteArray) (w : World) (hs : s.size ≤ 1099511627776) :
    Calls Try.prog 54 #[.string s] w fun e w' => e = .returned (.tuple #[.string (str (decodeOut s.data.toList)), .int .i64 (decodeSum s.data.toList), .bool (decodeOk s.data.toList)]) ∧ Below w.heap.size w w' := by
  have HL := hide (show s.data.toList.length = s.size by simp)
  by_cases h : s.size % 2 = 0 ∧ s.size ≤ 400
  · exact s_DecodeBlock_in s w h.1 h.2
  · have hbad : decodeOk s.data.toList = false := by
      unfold decodeOk
      rw [HL.out]
      by_cases h2 : s.size % 2 = 0
      · rw [decide_eq_false (p := s.size ≤ 400) (by omega)]; simp
      · rw [decide_eq_false h2]; rfl
    have hfin := hide (And.intro hbad (decode_no hbad))
    clear hbad
    by_cases h2 : s.size % 2 = 0
    · have d0 : ((s.size : Int) % 2 != 0) = false := by
        have e : (s.size : Int) % 2 = 0 := by omega
        rw [e]; rfl
      have d1 : decide (400 < (s.size : Int)) = true := decide_eq_true (by omega)
      clear h
      go_enter Try.func54, Try.ntmps54
      go_wp2_with fail
      go_ret3
      exact ⟨ret_sib hfin.out.2.1.symm (by rw [hfin.out.2.2]; rfl) hfin.out.1.symm, Below.refl _ _⟩
    · have d0 : ((s.size : Int) % 2 != 0) = true := by
        have e : (s.size : Int) % 2 = 1 := by omega
        rw [e]; rfl
      clear h
      go_enter Try.func54, Try.ntmps54
      go_wp2_with fail
      go_ret3
      exact ⟨ret_sib hfin.out.2.1.symm (by rw [hfin.out.2.2]; rfl) hfin.out.1.symm, Below.refl _ _⟩
end Go.Proofs.Ytimkjhjdddllcaa
