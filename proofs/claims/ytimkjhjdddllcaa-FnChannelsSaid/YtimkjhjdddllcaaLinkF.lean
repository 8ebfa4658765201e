/- What MakeBlock and ReadBlock return, in the program and in the reference, for strings of at most 2^39 bytes. -/
import Derived.Test.YtimkjhjdddllcaaLinkA
import Derived.Test.YtimkjhjdddllcaaLinkB
import Derived.Test.YtimkjhjdddllcaaLinkE
import Derived.Test.YtimkjhjdddllcaaPlFind
namespace Go.Proofs.Ytimkjhjdddllcaa
open Go.RowKit Sat

def makeL (l : List UInt8) : List UInt8 := if 1 ≤ l.length ∧ l.length ≤ 200 then syncL ++ scramble (spread (encodeBlock l)) else []
def makeB (s : ByteArray) : ByteArray := str (makeL s.data.toList)
theorem makeL_in {l : List UInt8} (h1 : 1 ≤ l.length) (h2 : l.length ≤ 200) : makeL l = syncL ++ scramble (spread (encodeBlock l)) := by unfold makeL; rw [if_pos ⟨h1, h2⟩]
theorem makeL_length {l : List UInt8} (h1 : 1 ≤ l.length) (h2 : l.length ≤ 200) : (makeL l).length = 4 + 2 * l.length := by
  rw [makeL_in h1 h2, List.length_append, scramble_length, spread_length, encodeBlock_length]; rfl
theorem makeL_le (l : List UInt8) : (makeL l).length ≤ 404 := by
  unfold makeL
  split
  · rw [List.length_append, scramble_length, spread_length, encodeBlock_length]; simp [syncL]; omega
  · simp
theorem empty_no {s : ByteArray} (h : 1 ≤ s.size) : s.toList.isEmpty = false := by
  rw [ByteArray.toList_eq]
  cases hl : s.data.toList with
  | nil => have : s.data.toList.length = s.size := by simp
           rw [hl] at this; simp at this; omega
  | cons a l => rfl
theorem empty_yes {s : ByteArray} (h : s.size = 0) : s.toList.isEmpty = true := by
  rw [ByteArray.toList_eq]
  cases hl : s.data.toList with
  | nil => rfl
  | cons a l => have : s.data.toList.length = s.size := by simp
                rw [hl] at this; simp at this; omega
set_option maxHeartbeats 800000 in
theorem i_MakeBlock (s : ByteArray) (w : World) (hs : s.size ≤ 1099511627776) :
    Calls Try.prog 11 #[.string s] w fun e w' => e = .returned (.string (makeB s)) ∧ Below w.heap.size w w' := by
  have hL : s.data.toList.length = s.size := by simp
  have HL := hide hL
  clear hL
  by_cases h0 : s.size = 0
  · have he := empty_yes h0
    have HF := hide (show makeB s = str [] by unfold makeB makeL; rw [if_neg (by rw [HL.out]; omega)])
    clear h0
    go_enter Try.func11, Try.ntmps11
    go_wp2_with fail
    go_ret
    exact ⟨ret_str HF.out.symm, Below.refl _ _⟩
  · have he := empty_no (s := s) (by omega)
    by_cases h2 : s.size ≤ 200
    · have HE := hide (show encB s = str (encodeBlock s.data.toList) by unfold encB; rw [if_pos h2])
      have HN := hide (encodeBlock_length s.data.toList)
      have HS := hide (spread_length (encodeBlock s.data.toList))
      have HC := hide (scramble_length (spread (encodeBlock s.data.toList)))
      have HM := hide (makeL_in (l := s.data.toList) (by rw [HL.out]; omega) (by rw [HL.out]; omega))
      clear h0
      go_enter Try.func11, Try.ntmps11
      go_wp2_with fail
      refine (i_EncodeBlock s _ hs).mono ?_
      rintro e w1 ⟨rfl, hb1⟩
      rw [HE.out]
      go_wp2_with fail
      refine (i_SpreadBits (str (encodeBlock s.data.toList)) _ (by rw [str_size, HN.out, HL.out]; omega)).mono ?_
      rintro e w2 ⟨rfl, hb2⟩
      rw [str_data]
      go_wp2_with fail
      refine (i_Scramble (str (spread (encodeBlock s.data.toList))) _ (by rw [str_size, HS.out, HN.out, HL.out]; omega)).mono ?_
      rintro e w3 ⟨rfl, hb3⟩
      have hadd := fun w => run_string_add_sum (P := Try.prog) (w := w) (str syncL) (scrB (str (spread (encodeBlock s.data.toList)))) (by unfold scrB; rw [str_size, str_size, str_data, HC.out, HS.out, HN.out, HL.out]; simp [syncL]; omega)
      have hfin : str syncL ++ scrB (str (spread (encodeBlock s.data.toList))) = makeB s := by
        unfold scrB makeB
        rw [str_data, HM.out]
        exact ByteArray.mk_append_mk _ _
      rw [hfin] at hadd
      clear hfin
      generalize scrB (str (spread (encodeBlock s.data.toList))) = q at *
      have HB := hide (below_trans hb1 (below_trans hb2 hb3))
      clear hb1 hb2 hb3
      change ∀ w, (Op.stringOp .add ⟨#[26, 207, 252, 29]⟩ q).run Try.prog w = _ at hadd
      go_wp2
      go_ret
      exact ⟨rfl, HB.out⟩
    · have HF := hide (show makeB s = str [] by unfold makeB makeL; rw [if_neg (by rw [HL.out]; omega)])
      clear h0
      go_enter Try.func11, Try.ntmps11
      go_wp2_with fail
      go_ret
      exact ⟨ret_str HF.out.symm, Below.refl _ _⟩
def readU (s : ByteArray) : List UInt8 := rdU s.data.toList
theorem decode_none : decodeOk (rdU []) = true ∧ decodeOut (rdU []) = [] ∧ decodeSum (rdU []) = 0 := by decide +kernel
def readOk (s : ByteArray) : Bool := decide (1 ≤ s.size) && decodeOk (readU s)
def readT (s : ByteArray) : ByteArray := if 1 ≤ s.size then str (decodeOut (readU s)) else str []
def readN (s : ByteArray) : Int := if 1 ≤ s.size then (decodeSum (readU s) : Int) else 0
set_option maxHeartbeats 800000 in
theorem i_ReadBlock (s : ByteArray) (w : World) (hs : s.size ≤ 1099511627776) :
    Calls Try.prog 14 #[.string s] w fun e w' => e = .returned (.tuple #[.string (readT s), .int .i64 (readN s), .bool (readOk s)]) ∧ Below w.heap.size w w' := by
  have HL := hide (show s.data.toList.length = s.size by simp)
  by_cases h0 : s.size = 0
  · have he := empty_yes h0
    have HF := hide (show readT s = str [] ∧ readN s = 0 ∧ readOk s = false by unfold readT readN readOk; rw [if_neg (by omega), if_neg (by omega), decide_eq_false (by omega)]; exact ⟨rfl, rfl, rfl⟩)
    clear h0
    go_enter Try.func14, Try.ntmps14
    go_wp2_with fail
    go_ret3
    exact ⟨ret_sib HF.out.1.symm HF.out.2.1.symm HF.out.2.2.symm, Below.refl _ _⟩
  · have he := empty_no (s := s) (by omega)
    have HF := hide (show readT s = str (decodeOut (readU s)) ∧ readN s = (decodeSum (readU s) : Int) ∧ readOk s = decodeOk (readU s) by unfold readT readN readOk; rw [if_pos (by omega), if_pos (by omega), decide_eq_true (by omega)]; exact ⟨rfl, rfl, rfl⟩)
    have HC := hide (scramble_length s.data.toList)
    have HG := hide (gather_length (scramble s.data.toList))
    clear h0
    go_enter Try.func14, Try.ntmps14
    go_wp2_with fail
    refine (i_Scramble s _ hs).mono ?_
    rintro e w1 ⟨rfl, hb1⟩
    go_wp2_with fail
    refine (i_GatherBits (scrB s) _ (by unfold scrB; rw [str_size, HC.out, HL.out]; omega)).mono ?_
    rintro e w2 ⟨rfl, hb2⟩
    go_wp2_with fail
    refine (i_DecodeBlock (str (gather (scrB s).data.toList)) _ (by unfold scrB; rw [str_size, str_data, HG.out, HC.out, HL.out]; omega)).mono ?_
    rintro e w3 ⟨rfl, hb3⟩
    have HB := hide (below_trans hb1 (below_trans hb2 hb3))
    clear hb1 hb2 hb3
    go_wp2_with fail
    go_ret3
    exact ⟨ret_sib HF.out.1.symm HF.out.2.1.symm HF.out.2.2.symm, HB.out⟩
set_option maxHeartbeats 800000 in
theorem s_ReadBlock (s : ByteArray) (w : World) (hs : s.size ≤ 1099511627775) :
    Calls Try.prog 45 #[.string s] w fun e w' => e = .returned (.tuple #[.string (readT s), .int .i64 (readN s), .bool (readOk s)]) ∧ Below w.heap.size w w' := by
  have HL := hide (show s.data.toList.length = s.size by simp)
  by_cases h0 : s.size = 0
  · have he := empty_yes h0
    have HF := hide (show readT s = str [] ∧ readN s = 0 ∧ readOk s = false by unfold readT readN readOk; rw [if_neg (by omega), if_neg (by omega), decide_eq_false (by omega)]; exact ⟨rfl, rfl, rfl⟩)
    clear h0
    go_enter Try.func45, Try.ntmps45
    go_wp2_with fail
    go_ret3
    exact ⟨ret_sib HF.out.1.symm HF.out.2.1.symm HF.out.2.2.symm, Below.refl _ _⟩
  · have he := empty_no (s := s) (by omega)
    have HF := hide (show readT s = str (decodeOut (readU s)) ∧ readN s = (decodeSum (readU s) : Int) ∧ readOk s = decodeOk (readU s) by unfold readT readN readOk; rw [if_pos (by omega), if_pos (by omega), decide_eq_true (by omega)]; exact ⟨rfl, rfl, rfl⟩)
    have HC := hide (scramble_length s.data.toList)
    have HG := hide (gather_length (scramble s.data.toList))
    clear h0
    go_enter Try.func45, Try.ntmps45
    go_wp2_with fail
    refine (s_Scramble s _ hs).mono ?_
    rintro e w1 ⟨rfl, hb1⟩
    go_wp2_with fail
    refine (s_GatherBits (scrB s) _ (by unfold scrB; rw [str_size, HC.out, HL.out]; omega)).mono ?_
    rintro e w2 ⟨rfl, hb2⟩
    go_wp2_with fail
    refine (s_DecodeBlock (str (gather (scrB s).data.toList)) _ (by unfold scrB; rw [str_size, str_data, HG.out, HC.out, HL.out]; omega)).mono ?_
    rintro e w3 ⟨rfl, hb3⟩
    have HB := hide (below_trans hb1 (below_trans hb2 hb3))
    clear hb1 hb2 hb3
    go_wp2_with fail
    go_ret3
    exact ⟨ret_sib HF.out.1.symm HF.out.2.1.symm HF.out.2.2.symm, HB.out⟩
end Go.Proofs.Ytimkjhjdddllcaa
