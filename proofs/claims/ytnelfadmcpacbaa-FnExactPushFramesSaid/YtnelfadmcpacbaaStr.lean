/- Small facts on strings as lists of bytes: cutting, joining, comparing. No condition. -/
import Derived.Test.YtnelfadmcpacbaaPlWord
import Derived.Test.YtnelfadmcpacbaaBase
namespace Go.Proofs.Ytnelfadmcpacbaa
open Go.RowKit Sat

theorem ext_data (s : ByteArray) (a b : Nat) : (s.extract a b).data.toList = (s.data.toList.drop a).take (b - a) := by
  have h := ByteArray.extract_mk s.data.toList a b
  have e : (ByteArray.mk s.data.toList.toArray) = s := by cases s; simp
  rw [e] at h
  rw [h]
theorem ext_size (s : ByteArray) (n : Nat) (h : n ≤ s.size) : (s.extract 0 n).size = n := by
  have h1 : (s.extract 0 n).data.toList.length = n := by
    rw [ext_data]; simp; have : s.size = s.data.size := rfl; omega
  simpa using h1
theorem cmp_str (a b : ByteArray) : (a.toList == b.toList) = decide (a.data.toList = b.data.toList) := by
  rw [ByteArray.toList_eq, ByteArray.toList_eq]
  by_cases h : a.data.toList = b.data.toList
  · simp [h]
  · rw [decide_eq_false h]; exact beq_eq_false_iff_ne.2 h
theorem app_str (s : ByteArray) (l : List UInt8) : s ++ str l = str (s.data.toList ++ l) := by
  have h : s = str s.data.toList := (str_of s).symm
  rw [h]
  exact ByteArray.mk_append_mk _ _
end Go.Proofs.Ytnelfadmcpacbaa
