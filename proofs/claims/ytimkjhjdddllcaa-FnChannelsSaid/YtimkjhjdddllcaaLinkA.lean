/- What Scramble returns, in the program and in the reference, for strings of at most 2^40 bytes; and rows of bytes made of a string. -/
import Derived.Test.YtimkjhjdddllcaaBase
import Derived.Test.YtimkjhjdddllcaaWordD
import Derived.Test.YtimkjhjdddllcaaPlLink
namespace Go.Proofs.Ytimkjhjdddllcaa
open Go.RowKit Sat

/-- block g is a row of bytes that []byte(s) made: its first n are l -/
def BMar (w : World) (g n : Nat) (l : List UInt8) : Prop :=
  l.length = n ∧ ∃ cs : Array Value, w.heap[g]? = some (.cells cs 5 (cs.size, cs.size + 1)) ∧ n ≤ cs.size ∧ cs.toList.take n = Bys l
theorem BMar.cell {w : World} {g n : Nat} {l : List UInt8} (h : BMar w g n l) (j : Nat) (hj : j < n) : w.cell? ⟨g, j, none⟩ = some (.int .u8 ((l.getD j 0).toNat : Int)) := by
  obtain ⟨hl, cs, hg, hn, ht⟩ := h
  rw [cell_of_row w g j cs _ _ hg]
  have h1 := Bys_at l j (by omega)
  rw [← ht, List.getElem?_take, if_pos hj] at h1
  rw [List.getD_eq_getElem?_getD, List.getElem?_eq_getElem (by omega)]
  simpa using h1
theorem BMar.frozen {w : World} {g n : Nat} {l : List UInt8} (h : BMar w g n l) (j : Nat) (hj : j < n) : w.frozen? ⟨g, j, none⟩ = false := by
  obtain ⟨hl, cs, hg, hn, ht⟩ := h
  unfold World.frozen?
  simp only [hg]
  simp; omega
theorem BMar.stored {w : World} {g n : Nat} {l : List UInt8} (h : BMar w g n l) (j : Nat) (b : UInt8) : BMar (w.setCell ⟨g, j, none⟩ (.int .u8 (b.toNat : Int))) g n (l.set j b) := by
  obtain ⟨hl, cs, hg, hn, ht⟩ := h
  refine ⟨by simpa using hl, cs.setIfInBounds j (.int .u8 (b.toNat : Int)), ?_, by simpa using hn, ?_⟩
  · simp [World.setCell, Array.getElem?_modify, hg]
  · rw [Array.toList_setIfInBounds, List.take_set, ht, Bys_set]
theorem BMar.str {w : World} {g n cap : Nat} {l : List UInt8} (h : BMar w g n l) : (convert 22 9 (.slice (some ⟨g, 0, none⟩) n cap)).run Try.prog w = .ok (.string (str l)) w := by
  have hl := h.1
  subst hl
  refine run_convert_bytes_back (P := Try.prog) w 22 9 5 ⟨g, 0, none⟩ cap l Try.underlying22 Try.underlying5 Try.underlying9 ?_
  intro j hj
  have e : (⟨g, 0, none⟩ : Addr).add j = ⟨g, j, none⟩ := by unfold Addr.add; split <;> simp_all
  rw [e, h.cell j hj, List.getD_eq_getElem?_getD, List.getElem?_eq_getElem hj]; rfl
theorem BMar.made (w : World) (s : ByteArray) (c : Nat) : BMar (w.alloc (.cells (bytesRow s c) 5 ((bytesRow s c).size, (bytesRow s c).size + 1))).drew w.heap.size s.size s.data.toList := by
  refine ⟨by simp, bytesRow s c, ?_, ?_, ?_⟩
  · show (w.heap.push _)[w.heap.size]? = _
    simp
  · unfold bytesRow; simp
  · unfold bytesRow Bys
    rw [Array.toList_append, List.take_append_of_le_length (by simp)]
    simp only [Array.toList_map]
    exact List.take_of_length_le (by simp)
theorem BMar.drewN {w : World} {g n : Nat} {l : List UInt8} (h : BMar w g n l) (k : Nat) : BMar (w.drewN k) g n l := h

def scrB (s : ByteArray) : ByteArray := str (scramble s.data.toList)
/-- the first k bytes scrambled, the others as they were -/
def scrTo (l : List UInt8) (k : Nat) : List UInt8 := l.mapIdx fun i b => if i < k then b ^^^ UInt8.ofNat (key i) else b
theorem scrTo_zero (l : List UInt8) : scrTo l 0 = l := by
  apply List.ext_getElem
  · simp [scrTo]
  · intro i h1 h2; simp [scrTo]
theorem scrTo_full (l : List UInt8) : scrTo l l.length = scramble l := by
  apply List.ext_getElem
  · simp [scrTo, scramble]
  · intro i h1 h2
    have : i < l.length := by simpa [scrTo] using h1
    simp [scrTo, scramble, this]
theorem scrTo_length (l : List UInt8) (k : Nat) : (scrTo l k).length = l.length := by simp [scrTo]
theorem scrTo_at (l : List UInt8) (k : Nat) (hk : k < l.length) : (scrTo l k).getD k 0 = l.getD k 0 := by
  simp [scrTo, List.getD_eq_getElem?_getD, hk]
theorem scrTo_succ (l : List UInt8) (k : Nat) (hk : k < l.length) : (scrTo l k).set k (l.getD k 0 ^^^ UInt8.ofNat (key k)) = scrTo l (k + 1) := by
  apply List.ext_getElem
  · simp [scrTo]
  · intro i h1 h2
    have hi : i < l.length := by simpa [scrTo] using h1
    rw [List.getElem_set]
    by_cases e : k = i
    · subst e
      simp [scrTo, List.getD_eq_getElem?_getD, hk]
    · rw [if_neg e]
      simp only [scrTo, List.getElem_mapIdx]
      by_cases h3 : i < k
      · rw [if_pos h3, if_pos (by omega)]
      · rw [if_neg h3, if_neg (by omega)]
theorem xor_byte (a : UInt8) (x : Nat) (hx : x < 256) : bits .xor .u8 (a.toNat : Int) (x : Int) = ((a ^^^ UInt8.ofNat x).toNat : Int) := by
  rw [u8_xor_nat _ _ a.toNat_lt hx, UInt8.toNat_xor, UInt8.toNat_ofNat', Nat.mod_eq_of_lt hx]
theorem i_next : ∀ x : Nat, x < 256 → bits .or .i64 (bits .and .i64 ((x : Int) * 2) 255) (bits .and .i64 ((x : Int) / 128 + (x : Int) / 16 + (x : Int) / 4 + (x : Int)) 1) = (scrNext x : Int) := by decide +kernel
set_option maxHeartbeats 1600000 in
theorem i_Scramble (s : ByteArray) (w : World) (hs : s.size ≤ 1099511627776) :
    Calls Try.prog 34 #[.string s] w fun e w' => e = .returned (.string (scrB s)) ∧ Below w.heap.size w w' := by
  have hcv := fun w => run_bytes_of_string (P := Try.prog) w 9 22 5 s Try.underlying9 Try.underlying22 Try.underlying5
  have hlen : s.data.toList.length = s.size := by simp
  have HL := hide hlen
  clear hlen
  go_enter Try.func34, Try.ntmps34
  go_wp2
  have hm := BMar.made w s (grownCap w s.size 0 5)
  have hb0 : Below w.heap.size w (w.alloc (.cells (bytesRow s (grownCap w s.size 0 5)) 5 ((bytesRow s (grownCap w s.size 0 5)).size, (bytesRow s (grownCap w s.size 0 5)).size + 1))).drew := ((Below.refl _ _).alloc (Nat.le_refl _) _).drew
  generalize grownCap w s.size 0 5 = c at *
  go_loopw [4, 10] (fun xv iv wr => ∃ k : Nat, k ≤ s.size ∧ xv = .int .i64 (key k) ∧ iv = .int .i64 k ∧ BMar wr w.heap.size s.size (scrTo s.data.toList k) ∧ Below w.heap.size w wr) (fun _ iv _ => s.size - (intOf iv).toNat)
  case atStart => exact ⟨0, Nat.zero_le _, rfl, rfl, by rw [scrTo_zero]; exact hm, hb0⟩
  case round =>
    obtain ⟨k, hk, rfl, rfl, hrow, hb⟩ := hrel
    have hkey := key_lt k
    by_cases hlt : k < s.size
    · have hat := scrTo_at s.data.toList k (by rw [HL.out]; exact hlt)
      have hc := hrow.cell k hlt
      rw [hat] at hc
      have hf := hrow.frozen k hlt
      have hst := hide (hrow.stored k (s.data.toList.getD k 0 ^^^ UInt8.ofNat (key k)))
      have hxb := hide (xor_byte (s.data.toList.getD k 0) (key k) hkey)
      have hnx := hide (i_next (key k) hkey)
      have hsc := hide (scrTo_succ s.data.toList k (by rw [HL.out]; exact hlt))
      clear hrow hat hcv hm hb0
      generalize s.data.toList.getD k 0 = x at *
      have hx : x.toNat < 256 := UInt8.toNat_lt _
      go_wp2
      go_roundw
      case rel =>
        refine ⟨k + 1, by omega, ?_, by go_num, ?_, hb.setCell (Nat.le_refl _) _⟩
        · exact congrArg _ hnx.out
        · rw [hxb.out, ← hsc.out]; exact hst.out
      case measure => simp [intOf]; omega
    · obtain rfl : k = s.size := by omega
      have hs' := hrow.str (cap := c)
      rw [← HL.out, scrTo_full] at hs'
      rw [HL.out] at hs'
      clear hrow hcv hm
      go_wp2
      go_ret
      exact ⟨rfl, hb⟩
theorem s_next : ∀ x : Nat, x < 256 → bits .or .i64 (bits .and .i64 ((x : Int) * 2) 255) (bits .and .i64 (bits .xor .i64 (bits .xor .i64 (bits .xor .i64 ((x : Int) / 128) ((x : Int) / 16)) ((x : Int) / 4)) (x : Int)) 1) = (scrNext x : Int) := by decide +kernel
theorem scramble_take (s : ByteArray) (k : Nat) (hk : k < s.size) : (scramble s.data.toList).take (k + 1) = (scramble s.data.toList).take k ++ [s[k] ^^^ UInt8.ofNat (key k)] := by
  rw [List.take_succ_eq_append_getElem (by rw [scramble_length]; simpa using hk)]
  congr 2
  simp [scramble]; rfl
set_option maxHeartbeats 1600000 in
theorem s_Scramble (s : ByteArray) (w : World) (hs : s.size ≤ 1099511627775) :
    Calls Try.prog 56 #[.string s] w fun e w' => e = .returned (.string (scrB s)) ∧ Below w.heap.size w w' := by
  have HL := hide (show s.data.toList.length = s.size by simp)
  go_enter Try.func56, Try.ntmps56
  go_wp2
  have hown := BOwn.lit w
  have hb : Below w.heap.size w (w.alloc (.cells #[] 5)) := (Below.refl _ _).alloc (Nat.le_refl _) _
  go_loopw [3, 4, 5] (fun v xv iv wr => ∃ k : Nat, k ≤ s.size ∧ xv = .int .i64 (key k) ∧ iv = .int .i64 k ∧ BOwn wr w.heap.size v ((scramble s.data.toList).take k) ∧ Below w.heap.size w wr) (fun _ _ iv _ => s.size - (intOf iv).toNat)
  case atStart => exact ⟨0, Nat.zero_le _, rfl, rfl, hown, hb⟩
  case round =>
    obtain ⟨k, hk, rfl, rfl, hown, hb⟩ := hrel
    have hkey := key_lt k
    have hsz := hb.size
    by_cases hlt : k < s.size
    · have hxb := hide (xor_byte (s[k]'hlt) (key k) hkey)
      have hnx := hide (s_next (key k) hkey)
      have htk := hide (scramble_take s k hlt)
      have hx : (s[k]'hlt).toNat < 256 := UInt8.toNat_lt _
      have hlen : ((scramble s.data.toList).take k).length ≤ k := by rw [List.length_take]; omega
      go_wp2_with (at_builtin; refine wpList_app rfl _ _ rfl w.heap.size _ _ [s[k]'hlt ^^^ UInt8.ofNat (key k)] rfl hown rfl ?c1 ?c2 ?c3 ?_)
      case c1 => rw [hxb.out]; rfl
      case c2 => simp only [List.length_singleton]; omega
      case c3 => exact hsz
      · intro v' w' hown' hb'
        clear hown
        go_wp2
        go_roundw
        case rel => exact ⟨k + 1, by omega, congrArg _ hnx.out, by go_num, by rw [htk.out]; exact hown', hb.trans hb'⟩
        case measure => simp [intOf]; omega
    · obtain rfl : k = s.size := by omega
      have hs' := hown.str
      rw [List.take_of_length_le (by rw [scramble_length, HL.out]; exact Nat.le_refl _)] at hs'
      clear hown
      go_wp2
      go_ret
      exact ⟨rfl, hb⟩
end Go.Proofs.Ytimkjhjdddllcaa
