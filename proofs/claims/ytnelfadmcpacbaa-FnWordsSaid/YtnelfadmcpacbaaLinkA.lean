/- What Scramble returns, in the program and in the reference, for strings of at most 2^40 bytes; and rows of bytes made of a string. -/
import Derived.Test.YtnelfadmcpacbaaBase
import Derived.Test.YtnelfadmcpacbaaWordD
import Derived.Test.YtnelfadmcpacbaaPlLink
namespace Go.Proofs.Ytnelfadmcpacbaa
open Go.RowKit Sat

/-- block g is a row of bytes that []byte(s) made: its first n are l -/
def BMar (w : World) (g n : Nat) (l : List UInt8) : Prop :=
  l.length = n ∧ ∃ cs : Array Value, w.heap[g]? = some (.cells cs 5 (cs.size, cs.size + 1)) ∧ n ≤ cs.size ∧ cs.toList.take n = Bys l
theorem BMar.cell {w : World} {g n : Nat} {l : List UInt8} (h : BMar w g n l) (j : Nat) (hj : j < n) : w.cell? ⟨g, j, none⟩ = some (.int .u8 ((l.getD j 0).toNat : Int)) := by
  obtain ⟨hl, cs, hg, hn, ht⟩ := h
  rw [cell_of_row w g j cs _ _ hg]
  have h1 := Bys_at l j (by omega)
  rw [← ht, List.getElem?_take, if_pos hj] at h1
  rw [List.getD_eq_getElem?_getD, List.getElem?_eq_getElem (by omega)]
  simpa using h1
theorem BMar.frozen {w : World} {g n : Nat} {l : List UInt8} (h : BMar w g n l) (j : Nat) (hj : j < n) : w.frozen? ⟨g, j, none⟩ = false := by
  obtain ⟨hl, cs, hg, hn, ht⟩ := h
  unfold World.frozen?
  simp only [hg]
  simp; omega
theorem BMar.stored {w : World} {g n : Nat} {l : List UInt8} (h : BMar w g n l) (j : Nat) (b : UInt8) : BMar (w.setCell ⟨g, j, none⟩ (.int .u8 (b.toNat : Int))) g n (l.set j b) := by
  obtain ⟨hl, cs, hg, hn, ht⟩ := h
  refine ⟨by simpa using hl, cs.setIfInBounds j (.int .u8 (b.toNat : Int)), ?_, by simpa using hn, ?_⟩
  · simp [World.setCell, Array.getElem?_modify, hg]
  · rw [Array.toList_setIfInBounds, List.take_set, ht, Bys_set]
theorem BMar.str {w : World} {g n cap : Nat} {l : List UInt8} (h : BMar w g n l) : (convert 70 9 (.slice (some ⟨g, 0, none⟩) n cap)).run Try.prog w = .ok (.string (str l)) w := by
  have hl := h.1
  subst hl
  refine run_convert_bytes_back (P := Try.prog) w 70 9 5 ⟨g, 0, none⟩ cap l Try.underlying70 Try.underlying5 Try.underlying9 ?_
  intro j hj
  have e : (⟨g, 0, none⟩ : Addr).add j = ⟨g, j, none⟩ := by unfold Addr.add; split <;> simp_all
  rw [e, h.cell j hj, List.getD_eq_getElem?_getD, List.getElem?_eq_getElem hj]; rfl
theorem BMar.made (w : World) (s : ByteArray) (c : Nat) : BMar (w.alloc (.cells (bytesRow s c) 5 ((bytesRow s c).size, (bytesRow s c).size + 1))).drew w.heap.size s.size s.data.toList := by
  refine ⟨by simp, bytesRow s c, ?_, ?_, ?_⟩
  · show (w.heap.push _)[w.heap.size]? = _
    simp
  · unfold bytesRow; simp
  · unfold bytesRow Bys
    rw [Array.toList_append, List.take_append_of_le_length (by simp)]
    simp only [Array.toList_map]
    exact List.take_of_length_le (by simp)
theorem BMar.drewN {w : World} {g n : Nat} {l : List UInt8} (h : BMar w g n l) (k : Nat) : BMar (w.drewN k) g n l := h

def scrB (s : ByteArray) : ByteArray := str (scramble s.data.toList)
/-- the first k bytes scrambled, the others as they were -/
def scrTo (l : List UInt8) (k : Nat) : List UInt8 := l.mapIdx fun i b => if i < k then b ^^^ UInt8.ofNat (key i) else b
theorem scrTo_zero (l : List UInt8) : scrTo l 0 = l := by
  apply List.ext_getElem
  · simp [scrTo]
  · intro i h1 h2; simp [scrTo]
theorem scrTo_full (l : List UInt8) : scrTo l l.length = scramble l := by
  apply List.ext_getElem
  · simp [scrTo, scramble]
  · intro i h1 h2
    have : i < l.length := by simpa [scrTo] using h1
    simp [scrTo, scramble, this]
theorem scrTo_length (l : List UInt8) (k : Nat) : (scrTo l k).length = l.length := by simp [scrTo]
theorem scrTo_at (l : List UInt8) (k : Nat) (hk : k < l.length) : (scrTo l k).getD k 0 = l.getD k 0 := by
  simp [scrTo, List.getD_eq_getElem?_getD, hk]
theorem scrTo_succ (l : List UInt8) (k : Nat) (hk : k < l.length) : (scrTo l k).set k (l.getD k 0 ^^^ UInt8.ofNat (key k)) = scrTo l (k + 1) := by
  apply List.ext_getElem
  · simp [scrTo]
  · intro i h1 h2
    have hi : i < l.length := by simpa [scrTo] using h1
    rw [List.getElem_set]
    by_cases e : k = i
    · subst e
      simp [scrTo, List.getD_eq_getElem?_getD, hk]
    · rw [if_neg e]
      simp only [scrTo, List.getElem_mapIdx]
      by_cases h3 : i < k
      · rw [if_pos h3, if_pos (by omega)]
      · rw [if_neg h3, if_neg (by omega)]
theorem xor_byte (a : UInt8) (x : Nat) (hx : x < 256) : bits .xor .u8 (a.toNat : Int) (x : Int) = ((a ^^^ UInt8.ofNat x).toNat : Int) := by
  rw [u8_xor_nat _ _ a.toNat_lt hx, UInt8.toNat_xor, UInt8.toNat_ofNat', Nat.mod_eq_of_lt hx]
end Go.Proofs.Ytnelfadmcpacbaa
