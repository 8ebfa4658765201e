/- Plain facts on texts: hexadecimal digits, decimal numbers, fields of a line. No program in sight. -/
import Derived.Test.YtaadnknpfbbjjaaDoorPlWord
namespace Sat

/-! ### hexadecimal text -/
def hexDig (x : Nat) : UInt8 := if x < 10 then UInt8.ofNat (48 + x) else UInt8.ofNat (87 + x)
def hexVal (c : Nat) : Int := if 48 ≤ c ∧ c ≤ 57 then (c : Int) - 48 else if 97 ≤ c ∧ c ≤ 102 then (c : Int) - 87 else -1
def bAt (l : List UInt8) (m : Nat) : Nat := (l.getD m 0).toNat
theorem bAt_lt (l : List UInt8) (m : Nat) : bAt l m < 256 := UInt8.toNat_lt _
def hexTo (l : List UInt8) : Nat → List UInt8
  | 0 => []
  | k + 1 => hexTo l k ++ [hexDig (bAt l k / 16), hexDig (bAt l k % 16)]
def encHex (l : List UInt8) : List UInt8 := hexTo l l.length
theorem hexTo_length (l : List UInt8) (k : Nat) : (hexTo l k).length = 2 * k := by
  induction k with
  | zero => rfl
  | succ k ih => rw [hexTo, List.length_append, ih]; simp; omega
def hexOk (l : List UInt8) (i : Nat) : Bool := decide (0 ≤ hexVal (bAt l (2 * i))) && decide (0 ≤ hexVal (bAt l (2 * i + 1)))
def hexOkTo (l : List UInt8) : Nat → Bool
  | 0 => true
  | k + 1 => hexOkTo l k && hexOk l k
def unhexB (l : List UInt8) (i : Nat) : UInt8 := UInt8.ofNat (16 * (hexVal (bAt l (2 * i))).toNat + (hexVal (bAt l (2 * i + 1))).toNat)
def unhexTo (l : List UInt8) : Nat → List UInt8
  | 0 => []
  | k + 1 => unhexTo l k ++ [unhexB l k]
def unhexOk (l : List UInt8) : Bool := decide (l.length % 2 = 0) && decide (l.length ≤ 40000) && hexOkTo l (l.length / 2)
def unhex (l : List UInt8) : List UInt8 := if unhexOk l then unhexTo l (l.length / 2) else []
theorem unhexTo_length (l : List UInt8) (k : Nat) : (unhexTo l k).length = k := by
  induction k with
  | zero => rfl
  | succ k ih => rw [unhexTo, List.length_append, ih]; rfl
theorem hexVal_le (c : Nat) : hexVal c ≤ 15 := by
  unfold hexVal
  split
  · omega
  · split <;> omega
theorem hexVal_dig : ∀ x, x < 16 → hexVal (hexDig x).toNat = (x : Int) := by decide +kernel
theorem bAt_left (a b : List UInt8) (i : Nat) (h : i < a.length) : bAt (a ++ b) i = bAt a i := by
  unfold bAt; rw [List.getD_eq_getElem?_getD, List.getElem?_append_left h, ← List.getD_eq_getElem?_getD]
theorem bAt_right (a b : List UInt8) (i : Nat) (h : a.length ≤ i) : bAt (a ++ b) i = bAt b (i - a.length) := by
  unfold bAt; rw [List.getD_eq_getElem?_getD, List.getElem?_append_right h, ← List.getD_eq_getElem?_getD]
theorem hexTo_at (l : List UInt8) (k : Nat) : ∀ i, i < k → bAt (hexTo l k) (2 * i) = (hexDig (bAt l i / 16)).toNat ∧ bAt (hexTo l k) (2 * i + 1) = (hexDig (bAt l i % 16)).toNat := by
  induction k with
  | zero => intro i hi; omega
  | succ k ih =>
    intro i hi
    have hl := hexTo_length l k
    rw [hexTo]
    by_cases h : i < k
    · rw [bAt_left _ _ _ (by omega), bAt_left _ _ _ (by omega)]
      exact ih i h
    · obtain rfl : i = k := by omega
      rw [bAt_right _ _ _ (by omega), bAt_right _ _ _ (by omega), hl, Nat.sub_self, show 2 * i + 1 - 2 * i = 1 by omega]
      exact ⟨rfl, rfl⟩
theorem hex_back (l : List UInt8) : ∀ k, k ≤ l.length → hexOkTo (encHex l) k = true ∧ unhexTo (encHex l) k = l.take k := by
  intro k
  induction k with
  | zero => intro _; simp [hexOkTo, unhexTo]
  | succ k ih =>
    intro hk
    obtain ⟨i1, i2⟩ := ih (by omega)
    obtain ⟨a, b⟩ := hexTo_at l l.length k (by omega)
    have hb := bAt_lt l k
    have va : hexVal (bAt (encHex l) (2 * k)) = ((bAt l k / 16 : Nat) : Int) := by unfold encHex; rw [a]; exact hexVal_dig _ (by omega)
    have vb : hexVal (bAt (encHex l) (2 * k + 1)) = ((bAt l k % 16 : Nat) : Int) := by unfold encHex; rw [b]; exact hexVal_dig _ (by omega)
    refine ⟨?_, ?_⟩
    · rw [hexOkTo, i1]; unfold hexOk; rw [va, vb]; simp; omega
    · rw [unhexTo, i2, List.take_succ_eq_append_getElem (by omega)]
      congr 2
      unfold unhexB
      rw [va, vb, Int.toNat_natCast, Int.toNat_natCast, show 16 * (bAt l k / 16) + bAt l k % 16 = bAt l k by omega]
      unfold bAt
      rw [List.getD_eq_getElem?_getD, List.getElem?_eq_getElem (by omega)]
      exact UInt8.ofNat_toNat
theorem unhex_hex (l : List UInt8) (h : l.length ≤ 20000) : unhexOk (encHex l) = true ∧ unhex (encHex l) = l := by
  have hl : (encHex l).length = 2 * l.length := hexTo_length l _
  obtain ⟨h1, h2⟩ := hex_back l l.length (Nat.le_refl _)
  have ok : unhexOk (encHex l) = true := by
    unfold unhexOk
    rw [hl, show 2 * l.length / 2 = l.length by omega, h1]
    simp; omega
  refine ⟨ok, ?_⟩
  unfold unhex
  rw [if_pos ok, hl, show 2 * l.length / 2 = l.length by omega, h2, List.take_length]
end Sat
