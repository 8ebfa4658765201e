/- Plain facts on strings as rows of bits: a string from its bits, spreading and gathering, bursts. No program in sight. -/
import Derived.Test.YtimkjhjdddllcaaPlOnes
import Derived.Test.YtimkjhjdddllcaaPlWord
namespace Sat

/-- the number whose bit q, for q below k, is g q -/
def numOf (g : Nat → Bool) : Nat → Nat
  | 0 => 0
  | k + 1 => numOf g k ||| (if g k then 2 ^ k else 0)
theorem numOf_bit (g : Nat → Bool) (k q : Nat) : (numOf g k).testBit q = (decide (q < k) && g q) := by
  induction k with
  | zero => simp [numOf]
  | succ k ih =>
    rw [numOf, Nat.testBit_or, ih]
    by_cases hq : q = k
    · subst hq
      by_cases hk : g q = true <;> simp [hk]
    · have h2 : (if g k = true then 2 ^ k else 0).testBit q = false := by
        split
        · rw [Nat.testBit_two_pow]; simp; omega
        · simp
      rw [h2]
      have : decide (q < k + 1) = decide (q < k) := by simp; omega
      rw [this]; simp
theorem numOf_lt (g : Nat → Bool) (k : Nat) : numOf g k < 2 ^ k := by
  apply Nat.lt_pow_two_of_testBit
  intro i hi
  rw [numOf_bit]
  simp; omega

def byteOf (g : Nat → Bool) : UInt8 := UInt8.ofNat (numOf g 8)
theorem byteOf_bit (g : Nat → Bool) (q : Nat) (hq : q < 8) : (byteOf g).toNat.testBit q = g q := by
  unfold byteOf
  rw [UInt8.toNat_ofNat', Nat.mod_eq_of_lt (numOf_lt g 8), numOf_bit]
  simp [hq]
theorem byte_high (b : UInt8) (q : Nat) (hq : 8 ≤ q) : b.toNat.testBit q = false := by
  apply Nat.testBit_lt_two_pow
  have := b.toNat_lt
  have h2 : 2 ^ 8 ≤ 2 ^ q := Nat.pow_le_pow_right (by decide) hq
  omega
theorem byte_ext {a b : UInt8} (h : ∀ q, q < 8 → a.toNat.testBit q = b.toNat.testBit q) : a = b := by
  apply UInt8.toNat_inj.1
  apply Nat.eq_of_testBit_eq
  intro q
  by_cases hq : q < 8
  · exact h q hq
  · rw [byte_high a q (by omega), byte_high b q (by omega)]

/-- byte m of a string -/
def byteAt (l : List UInt8) (m : Nat) : Nat := (l.getD m 0).toNat
theorem byteAt_lt (l : List UInt8) (m : Nat) : byteAt l m < 256 := UInt8.toNat_lt _
/-- the bit at place p -/
def pbit (l : List UInt8) (p : Nat) : Bool := (byteAt l (p / 8)).testBit (p % 8)
def ofBits (n : Nat) (f : Nat → Bool) : List UInt8 := (List.range n).map fun j => byteOf fun q => f (8 * j + q)
theorem ofBits_length (n : Nat) (f : Nat → Bool) : (ofBits n f).length = n := by simp [ofBits]
theorem ofBits_at (n : Nat) (f : Nat → Bool) (j : Nat) (hj : j < n) : (ofBits n f).getD j 0 = byteOf fun q => f (8 * j + q) := by
  simp [ofBits, List.getD_eq_getElem?_getD, hj]
theorem pbit_ofBits (n : Nat) (f : Nat → Bool) (p : Nat) (hp : p < 8 * n) : pbit (ofBits n f) p = f p := by
  unfold pbit byteAt
  rw [ofBits_at n f _ (by omega), byteOf_bit _ _ (by omega)]
  congr 1
  omega
theorem bits_ext {a b : List UInt8} (hl : a.length = b.length) (h : ∀ p, p < 8 * a.length → pbit a p = pbit b p) : a = b := by
  apply List.ext_getElem hl
  intro j h1 h2
  apply byte_ext
  intro q hq
  have := h (8 * j + q) (by omega)
  unfold pbit byteAt at this
  rw [show (8 * j + q) / 8 = j by omega, show (8 * j + q) % 8 = q by omega] at this
  simpa [List.getD_eq_getElem?_getD, h1, h2] using this
theorem ofBits_pbit (l : List UInt8) : ofBits l.length (pbit l) = l :=
  bits_ext (ofBits_length _ _) fun p hp => pbit_ofBits _ _ _ (by rw [ofBits_length] at hp; exact hp)
theorem ofBits_congr {n : Nat} {f g : Nat → Bool} (h : ∀ p, p < 8 * n → f p = g p) : ofBits n f = ofBits n g :=
  bits_ext (by simp [ofBits_length]) fun p hp => by
    rw [ofBits_length] at hp
    rw [pbit_ofBits n f p hp, pbit_ofBits n g p hp, h p hp]

/-- one bit is or-ed in -/
theorem ofBits_or (n : Nat) (f : Nat → Bool) (p : Nat) (hp : p < 8 * n) (b : Bool) (y : UInt8) (hy : ∀ q, q < 8 → y.toNat.testBit q = (decide (q = p % 8) && b)) :
    (ofBits n f).set (p / 8) ((ofBits n f).getD (p / 8) 0 ||| y) = ofBits n fun p' => f p' || (decide (p' = p) && b) := by
  apply bits_ext
  · simp [ofBits_length]
  · intro r hr
    simp only [List.length_set, ofBits_length] at hr
    rw [pbit_ofBits _ _ _ hr]
    unfold pbit byteAt
    by_cases hj : r / 8 = p / 8
    · rw [List.getD_eq_getElem?_getD, List.getElem?_set, if_pos hj.symm, if_pos (by rw [ofBits_length]; omega)]
      simp only [Option.getD_some]
      rw [UInt8.toNat_or, Nat.testBit_or, hy _ (by omega), ofBits_at _ _ _ (by omega), byteOf_bit _ _ (by omega), ← hj, show 8 * (r / 8) + r % 8 = r by omega]
      have : decide (r % 8 = p % 8) = decide (r = p) := by
        apply decide_eq_decide.2; omega
      rw [this]
    · rw [List.getD_eq_getElem?_getD, List.getElem?_set, if_neg (by omega), ← List.getD_eq_getElem?_getD, ofBits_at _ _ _ (by omega), byteOf_bit _ _ (by omega), show 8 * (r / 8) + r % 8 = r by omega]
      have : decide (r = p) = false := by simp; intro h; exact hj (by rw [h])
      rw [this]; simp
/-- one bit is turned -/
theorem ofBits_xor (n : Nat) (f : Nat → Bool) (p : Nat) (hp : p < 8 * n) (y : UInt8) (hy : ∀ q, q < 8 → y.toNat.testBit q = decide (q = p % 8)) :
    (ofBits n f).set (p / 8) ((ofBits n f).getD (p / 8) 0 ^^^ y) = ofBits n fun p' => f p' ^^ decide (p' = p) := by
  apply bits_ext
  · simp [ofBits_length]
  · intro r hr
    simp only [List.length_set, ofBits_length] at hr
    rw [pbit_ofBits _ _ _ hr]
    unfold pbit byteAt
    by_cases hj : r / 8 = p / 8
    · rw [List.getD_eq_getElem?_getD, List.getElem?_set, if_pos hj.symm, if_pos (by rw [ofBits_length]; omega)]
      simp only [Option.getD_some]
      rw [UInt8.toNat_xor, Nat.testBit_xor, hy _ (by omega), ofBits_at _ _ _ (by omega), byteOf_bit _ _ (by omega), ← hj, show 8 * (r / 8) + r % 8 = r by omega]
      have : decide (r % 8 = p % 8) = decide (r = p) := by
        apply decide_eq_decide.2; omega
      rw [this]
    · rw [List.getD_eq_getElem?_getD, List.getElem?_set, if_neg (by omega), ← List.getD_eq_getElem?_getD, ofBits_at _ _ _ (by omega), byteOf_bit _ _ (by omega), show 8 * (r / 8) + r % 8 = r by omega]
      have : decide (r = p) = false := by simp; intro h; exact hj (by rw [h])
      rw [this]; simp

/-! ### spreading and gathering -/
def spread (l : List UInt8) : List UInt8 := ofBits l.length fun p => (byteAt l (p % l.length)).testBit (p / l.length)
def gather (l : List UInt8) : List UInt8 := ofBits l.length fun p => pbit l (p % 8 * l.length + p / 8)
theorem spread_length (l : List UInt8) : (spread l).length = l.length := ofBits_length _ _
theorem gather_length (l : List UInt8) : (gather l).length = l.length := ofBits_length _ _
theorem place_lt {n k m : Nat} (hk : k < 8) (hm : m < n) : k * n + m < 8 * n := by
  have : k * n ≤ 7 * n := Nat.mul_le_mul_right n (by omega)
  omega
theorem place_mod {n k m : Nat} (hm : m < n) : (k * n + m) % n = m := by
  rw [Nat.add_comm, Nat.add_mul_mod_self_right, Nat.mod_eq_of_lt hm]
theorem place_div {n k m : Nat} (hm : m < n) : (k * n + m) / n = k := by
  rw [Nat.add_comm, Nat.add_mul_div_right _ _ (by omega), Nat.div_eq_of_lt hm]; omega
theorem pbit_byte (l : List UInt8) (m k : Nat) (hk : k < 8) : pbit l (8 * m + k) = (byteAt l m).testBit k := by
  unfold pbit
  rw [show (8 * m + k) / 8 = m by omega, show (8 * m + k) % 8 = k by omega]
theorem gather_spread (l : List UInt8) : gather (spread l) = l := by
  apply bits_ext
  · rw [gather_length, spread_length]
  · intro p hp
    rw [gather_length, spread_length] at hp
    unfold gather
    rw [pbit_ofBits _ _ _ (by rw [spread_length]; exact hp), spread_length]
    unfold spread
    rw [pbit_ofBits _ _ _ (place_lt (by omega) (by omega)), place_mod (by omega), place_div (by omega)]
    rfl
end Sat
