/- Plain facts on words and checks: big-endian words of bytes, the 16-bit check and that one changed byte changes it. No program in sight. -/
namespace Sat

/-- a string of these bytes -/
def str (l : List UInt8) : ByteArray := ⟨l.toArray⟩
theorem str_data (l : List UInt8) : (str l).data.toList = l := rfl
theorem str_size (l : List UInt8) : (str l).size = l.length := by simp [str, ByteArray.size]
theorem str_of (s : ByteArray) : str s.data.toList = s := by cases s; simp [str]
theorem str_inj {a b : List UInt8} (h : str a = str b) : a = b := by have := congrArg (fun s : ByteArray => s.data.toList) h; exact this

/-! ### words -/
def wordBytes (n size : Nat) : List UInt8 := (List.range size).map fun i => UInt8.ofNat (n / 256 ^ (size - 1 - i) % 256)
def wordVal (l : List UInt8) : Nat := l.foldl (fun n b => n * 256 + b.toNat) 0
theorem wordBytes_length (n size : Nat) : (wordBytes n size).length = size := by simp [wordBytes]
theorem wordVal_snoc (l : List UInt8) (b : UInt8) : wordVal (l ++ [b]) = wordVal l * 256 + b.toNat := by simp [wordVal]
theorem wordVal_lt : ∀ (l : List UInt8), wordVal l < 256 ^ l.length := by
  intro l
  rw [← List.reverse_reverse l]
  generalize l.reverse = r
  induction r with
  | nil => simp [wordVal]
  | cons b r ih =>
    rw [List.reverse_cons, wordVal_snoc, List.length_append, List.length_singleton, Nat.pow_succ]
    have : b.toNat < 256 := b.toNat_lt
    omega

theorem wordBytes_succ (n k : Nat) : wordBytes n (k + 1) = wordBytes (n / 256) k ++ [UInt8.ofNat (n % 256)] := by
  unfold wordBytes
  rw [List.range_succ, List.map_append, List.map_singleton]
  congr 1
  · apply List.map_congr_left
    intro i hi
    rw [List.mem_range] at hi
    rw [Nat.div_div_eq_div_mul, show k + 1 - 1 - i = (k - 1 - i) + 1 by omega, Nat.pow_succ, Nat.mul_comm]
  · rw [show k + 1 - 1 - k = 0 by omega, Nat.pow_zero, Nat.div_one]
theorem wordVal_wordBytes (k : Nat) : ∀ n, n < 256 ^ k → wordVal (wordBytes n k) = n := by
  induction k with
  | zero => intro n h; simp at h; subst h; rfl
  | succ k ih =>
    intro n h
    rw [Nat.pow_succ] at h
    rw [wordBytes_succ, wordVal_snoc, ih _ (Nat.div_lt_of_lt_mul (by rw [Nat.mul_comm]; exact h)), UInt8.toNat_ofNat']
    omega
theorem wordBytes_inj {k a b : Nat} (ha : a < 256 ^ k) (hb : b < 256 ^ k) (h : wordBytes a k = wordBytes b k) : a = b := by
  rw [← wordVal_wordBytes k a ha, ← wordVal_wordBytes k b hb, h]

/-! ### the check -/
def crcBit (x : Nat) : Nat := if x / 32768 % 2 = 1 then (2 * x % 65536) ^^^ 4129 else 2 * x
def crcBits : Nat → Nat → Nat
  | 0, x => x
  | k + 1, x => crcBit (crcBits k x)
def crcByte (x : Nat) (b : UInt8) : Nat := crcBits 8 (x ^^^ (256 * b.toNat))
def crc (l : List UInt8) : Nat := l.foldl crcByte 65535

theorem xor_lt16 {a b : Nat} (ha : a < 65536) (hb : b < 65536) : a ^^^ b < 65536 := Nat.xor_lt_two_pow (n := 16) ha hb
theorem crcBit_lt {x : Nat} (h : x < 65536) : crcBit x < 65536 := by
  unfold crcBit
  split
  · exact xor_lt16 (by omega) (by omega)
  · omega
theorem crcBits_lt (k : Nat) {x : Nat} (h : x < 65536) : crcBits k x < 65536 := by
  induction k with
  | zero => exact h
  | succ k ih => exact crcBit_lt ih
theorem crcByte_lt {x : Nat} (h : x < 65536) (b : UInt8) : crcByte x b < 65536 := crcBits_lt 8 (xor_lt16 h (by have := b.toNat_lt; omega))
theorem crc_snoc (l : List UInt8) (b : UInt8) : crc (l ++ [b]) = crcByte (crc l) b := by simp [crc]
theorem foldl_crc_lt (l : List UInt8) : ∀ x, x < 65536 → l.foldl crcByte x < 65536 := by
  induction l with
  | nil => exact fun _ h => h
  | cons b l ih => exact fun x h => ih _ (crcByte_lt h b)
theorem crc_lt (l : List UInt8) : crc l < 65536 := foldl_crc_lt l _ (by omega)

theorem xor_odd (a : Nat) (h : a % 2 = 0) : (a ^^^ 4129) % 2 = 1 := by
  have h1 : (a ^^^ 4129) % 2 ^ 1 = a % 2 ^ 1 ^^^ 4129 % 2 ^ 1 := Nat.xor_mod_two_pow
  simp only [Nat.pow_one] at h1
  rw [h1, h]; rfl
theorem xor_cancel {a b c : Nat} (h : a ^^^ c = b ^^^ c) : a = b := by
  have := congrArg (· ^^^ c) h
  simpa [Nat.xor_assoc] using this
theorem xor_cancel' {a b c : Nat} (h : c ^^^ a = c ^^^ b) : a = b := xor_cancel (c := c) (by rw [Nat.xor_comm a, Nat.xor_comm b]; exact h)
theorem crcBit_inj {x y : Nat} (hx : x < 65536) (hy : y < 65536) (h : crcBit x = crcBit y) : x = y := by
  unfold crcBit at h
  have ox := xor_odd (2 * x % 65536) (by omega)
  have oy := xor_odd (2 * y % 65536) (by omega)
  split at h
  · split at h
    · have := xor_cancel h; omega
    · omega
  · split at h
    · omega
    · omega
theorem crcBits_inj (k : Nat) {x y : Nat} (hx : x < 65536) (hy : y < 65536) (h : crcBits k x = crcBits k y) : x = y := by
  induction k with
  | zero => exact h
  | succ k ih => exact ih (crcBit_inj (crcBits_lt k hx) (crcBits_lt k hy) h)
theorem crcByte_inj {x y : Nat} (b : UInt8) (hx : x < 65536) (hy : y < 65536) (h : crcByte x b = crcByte y b) : x = y := by
  have hb := b.toNat_lt
  exact xor_cancel (crcBits_inj 8 (xor_lt16 hx (by omega)) (xor_lt16 hy (by omega)) h)
theorem crcByte_inj' {x : Nat} {a b : UInt8} (hx : x < 65536) (h : crcByte x a = crcByte x b) : a = b := by
  have ha := a.toNat_lt
  have hb := b.toNat_lt
  have := xor_cancel' (crcBits_inj 8 (xor_lt16 hx (by omega)) (xor_lt16 hx (by omega)) h)
  exact UInt8.toNat_inj.1 (by omega)
theorem foldl_crc_inj (l : List UInt8) : ∀ x y, x < 65536 → y < 65536 → l.foldl crcByte x = l.foldl crcByte y → x = y := by
  induction l with
  | nil => exact fun _ _ _ _ h => h
  | cons b l ih => exact fun x y hx hy h => crcByte_inj b hx hy (ih _ _ (crcByte_lt hx b) (crcByte_lt hy b) h)
/-- one changed byte changes the check -/
theorem crc_changed (p q : List UInt8) (a b : UInt8) (h : crc (p ++ a :: q) = crc (p ++ b :: q)) : a = b := by
  unfold crc at h
  simp only [List.foldl_append, List.foldl_cons] at h
  have hp : p.foldl crcByte 65535 < 65536 := crc_lt p
  exact crcByte_inj' hp (foldl_crc_inj q _ _ (crcByte_lt hp a) (crcByte_lt hp b) h)

/-! ### a sealed text -/
def sealL (l : List UInt8) : List UInt8 := l ++ wordBytes (crc l) 2
theorem sealL_length (l : List UInt8) : (sealL l).length = l.length + 2 := by simp [sealL, wordBytes_length]
/-- the text that is sealed in l -/
def openOk (l : List UInt8) : Bool := decide (2 ≤ l.length) && decide (sealL (l.take (l.length - 2)) = l)
def openT (l : List UInt8) : List UInt8 := if openOk l then l.take (l.length - 2) else []
theorem open_sealed (s : List UInt8) : openOk (sealL s) = true ∧ openT (sealL s) = s := by
  have hl := sealL_length s
  have ht : (sealL s).take ((sealL s).length - 2) = s := by
    rw [hl]
    unfold sealL
    rw [List.take_append_of_le_length (by omega)]
    exact List.take_of_length_le (by omega)
  have ok : openOk (sealL s) = true := by
    unfold openOk
    rw [ht, hl]
    simp
  exact ⟨ok, by unfold openT; rw [if_pos ok, ht]⟩
theorem u8_xor_ne (a d : UInt8) (h : a ^^^ d = a) : d = 0 := by
  have := congrArg (a ^^^ ·) h
  simpa [← UInt8.xor_assoc] using this
/-- with one byte changed it is not opened -/
theorem open_changed (s : List UInt8) (j : Nat) (d : UInt8) (hd : d ≠ 0) (hj : j < (sealL s).length) : openOk ((sealL s).set j ((sealL s)[j] ^^^ d)) = false := by
  have hl := sealL_length s
  rw [Bool.eq_false_iff]
  intro h
  unfold openOk at h
  simp only [List.length_set, Bool.and_eq_true, decide_eq_true_eq] at h
  have h2 := h.2
  rw [hl, show s.length + 2 - 2 = s.length by omega] at h2
  have hc := crc_lt s
  by_cases hjs : j < s.length
  · have hb : (sealL s)[j] = s[j] := by unfold sealL; exact List.getElem_append_left hjs
    rw [hb] at h2
    have e : (sealL s).set j (s[j] ^^^ d) = s.set j (s[j] ^^^ d) ++ wordBytes (crc s) 2 := by
      unfold sealL; rw [List.set_append_left _ _ hjs]
    rw [e, List.take_append_of_le_length (by simp), List.take_of_length_le (by simp)] at h2
    have h3 := List.append_cancel_left (by unfold sealL at h2; exact h2)
    have h4 : crc (s.set j (s[j] ^^^ d)) = crc s := wordBytes_inj (k := 2) (by have := crc_lt (s.set j (s[j] ^^^ d)); omega) (by omega) h3
    have e1 : s = s.take j ++ s[j] :: s.drop (j + 1) := by
      rw [List.getElem_cons_drop hjs, List.take_append_drop]
    have e2 : s.set j (s[j] ^^^ d) = s.take j ++ (s[j] ^^^ d) :: s.drop (j + 1) := by
      rw [List.set_eq_take_append_cons_drop, if_pos hjs]
    rw [e2] at h4
    have h5 : crc (s.take j ++ (s[j] ^^^ d) :: s.drop (j + 1)) = crc (s.take j ++ s[j] :: s.drop (j + 1)) := by rw [h4, ← e1]
    exact hd (u8_xor_ne _ _ (crc_changed _ _ _ _ h5))
  · have e : ((sealL s).set j ((sealL s)[j] ^^^ d)).take s.length = s := by
      rw [List.take_set_of_le (by omega)]
      unfold sealL
      rw [List.take_append_of_le_length (by omega), List.take_of_length_le (by omega)]
    rw [e] at h2
    have h6 := congrArg (fun x => x[j]?) h2
    simp only [List.getElem?_set, if_true, hj, List.getElem?_eq_getElem hj] at h6
    injection h6 with h6
    exact hd (u8_xor_ne _ _ h6.symm)
end Sat
