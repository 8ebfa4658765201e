/- Plain facts on the number of bits 1: the count by halves of a number below 2^32 is the count bit by bit. No program in sight. -/
namespace Sat

/-- the number of bits 1 among the lowest f bits -/
def ones : Nat → Nat → Nat
  | 0, _ => 0
  | f + 1, n => n % 2 + ones f (n / 2)

theorem ones_split (k f n : Nat) : ones (k + f) n = ones k (n % 2 ^ k) + ones f (n / 2 ^ k) := by
  induction k generalizing n with
  | zero => simp [ones]
  | succ k ih =>
    rw [Nat.succ_add, ones, ones, ih]
    have h1 : n % 2 ^ (k + 1) % 2 = n % 2 := by
      rw [Nat.pow_succ, Nat.mul_comm]; exact Nat.mod_mul_right_mod n 2 (2 ^ k)
    have h2 : n % 2 ^ (k + 1) / 2 = n / 2 % 2 ^ k := by
      rw [Nat.pow_succ, Nat.mul_comm, Nat.mod_mul_right_div_self]
    have h3 : n / 2 ^ (k + 1) = n / 2 / 2 ^ k := by
      rw [Nat.pow_succ, Nat.mul_comm, Nat.div_div_eq_div_mul]
    rw [h1, h2, h3]; omega

theorem and_byte (X M : Nat) : X &&& M = (X % 256 &&& M % 256) + 256 * (X / 256 &&& M / 256) := by
  have h1 : (X &&& M) % 2 ^ 8 = X % 2 ^ 8 &&& M % 2 ^ 8 := Nat.and_mod_two_pow
  have h2 : (X &&& M) / 2 ^ 8 = X / 2 ^ 8 &&& M / 2 ^ 8 := Nat.and_div_two_pow
  simp only [Nat.reducePow] at h1 h2
  omega

def f1 (M x : Nat) : Nat := (x / 2 &&& M) + (x &&& M)
def f2 (M x : Nat) : Nat := (x / 4 &&& M) + (x &&& M)
def f3 (M x : Nat) : Nat := (x / 16 + x) &&& M
def fs (c : Nat) : Nat :=
  let d := c + c / 256
  let e := d + d / 65536
  (e + e / 4294967296) % 128
def swar (x : Nat) : Nat := fs (f3 1085102592571150095 (f2 3689348814741910323 (f1 6148914691236517205 x)))

theorem byte_fact : ∀ b, b < 256 → f3 15 (f2 51 (f1 85 b)) = ones 8 b ∧ f1 85 b < 256 ∧ f2 51 (f1 85 b) / 16 ≤ 4 ∧ f2 51 (f1 85 b) % 16 ≤ 4 ∧ ones 8 b ≤ 8 := by decide +kernel
theorem cut1 : ∀ y, y < 128 → ∀ t, t < 2 → (y + 128 * t) &&& 85 = y &&& 85 := by decide +kernel
theorem cut2 : ∀ y, y < 64 → ∀ t, t < 4 → (y + 64 * t) &&& 51 = y &&& 51 := by decide +kernel

theorem f1_step (M x : Nat) (hM : M % 256 = 85) : f1 M x = f1 85 (x % 256) + 256 * f1 (M / 256) (x / 256) := by
  unfold f1
  rw [and_byte (x / 2) M, and_byte x M, hM]
  have e1 : x / 2 % 256 = x % 256 / 2 + 128 * (x / 256 % 2) := by omega
  have e2 : x / 2 / 256 = x / 256 / 2 := by omega
  rw [e1, e2, cut1 _ (by omega) _ (by omega)]
  omega
theorem f2_step (M x : Nat) (hM : M % 256 = 51) : f2 M x = f2 51 (x % 256) + 256 * f2 (M / 256) (x / 256) := by
  unfold f2
  rw [and_byte (x / 4) M, and_byte x M, hM]
  have e1 : x / 4 % 256 = x % 256 / 4 + 64 * (x / 256 % 4) := by omega
  have e2 : x / 4 / 256 = x / 256 / 4 := by omega
  rw [e1, e2, cut2 _ (by omega) _ (by omega)]
  omega
theorem and15 (x : Nat) : x &&& 15 = x % 16 := Nat.and_two_pow_sub_one_eq_mod x 4
theorem f3_step (M x : Nat) (hM : M % 256 = 15) (h1 : x % 256 / 16 ≤ 4) (h2 : x / 256 % 16 ≤ 4) (h3 : x % 16 ≤ 4) : f3 M x = f3 15 (x % 256) + 256 * f3 (M / 256) (x / 256) := by
  unfold f3
  rw [and_byte (x / 16 + x) M, hM, and15, and15]
  have e2 : (x / 16 + x) / 256 = x / 256 / 16 + x / 256 := by omega
  rw [e2]
  omega
theorem f_zero (M : Nat) : f1 M 0 = 0 ∧ f2 M 0 = 0 ∧ f3 M 0 = 0 := by simp [f1, f2, f3]

theorem fs_eq (a b c d : Nat) (ha : a ≤ 8) (hb : b ≤ 8) (hc : c ≤ 8) (hd : d ≤ 8) : fs (a + 256 * (b + 256 * (c + 256 * d))) = a + (b + (c + d)) := by
  unfold fs
  simp only
  have h1 : (a + 256 * (b + 256 * (c + 256 * d))) / 256 = b + 256 * (c + 256 * d) := by omega
  rw [h1]
  have h2 : (a + 256 * (b + 256 * (c + 256 * d)) + (b + 256 * (c + 256 * d))) / 65536 = (c + d) + 256 * d := by omega
  rw [h2]
  have h3 : (a + 256 * (b + 256 * (c + 256 * d)) + (b + 256 * (c + 256 * d)) + (c + d + 256 * d)) / 4294967296 = 0 := by omega
  rw [h3]
  omega

theorem swar_eq (x : Nat) (hx : x < 4294967296) : swar x = ones 32 x := by
  have split : ones 32 x = ones 8 (x % 256) + (ones 8 (x / 256 % 256) + (ones 8 (x / 65536 % 256) + ones 8 (x / 16777216))) := by
    rw [ones_split 8 24 x, ones_split 8 16 (x / 2 ^ 8), ones_split 8 8 (x / 2 ^ 8 / 2 ^ 8)]
    simp only [Nat.reducePow, Nat.div_div_eq_div_mul, Nat.reduceMul]
  rw [split]
  obtain ⟨a0, ha0⟩ : ∃ a, a = x % 256 := ⟨_, rfl⟩
  obtain ⟨a1, ha1⟩ : ∃ a, a = x / 256 % 256 := ⟨_, rfl⟩
  obtain ⟨a2, ha2⟩ : ∃ a, a = x / 65536 % 256 := ⟨_, rfl⟩
  obtain ⟨a3, ha3⟩ : ∃ a, a = x / 16777216 := ⟨_, rfl⟩
  have hx : x = a0 + 256 * (a1 + 256 * (a2 + 256 * a3)) := by omega
  have b0 : a0 < 256 := by omega
  have b1 : a1 < 256 := by omega
  have b2 : a2 < 256 := by omega
  have b3 : a3 < 256 := by omega
  rw [← ha0, ← ha1, ← ha2, ← ha3]
  clear ha0 ha1 ha2 ha3
  subst hx
  have F0 := byte_fact a0 b0
  have F1 := byte_fact a1 b1
  have F2 := byte_fact a2 b2
  have F3 := byte_fact a3 b3
  have s1 : f1 6148914691236517205 (a0 + 256 * (a1 + 256 * (a2 + 256 * a3))) = f1 85 a0 + 256 * (f1 85 a1 + 256 * (f1 85 a2 + 256 * f1 85 a3)) := by
    rw [f1_step _ _ (by decide), show (a0 + 256 * (a1 + 256 * (a2 + 256 * a3))) % 256 = a0 by omega, show (a0 + 256 * (a1 + 256 * (a2 + 256 * a3))) / 256 = a1 + 256 * (a2 + 256 * a3) by omega]
    rw [f1_step _ (a1 + _) (by decide), show (a1 + 256 * (a2 + 256 * a3)) % 256 = a1 by omega, show (a1 + 256 * (a2 + 256 * a3)) / 256 = a2 + 256 * a3 by omega]
    rw [f1_step _ (a2 + _) (by decide), show (a2 + 256 * a3) % 256 = a2 by omega, show (a2 + 256 * a3) / 256 = a3 by omega]
    rw [f1_step (_ / 256) a3 (by decide), show a3 % 256 = a3 by omega, show a3 / 256 = 0 by omega, (f_zero _).1, Nat.mul_zero, Nat.add_zero]
  unfold swar
  rw [s1]
  generalize f1 85 a0 = c0 at *
  generalize f1 85 a1 = c1 at *
  generalize f1 85 a2 = c2 at *
  generalize f1 85 a3 = c3 at *
  have s2 : f2 3689348814741910323 (c0 + 256 * (c1 + 256 * (c2 + 256 * c3))) = f2 51 c0 + 256 * (f2 51 c1 + 256 * (f2 51 c2 + 256 * f2 51 c3)) := by
    rw [f2_step _ _ (by decide), show (c0 + 256 * (c1 + 256 * (c2 + 256 * c3))) % 256 = c0 by omega, show (c0 + 256 * (c1 + 256 * (c2 + 256 * c3))) / 256 = c1 + 256 * (c2 + 256 * c3) by omega]
    rw [f2_step _ (c1 + _) (by decide), show (c1 + 256 * (c2 + 256 * c3)) % 256 = c1 by omega, show (c1 + 256 * (c2 + 256 * c3)) / 256 = c2 + 256 * c3 by omega]
    rw [f2_step _ (c2 + _) (by decide), show (c2 + 256 * c3) % 256 = c2 by omega, show (c2 + 256 * c3) / 256 = c3 by omega]
    rw [f2_step (_ / 256) c3 (by decide), show c3 % 256 = c3 by omega, show c3 / 256 = 0 by omega, (f_zero _).2.1, Nat.mul_zero, Nat.add_zero]
  rw [s2]
  generalize f2 51 c0 = d0 at *
  generalize f2 51 c1 = d1 at *
  generalize f2 51 c2 = d2 at *
  generalize f2 51 c3 = d3 at *
  have s3 : f3 1085102592571150095 (d0 + 256 * (d1 + 256 * (d2 + 256 * d3))) = f3 15 d0 + 256 * (f3 15 d1 + 256 * (f3 15 d2 + 256 * f3 15 d3)) := by
    rw [f3_step _ _ (by decide) (by omega) (by omega) (by omega), show (d0 + 256 * (d1 + 256 * (d2 + 256 * d3))) % 256 = d0 by omega, show (d0 + 256 * (d1 + 256 * (d2 + 256 * d3))) / 256 = d1 + 256 * (d2 + 256 * d3) by omega]
    rw [f3_step _ (d1 + _) (by decide) (by omega) (by omega) (by omega), show (d1 + 256 * (d2 + 256 * d3)) % 256 = d1 by omega, show (d1 + 256 * (d2 + 256 * d3)) / 256 = d2 + 256 * d3 by omega]
    rw [f3_step _ (d2 + _) (by decide) (by omega) (by omega) (by omega), show (d2 + 256 * d3) % 256 = d2 by omega, show (d2 + 256 * d3) / 256 = d3 by omega]
    rw [f3_step (_ / 256) d3 (by decide) (by omega) (by omega) (by omega), show d3 % 256 = d3 by omega, show d3 / 256 = 0 by omega, (f_zero _).2.2, Nat.mul_zero, Nat.add_zero]
  rw [s3, F0.1, F1.1, F2.1, F3.1]
  generalize ones 8 a0 = e0 at *
  generalize ones 8 a1 = e1 at *
  generalize ones 8 a2 = e2 at *
  generalize ones 8 a3 = e3 at *
  exact fs_eq _ _ _ _ (by omega) (by omega) (by omega) (by omega)
end Sat
