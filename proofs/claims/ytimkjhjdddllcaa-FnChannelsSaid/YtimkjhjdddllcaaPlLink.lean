/- Plain facts on the coded link: code words, scrambling, spreading of bits, bursts. No program in sight. -/
import Derived.Test.YtimkjhjdddllcaaPlOnes
import Derived.Test.YtimkjhjdddllcaaPlWord
namespace Sat

/-! ### code words of four bits -/
theorem ones_zero (f : Nat) : ones f 0 = 0 := by
  induction f with
  | zero => rfl
  | succ f ih => rw [ones]; simpa using ih
theorem ones_byte {x : Nat} (h : x < 256) : ones 32 x = ones 8 x := by
  rw [ones_split 8 24 x, show x / 2 ^ 8 = 0 by simp only [Nat.reducePow]; omega, ones_zero, show x % 2 ^ 8 = x by simp only [Nat.reducePow]; omega]
  rfl
def encN (n : Nat) : Nat :=
  let d0 := n % 2
  let d1 := n / 2 % 2
  let d2 := n / 4 % 2
  let d3 := n / 8 % 2
  let w := (d0 + d1 + d3) % 2 + 2 * ((d0 + d2 + d3) % 2) + 4 * d0 + 8 * ((d1 + d2 + d3) % 2) + 16 * d1 + 32 * d2 + 64 * d3
  w + 128 * (ones 8 w % 2)
/-- how many bits of w differ from the code word of n -/
def dist (n w : Nat) : Nat := ones 8 (encN n ^^^ w)
def decGo (w : Nat) : Nat → Nat → Option Nat
  | 0, _ => none
  | f + 1, n => if dist n w ≤ 1 then some n else decGo w f (n + 1)
/-- the number whose code word differs from w in at most one bit -/
def decN (w : Nat) : Option Nat := decGo w 16 0

theorem encN_lt : ∀ n, n < 16 → encN n < 256 := by decide +kernel
theorem decN_flip : ∀ n, n < 16 → ∀ i, i < 8 → decN (encN n ^^^ 2 ^ i) = some n ∧ dist n (encN n ^^^ 2 ^ i) = 1 := by decide +kernel
theorem decN_same : ∀ n, n < 16 → decN (encN n) = some n ∧ dist n (encN n) = 0 := by decide +kernel
theorem decN_two : ∀ n, n < 16 → ∀ i, i < 8 → ∀ k, k < 8 → i ≠ k → decN (encN n ^^^ 2 ^ i ^^^ 2 ^ k) = none := by decide +kernel
theorem encN_even : ∀ n, n < 16 → ones 8 (encN n) % 2 = 0 := by decide +kernel
theorem dist_lt (n w : Nat) : dist n w ≤ 8 := by
  have : ∀ f x, ones f x ≤ f := by
    intro f
    induction f with
    | zero => intro x; simp [ones]
    | succ f ih => intro x; rw [ones]; have := ih (x / 2); omega
  exact this 8 _
theorem decGo_succ (w f n : Nat) : decGo w (f + 1) n = if dist n w ≤ 1 then some n else decGo w f (n + 1) := rfl
theorem decGo_some {w m : Nat} (f : Nat) : ∀ n : Nat, decGo w f n = some m → n ≤ m ∧ m < n + f ∧ dist m w ≤ 1 := by
  induction f with
  | zero => intro n h; cases h
  | succ f ih =>
    intro n h
    rw [decGo_succ] at h
    by_cases hd : dist n w ≤ 1
    · rw [if_pos hd] at h
      injection h with h
      subst h
      exact ⟨Nat.le_refl _, by omega, hd⟩
    · rw [if_neg hd] at h
      have := ih _ h
      exact ⟨by omega, by omega, this.2.2⟩
theorem decN_lt {w m : Nat} (h : decN w = some m) : m < 16 := by have := decGo_some _ _ h; omega
/-- the search stands at n: none below answered -/
theorem decN_at {w : Nat} (n : Nat) (hn : n ≤ 16) (h : ∀ m, m < n → ¬ dist m w ≤ 1) : decN w = decGo w (16 - n) n := by
  unfold decN
  induction n with
  | zero => rfl
  | succ n ih =>
    rw [ih (by omega) (fun m hm => h m (by omega)), show 16 - n = (16 - (n + 1)) + 1 by omega, decGo_succ, if_neg (h n (by omega))]

/-! ### scrambling -/
def scrNext (x : Nat) : Nat := x * 2 % 256 + (x / 128 + x / 16 + x / 4 + x) % 2
def key : Nat → Nat
  | 0 => 255
  | k + 1 => scrNext (key k)
theorem scrNext_lt {x : Nat} (_h : x < 256) : scrNext x < 256 := by unfold scrNext; omega
theorem key_lt : ∀ k, key k < 256
  | 0 => by decide
  | k + 1 => scrNext_lt (key_lt k)
def scramble (l : List UInt8) : List UInt8 := l.mapIdx fun i b => b ^^^ UInt8.ofNat (key i)
theorem scramble_length (l : List UInt8) : (scramble l).length = l.length := by simp [scramble]
theorem scramble_twice (l : List UInt8) : scramble (scramble l) = l := by
  apply List.ext_getElem
  · simp [scramble_length]
  · intro i h1 h2
    simp [scramble, UInt8.xor_assoc]
end Sat
