/- Plain facts on decimal texts: the digits of a number, the value of a text, and when the one is the other. No program in sight. -/
import Derived.Test.YtaadnknpfbbjjaaDoorPlWord
namespace Sat
/-- the decimal digits of n, f of them at most -/
def digs : Nat → Nat → List UInt8
  | 0, _ => []
  | f + 1, n => if n = 0 then [] else digs f (n / 10) ++ [UInt8.ofNat (48 + n % 10)]
def fmtN (n : Nat) : List UInt8 := if n = 0 then [48] else digs 64 n
def fmtI (n : Int) : List UInt8 := if n < 0 then 45 :: digs 64 n.natAbs else fmtN n.toNat
def isDig (c : UInt8) : Bool := decide (48 ≤ c.toNat) && decide (c.toNat ≤ 57)
def valL (l : List UInt8) : Nat := l.foldl (fun n c => 10 * n + (c.toNat - 48)) 0
def noLead (l : List UInt8) : Bool := decide (1 ≤ l.length) && (decide (l.length = 1) || decide (l.getD 0 0 ≠ 48))
def puOk (l : List UInt8) : Bool := decide (l.length ≤ 10) && l.all isDig && noLead l && decide (valL l ≤ 1000000000)
def puV (l : List UInt8) : Nat := if puOk l then valL l else 0
theorem valL_snoc (l : List UInt8) (c : UInt8) : valL (l ++ [c]) = 10 * valL l + (c.toNat - 48) := by simp [valL]
theorem all_snoc (l : List UInt8) (c : UInt8) : (l ++ [c]).all isDig = (l.all isDig && isDig c) := by simp
theorem isDig_of {c : UInt8} (h : isDig c = true) : 48 ≤ c.toNat ∧ c.toNat ≤ 57 := by
  unfold isDig at h; simpa using h
theorem valL_lt (l : List UInt8) (h : l.all isDig = true) : valL l < 10 ^ l.length := by
  revert h
  rw [← List.reverse_reverse l]
  generalize l.reverse = r
  induction r with
  | nil => intro _; simp [valL]
  | cons c r ih =>
    intro h
    rw [List.reverse_cons] at h ⊢
    rw [all_snoc, Bool.and_eq_true] at h
    have := ih h.1
    have hd := isDig_of h.2
    rw [valL_snoc, List.length_append, List.length_singleton, Nat.pow_succ]
    omega
theorem ofNat_dig (c : UInt8) (h : isDig c = true) : UInt8.ofNat (48 + (c.toNat - 48)) = c := by
  have hd := isDig_of h
  rw [show 48 + (c.toNat - 48) = c.toNat by omega]
  exact UInt8.ofNat_toNat
theorem digs_zero (f : Nat) : digs f 0 = [] := by cases f <;> simp [digs]
theorem digs_valL (l : List UInt8) : l.all isDig = true → 1 ≤ l.length → l.getD 0 0 ≠ 48 → 1 ≤ valL l ∧ ∀ f, l.length ≤ f → digs f (valL l) = l := by
  rw [← List.reverse_reverse l]
  generalize l.reverse = r
  induction r with
  | nil => intro _ h; simp at h
  | cons c r ih =>
    intro h h1 h2
    rw [List.reverse_cons] at h h1 h2 ⊢
    rw [all_snoc, Bool.and_eq_true] at h
    have hd := isDig_of h.2
    rw [valL_snoc]
    by_cases hr : r.reverse = []
    · rw [hr] at h2 ⊢
      have hne : c ≠ 48 := by simpa using h2
      have hc : c.toNat ≠ 48 := fun e => hne (UInt8.toNat_inj.1 e)
      refine ⟨by simp [valL]; omega, ?_⟩
      intro f hf
      obtain ⟨f, rfl⟩ : ∃ g, f = g + 1 := ⟨f - 1, by simp at hf; omega⟩
      have e1 : 10 * valL [] + (c.toNat - 48) = c.toNat - 48 := by simp [valL]
      rw [e1, digs, if_neg (by omega), show (c.toNat - 48) / 10 = 0 by omega, show (c.toNat - 48) % 10 = c.toNat - 48 by omega, digs_zero, ofNat_dig c h.2]
    · have hl : 1 ≤ r.reverse.length := by
        rcases Nat.eq_zero_or_pos r.reverse.length with e | e
        · exact absurd (List.eq_nil_of_length_eq_zero e) hr
        · exact e
      have h2' : r.reverse.getD 0 0 ≠ 48 := by
        rw [List.getD_eq_getElem?_getD] at h2 ⊢
        rwa [List.getElem?_append_left (by omega)] at h2
      obtain ⟨v1, v2⟩ := ih h.1 hl h2'
      refine ⟨by omega, ?_⟩
      intro f hf
      rw [List.length_append, List.length_singleton] at hf
      obtain ⟨f, rfl⟩ : ∃ g, f = g + 1 := ⟨f - 1, by omega⟩
      rw [digs, if_neg (by omega), show (10 * valL r.reverse + (c.toNat - 48)) / 10 = valL r.reverse by omega, show (10 * valL r.reverse + (c.toNat - 48)) % 10 = c.toNat - 48 by omega, v2 f (by omega), ofNat_dig c h.2]
theorem digs_head (f : Nat) : ∀ n, 0 < n → n < 10 ^ f → 1 ≤ (digs f n).length ∧ (digs f n).getD 0 0 ≠ 48 := by
  induction f with
  | zero => intro n h1 h2; simp at h2; omega
  | succ f ih =>
    intro n h1 h2
    rw [digs, if_neg (by omega)]
    by_cases hz : n / 10 = 0
    · rw [hz, digs_zero]
      refine ⟨by simp, ?_⟩
      simp only [List.nil_append]
      intro e
      have e' : (UInt8.ofNat (48 + n % 10)).toNat = 48 := by
        have : UInt8.ofNat (48 + n % 10) = 48 := e
        rw [this]; rfl
      rw [UInt8.toNat_ofNat'] at e'
      omega
    · obtain ⟨a, b⟩ := ih (n / 10) (by omega) (by rw [Nat.pow_succ] at h2; omega)
      refine ⟨by simp, ?_⟩
      rw [List.getD_eq_getElem?_getD] at b ⊢
      rwa [List.getElem?_append_left (by omega)]
/-- the text of the value of a text of digits is that text where no zero leads -/
theorem fmt_valL (l : List UInt8) (h : l.all isDig = true) (hl : l.length ≤ 10) : (fmtN (valL l) = l) = (noLead l = true) := by
  have hlt := valL_lt l h
  have hp : 10 ^ l.length ≤ 10 ^ 10 := Nat.pow_le_pow_right (by omega) hl
  apply propext
  constructor
  · intro e
    unfold fmtN at e
    by_cases hz : valL l = 0
    · rw [if_pos hz] at e
      rw [← e]; decide
    · rw [if_neg hz] at e
      obtain ⟨a, b⟩ := digs_head 64 (valL l) (by omega) (by omega)
      rw [e] at a b
      unfold noLead
      rw [decide_eq_true a, decide_eq_true b]; simp
  · intro e
    unfold noLead at e
    simp only [Bool.and_eq_true, Bool.or_eq_true, decide_eq_true_eq] at e
    unfold fmtN
    by_cases h0 : l.getD 0 0 = 48
    · have h1 : l.length = 1 := by rcases e.2 with e | e; exact e; exact absurd h0 e
      match l, h1, h0 with
      | [c], _, h0 =>
        have : c = 48 := by simpa using h0
        subst this
        decide
    · obtain ⟨a, b⟩ := digs_valL l h e.1 h0
      rw [if_neg (by omega)]
      exact b 64 (by omega)
theorem fmtN_digits (n : Nat) (h : n < 10 ^ 64) : (fmtN n).all isDig = true ∧ noLead (fmtN n) = true ∧ valL (fmtN n) = n := by
  have key : ∀ f n, n < 10 ^ f → (digs f n).all isDig = true ∧ valL (digs f n) = n := by
    intro f
    induction f with
    | zero => intro n h; simp at h; subst h; simp [digs, valL]
    | succ f ih =>
      intro n h
      rw [digs]
      by_cases hz : n = 0
      · subst hz; simp [valL]
      · rw [if_neg hz]
        obtain ⟨a, b⟩ := ih (n / 10) (by rw [Nat.pow_succ] at h; omega)
        have ht : (UInt8.ofNat (48 + n % 10)).toNat = 48 + n % 10 := by rw [UInt8.toNat_ofNat']; omega
        refine ⟨?_, ?_⟩
        · rw [all_snoc, a]
          unfold isDig
          rw [ht]; simp; omega
        · rw [valL_snoc, b, ht]; omega
  unfold fmtN
  by_cases hz : n = 0
  · subst hz; decide
  · rw [if_neg hz]
    obtain ⟨a, b⟩ := key 64 n h
    obtain ⟨c, d⟩ := digs_head 64 n (by omega) h
    refine ⟨a, ?_, b⟩
    unfold noLead
    rw [decide_eq_true c, decide_eq_true d]; simp
theorem digs_length (f : Nat) : ∀ k n, n < 10 ^ k → (digs f n).length ≤ k := by
  induction f with
  | zero => intro k n _; simp [digs]
  | succ f ih =>
    intro k n h
    rw [digs]
    by_cases hz : n = 0
    · rw [if_pos hz]; simp
    · rw [if_neg hz]
      cases k with
      | zero => simp at h; omega
      | succ k =>
        have := ih k (n / 10) (by rw [Nat.pow_succ] at h; omega)
        simp; omega
theorem puV_no {l : List UInt8} (h : puOk l = false) : puV l = 0 := by unfold puV; rw [h]; rfl
theorem puV_yes {l : List UInt8} (h : puOk l = true) : puV l = valL l := by unfold puV; rw [if_pos h]
theorem puV_le (l : List UInt8) : puV l ≤ 1000000000 := by
  unfold puV
  by_cases h : puOk l = true
  · rw [if_pos h]; unfold puOk at h; simp only [Bool.and_eq_true, decide_eq_true_eq] at h; exact h.2
  · rw [if_neg h]; omega
/-- exactly the numbers 0 to 10^9 are read from their text -/
theorem pu_fmtI (n : Int) (hn : n.natAbs < 10 ^ 20) : puOk (fmtI n) = decide (0 ≤ n ∧ n ≤ 1000000000) ∧ (0 ≤ n → n ≤ 1000000000 → (puV (fmtI n) : Int) = n) := by
  by_cases h0 : n < 0
  · have : puOk (fmtI n) = false := by
      unfold puOk fmtI
      rw [if_pos h0, List.all_cons, show isDig 45 = false by decide]; simp
    rw [this, decide_eq_false (by omega)]
    exact ⟨rfl, fun h => by omega⟩
  · have e : fmtI n = fmtN n.toNat := by unfold fmtI; rw [if_neg h0]
    have hp : (10 : Nat) ^ 20 ≤ 10 ^ 64 := Nat.pow_le_pow_right (by omega) (by omega)
    obtain ⟨a, b, c⟩ := fmtN_digits n.toNat (by omega)
    have ok : puOk (fmtI n) = decide (0 ≤ n ∧ n ≤ 1000000000) := by
      rw [e]
      unfold puOk
      rw [a, b, c]
      by_cases hle : n ≤ 1000000000
      · have hlen : (fmtN n.toNat).length ≤ 10 := by
          unfold fmtN
          by_cases hz : n.toNat = 0
          · rw [if_pos hz]; simp
          · rw [if_neg hz]; exact digs_length 64 10 _ (by omega)
        rw [decide_eq_true hlen, decide_eq_true (p := n.toNat ≤ 1000000000) (by omega), decide_eq_true (by omega)]; rfl
      · rw [decide_eq_false (p := n.toNat ≤ 1000000000) (by omega), decide_eq_false (p := 0 ≤ n ∧ n ≤ 1000000000) (by omega)]; simp
    refine ⟨ok, fun h1 h2 => ?_⟩
    rw [puV_yes (by rw [ok]; exact decide_eq_true ⟨h1, h2⟩), e, c]; omega
end Sat
