/- What BurstText returns, in the program and in the reference, for all ints and strings of at most 2^40 bytes. -/
import Derived.Test.YtimkjhjdddllcaaLinkA
import Derived.Test.YtimkjhjdddllcaaLinkB
import Derived.Test.YtimkjhjdddllcaaPlBlock
namespace Go.Proofs.Ytimkjhjdddllcaa
open Go.RowKit Sat

def burstIn (seed : Int) (n : Nat) : Bool := decide (0 ≤ seed ∧ seed ≤ 65535 ∧ 1 ≤ n ∧ n ≤ 400)
def burstS (seed : Int) (s : ByteArray) : Int := if burstIn seed s.size then randS (randS seed (7 * s.size + 1)) s.size else seed
def burstA (seed : Int) (n : Nat) : Nat := (randB seed (7 * n + 1)).toNat
def burstM (seed : Int) (n : Nat) : Nat := (randB (randS seed (7 * n + 1)) n).toNat
def burstT (seed : Int) (s : ByteArray) : ByteArray := if burstIn seed s.size then str (burst s.data.toList (burstA seed s.size) (burstM seed s.size)) else s
/-- the first j bits of a burst are turned -/
def burstTo (l : List UInt8) (a j : Nat) : List UInt8 := ofBits l.length fun p => pbit l p ^^ (decide (a ≤ p) && decide (p < a + j))
theorem burstTo_zero (l : List UInt8) (a : Nat) : burstTo l a 0 = l := by
  rw [← ofBits_pbit l]
  unfold burstTo
  rw [ofBits_length]
  apply ofBits_congr
  intro p hp
  rw [pbit_ofBits _ _ _ hp]
  have : (decide (a ≤ p) && decide (p < a + 0)) = false := by simp
  rw [this]; simp
theorem burstTo_full (l : List UInt8) (a m : Nat) : burstTo l a (m + 1) = burst l a m := by
  apply ofBits_congr
  intro p _
  have : decide (p < a + (m + 1)) = decide (p ≤ a + m) := by apply decide_eq_decide.2; omega
  rw [this]
theorem burstTo_length (l : List UInt8) (a j : Nat) : (burstTo l a j).length = l.length := ofBits_length _ _
theorem burstTo_succ (l : List UInt8) (a j : Nat) (h : a + j < 8 * l.length) :
    (burstTo l a j).set ((a + j) / 8) ((burstTo l a j).getD ((a + j) / 8) 0 ^^^ bitByte true ((a + j) % 8)) = burstTo l a (j + 1) := by
  unfold burstTo
  rw [ofBits_xor _ _ (a + j) h (bitByte true ((a + j) % 8)) (fun q hq => by rw [bitByte_bit true _ (by omega) q hq]; simp)]
  apply ofBits_congr
  intro p _
  by_cases e : p = a + j
  · subst e; simp
  · have : decide (p < a + j) = decide (p < a + (j + 1)) := by apply decide_eq_decide.2; omega
    simp [e, this]
theorem xor_bytes (a b : UInt8) : bits .xor .u8 (a.toNat : Int) (b.toNat : Int) = ((a ^^^ b).toNat : Int) := by
  rw [u8_xor_nat _ _ a.toNat_lt b.toNat_lt, UInt8.toNat_xor]
theorem one_byte (q : Nat) : (1 : Int) * 2 ^ q % 256 = ((bitByte true q).toNat : Int) := by have := shl_byte true q; simpa using this
theorem burst_nums {seed : Int} {n : Nat} (h : burstIn seed n = true) : randS seed (7 * n + 1) = nextR seed ∧ randB seed (7 * n + 1) = (burstA seed n : Int) ∧ burstA seed n ≤ 7 * n ∧ randB (nextR seed) n = (burstM seed n : Int) ∧ burstM seed n < n ∧ randS (nextR seed) n = nextR (nextR seed) := by
  have h := of_decide_eq_true h
  obtain ⟨h1, h2, h3, h4⟩ := h
  have e1 : randS seed (7 * n + 1) = nextR seed := by unfold randS; rw [if_neg (by omega)]
  have hr := nextR_range seed
  have b1 : 0 ≤ randB seed (7 * n + 1) ∧ randB seed (7 * n + 1) < 7 * n + 1 := by
    unfold randB; rw [if_neg (by omega)]; exact ⟨Int.emod_nonneg _ (by omega), Int.emod_lt_of_pos _ (by omega)⟩
  have b2 : 0 ≤ randB (nextR seed) n ∧ randB (nextR seed) n < n := by
    unfold randB; rw [if_neg (by omega)]; exact ⟨Int.emod_nonneg _ (by omega), Int.emod_lt_of_pos _ (by omega)⟩
  have e2 : randS (nextR seed) n = nextR (nextR seed) := by unfold randS; rw [if_neg (by omega)]
  refine ⟨e1, ?_, ?_, ?_, ?_, e2⟩
  · unfold burstA; omega
  · unfold burstA; omega
  · unfold burstM; rw [e1]; omega
  · unfold burstM; rw [e1]; omega
theorem ret_is {a b : Int} {x y : ByteArray} (h : a = b) (h' : x = y) : Ending.returned (.tuple #[.int .i64 a, .string x]) = .returned (.tuple #[.int .i64 b, .string y]) := by rw [h, h']
set_option maxHeartbeats 3200000 in
theorem i_BurstText_in (seed : Int) (s : ByteArray) (w : World) (h : burstIn seed s.size = true) :
    Calls Try.prog 12 #[.int .i64 seed, .string s] w fun e w' => e = .returned (.tuple #[.int .i64 (burstS seed s), .string (burstT seed s)]) ∧ Below w.heap.size w w' := by
  have hcv := fun w => run_bytes_of_string (P := Try.prog) w 9 22 5 s Try.underlying9 Try.underlying22 Try.underlying5
  have HL := hide (show s.data.toList.length = s.size by simp)
  obtain ⟨e1, e2, b1, e3, b2, e4⟩ := burst_nums h
  have HF := hide (show burstS seed s = nextR (nextR seed) ∧ burstT seed s = str (burst s.data.toList (burstA seed s.size) (burstM seed s.size)) by unfold burstS burstT; rw [if_pos h, if_pos h, e1, e4]; exact ⟨rfl, rfl⟩)
  have h' := of_decide_eq_true h
  obtain ⟨h1, h2, h3, h4⟩ := h'
  have E1 := hide e1
  have E2 := hide e2
  have E3 := hide e3
  have E4 := hide e4
  generalize burstA seed s.size = a at *
  generalize burstM seed s.size = m at *
  have hr := nextR_range seed
  have hr0 := hr.1
  have hr1 := hr.2
  have hn0 : ((s.size : Int) == 0) = false := beq_eq_false_iff_ne.2 (by omega)
  have d0 : decide (seed < 0) = false := decide_eq_false (by omega)
  have d1 : decide (65535 < seed) = false := decide_eq_false (by omega)
  have d2 : decide (400 < (s.size : Int)) = false := decide_eq_false (by omega)
  clear h e1 e2 e3 e4 hr
  go_enter Try.func12, Try.ntmps12
  go_wp2_with fail
  refine (i_RandomBelow _ _ _).mono ?_
  rintro e w1 ⟨rfl, m1, rfl⟩
  rw [E1.out, E2.out]
  go_wp2_with fail
  refine (i_RandomBelow _ _ _).mono ?_
  rintro e w1 ⟨rfl, m2, rfl⟩
  rw [E3.out, E4.out]
  go_wp2_with fail
  have hm := BMar.made (w.drewN (m1 + m2)) s (grownCap (w.drewN (m1 + m2)) s.size 0 5)
  have hb0 : Below w.heap.size w ((w.drewN (m1 + m2)).alloc (.cells (bytesRow s (grownCap (w.drewN (m1 + m2)) s.size 0 5)) 5 ((bytesRow s (grownCap (w.drewN (m1 + m2)) s.size 0 5)).size, (bytesRow s (grownCap (w.drewN (m1 + m2)) s.size 0 5)).size + 1))).drew := ((below_self w (m1 + m2)).alloc (Nat.le_refl _) _).drew
  generalize grownCap (w.drewN (m1 + m2)) s.size 0 5 = c at *
  have H0 := hide hm
  have HB0 := hide hb0
  clear hm hb0 hcv
  go_loopw [12] (fun pv wr => ∃ j : Nat, j ≤ m + 1 ∧ pv = .int .i64 ((a + j : Nat) : Int) ∧ BMar wr w.heap.size s.size (burstTo s.data.toList a j) ∧ Below w.heap.size w wr) (fun pv _ => a + m + 1 - (intOf pv).toNat)
  case atStart => exact ⟨0, Nat.zero_le _, rfl, by rw [burstTo_zero]; exact H0.out, HB0.out⟩
  case round =>
    clear H0 HB0
    obtain ⟨j, hj, rfl, hrow, hb⟩ := hrel
    by_cases hlt : j < m + 1
    · obtain ⟨p, hp⟩ : ∃ p, p = a + j := ⟨_, rfl⟩
      have hp8 : p / 8 < s.size := by omega
      have hc := hrow.cell (p / 8) hp8
      have hf := hrow.frozen (p / 8) hp8
      have hsc := burstTo_succ s.data.toList a j (by rw [HL.out]; omega)
      rw [← hp] at hsc
      have HSC := hide hsc
      have hst := hide (hrow.stored (p / 8) ((burstTo s.data.toList a j).getD (p / 8) 0 ^^^ bitByte true (p % 8)))
      have hxb := hide (xor_bytes ((burstTo s.data.toList a j).getD (p / 8) 0) (bitByte true (p % 8)))
      have hob := hide (one_byte (p % 8))
      rw [← hp]
      have HPJ := hide hp
      clear hrow hsc
      generalize (burstTo s.data.toList a j).getD (p / 8) 0 = old at *
      have hold : old.toNat < 256 := UInt8.toNat_lt _
      have hple : p ≤ a + m := by omega
      clear hp
      go_wp2
      have hr1 : (0 : Int) ≤ (p : Int) / 8 := by omega
      have hr2 : (p : Int) / 8 < (s.size : Int) := by omega
      have hr3 : ((p : Int) / 8).toNat = p / 8 := by omega
      go_region
      go_wp2
      go_roundw
      case rel =>
        refine ⟨j + 1, by omega, by rw [HPJ.out]; go_num, ?_, (hb.setCell (Nat.le_refl _) _).drew⟩
        rw [← HSC.out]
        have h1 := hob.out
        have h2 := hxb.out
        rw [Int.one_mul] at h1
        rw [h1, h2]
        exact hst.out
      case measure => simp [intOf]; have := HPJ.out; omega
    · obtain rfl : j = m + 1 := by omega
      have hs' := (show BMar wr.drew w.heap.size s.size _ from hrow).str (cap := c)
      rw [burstTo_full] at hs'
      clear hrow
      go_wp2
      go_region
      go_wp2
      go_ret2
      exact ⟨ret_is HF.out.1.symm HF.out.2.symm, hb.drew⟩
set_option maxHeartbeats 400000 in
theorem i_BurstText (seed : Int) (s : ByteArray) (w : World) (hs : s.size ≤ 1099511627776) :
    Calls Try.prog 12 #[.int .i64 seed, .string s] w fun e w' => e = .returned (.tuple #[.int .i64 (burstS seed s), .string (burstT seed s)]) ∧ Below w.heap.size w w' := by
  by_cases h : burstIn seed s.size = true
  · exact i_BurstText_in seed s w h
  · have hf : burstIn seed s.size = false := by simpa using h
    have HF := hide (show burstS seed s = seed ∧ burstT seed s = s by unfold burstS burstT; rw [hf]; exact ⟨rfl, rfl⟩)
    have hn := of_decide_eq_false hf
    clear h hf
    rcases (show seed < 0 ∨ (0 ≤ seed ∧ 65535 < seed) ∨ (0 ≤ seed ∧ seed ≤ 65535 ∧ s.size = 0) ∨ (0 ≤ seed ∧ seed ≤ 65535 ∧ 1 ≤ s.size ∧ 400 < s.size) by omega) with h1 | ⟨h1, h2⟩ | ⟨h1, h2, h3⟩ | ⟨h1, h2, h3, h4⟩
    · clear hn
      go_enter Try.func12, Try.ntmps12
      go_wp2_with fail
      go_ret2
      exact ⟨ret_is HF.out.1.symm HF.out.2.symm, Below.refl _ _⟩
    · clear hn
      go_enter Try.func12, Try.ntmps12
      go_wp2_with fail
      go_ret2
      exact ⟨ret_is HF.out.1.symm HF.out.2.symm, Below.refl _ _⟩
    · have hn0 : ((s.size : Int) == 0) = true := beq_iff_eq.2 (by omega)
      clear hn h3
      go_enter Try.func12, Try.ntmps12
      go_wp2_with fail
      go_ret2
      exact ⟨ret_is HF.out.1.symm HF.out.2.symm, Below.refl _ _⟩
    · have hn0 : ((s.size : Int) == 0) = false := beq_eq_false_iff_ne.2 (by omega)
      clear hn
      go_enter Try.func12, Try.ntmps12
      go_wp2_with fail
      go_ret2
      exact ⟨ret_is HF.out.1.symm HF.out.2.symm, Below.refl _ _⟩
set_option maxHeartbeats 3200000 in
theorem s_BurstText_in (seed : Int) (s : ByteArray) (w : World) (h : burstIn seed s.size = true) :
    Calls Try.prog 44 #[.int .i64 seed, .string s] w fun e w' => e = .returned (.tuple #[.int .i64 (burstS seed s), .string (burstT seed s)]) ∧ Below w.heap.size w w' := by
  have hcv := fun w => run_bytes_of_string (P := Try.prog) w 9 22 5 s Try.underlying9 Try.underlying22 Try.underlying5
  have HL := hide (show s.data.toList.length = s.size by simp)
  obtain ⟨e1, e2, b1, e3, b2, e4⟩ := burst_nums h
  have HF := hide (show burstS seed s = nextR (nextR seed) ∧ burstT seed s = str (burst s.data.toList (burstA seed s.size) (burstM seed s.size)) by unfold burstS burstT; rw [if_pos h, if_pos h, e1, e4]; exact ⟨rfl, rfl⟩)
  have h' := of_decide_eq_true h
  obtain ⟨h1, h2, h3, h4⟩ := h'
  have E1 := hide e1
  have E2 := hide e2
  have E3 := hide e3
  have E4 := hide e4
  generalize burstA seed s.size = a at *
  generalize burstM seed s.size = m at *
  have hr := nextR_range seed
  have hr0 := hr.1
  have hr1 := hr.2
  have hn0 : ((s.size : Int) == 0) = false := beq_eq_false_iff_ne.2 (by omega)
  have d0 : decide (seed < 0) = false := decide_eq_false (by omega)
  have d1 : decide (65535 < seed) = false := decide_eq_false (by omega)
  have d2 : decide (400 < (s.size : Int)) = false := decide_eq_false (by omega)
  clear h e1 e2 e3 e4 hr
  go_enter Try.func44, Try.ntmps44
  go_wp2_with fail
  refine (s_In_yes _ _ _ _ h1 h2).mono ?_
  rintro e w1 ⟨rfl, rfl⟩
  go_wp2_with fail
  refine (s_In_yes _ _ _ _ (by omega) (by omega)).mono ?_
  rintro e w1 ⟨rfl, rfl⟩
  go_wp2_with fail
  refine (s_RandomBelow _ _ _).mono ?_
  rintro e w1 ⟨rfl, m1, rfl⟩
  rw [E1.out, E2.out]
  go_wp2_with fail
  refine (s_RandomBelow _ _ _).mono ?_
  rintro e w1 ⟨rfl, m2, rfl⟩
  rw [E3.out, E4.out]
  go_wp2_with fail
  have hm := BMar.made (w.drewN (m1 + m2)) s (grownCap (w.drewN (m1 + m2)) s.size 0 5)
  have hb0 : Below w.heap.size w ((w.drewN (m1 + m2)).alloc (.cells (bytesRow s (grownCap (w.drewN (m1 + m2)) s.size 0 5)) 5 ((bytesRow s (grownCap (w.drewN (m1 + m2)) s.size 0 5)).size, (bytesRow s (grownCap (w.drewN (m1 + m2)) s.size 0 5)).size + 1))).drew := ((below_self w (m1 + m2)).alloc (Nat.le_refl _) _).drew
  generalize grownCap (w.drewN (m1 + m2)) s.size 0 5 = c at *
  have H0 := hide hm
  have HB0 := hide hb0
  clear hm hb0 hcv
  go_loopw [12] (fun pv wr => ∃ j : Nat, j ≤ m + 1 ∧ pv = .int .i64 ((a + j : Nat) : Int) ∧ BMar wr w.heap.size s.size (burstTo s.data.toList a j) ∧ Below w.heap.size w wr) (fun pv _ => a + m + 1 - (intOf pv).toNat)
  case atStart => exact ⟨0, Nat.zero_le _, rfl, by rw [burstTo_zero]; exact H0.out, HB0.out⟩
  case round =>
    clear H0 HB0
    obtain ⟨j, hj, rfl, hrow, hb⟩ := hrel
    by_cases hlt : j < m + 1
    · obtain ⟨p, hp⟩ : ∃ p, p = a + j := ⟨_, rfl⟩
      have hp8 : p / 8 < s.size := by omega
      have hc := hrow.cell (p / 8) hp8
      have hf := hrow.frozen (p / 8) hp8
      have hsc := burstTo_succ s.data.toList a j (by rw [HL.out]; omega)
      rw [← hp] at hsc
      have HSC := hide hsc
      have hst := hide (hrow.stored (p / 8) ((burstTo s.data.toList a j).getD (p / 8) 0 ^^^ bitByte true (p % 8)))
      have hxb := hide (xor_bytes ((burstTo s.data.toList a j).getD (p / 8) 0) (bitByte true (p % 8)))
      have hob := hide (one_byte (p % 8))
      rw [← hp]
      have HPJ := hide hp
      clear hrow hsc
      generalize (burstTo s.data.toList a j).getD (p / 8) 0 = old at *
      have hold : old.toNat < 256 := UInt8.toNat_lt _
      have hple : p ≤ a + m := by omega
      clear hp
      go_wp2
      have hr1 : (0 : Int) ≤ (p : Int) / 8 := by omega
      have hr2 : (p : Int) / 8 < (s.size : Int) := by omega
      have hr3 : ((p : Int) / 8).toNat = p / 8 := by omega
      go_region
      go_wp2
      go_roundw
      case rel =>
        refine ⟨j + 1, by omega, by rw [HPJ.out]; go_num, ?_, (hb.setCell (Nat.le_refl _) _).drew⟩
        rw [← HSC.out]
        have h1 := hob.out
        have h2 := hxb.out
        rw [Int.one_mul] at h1
        rw [h1, h2]
        exact hst.out
      case measure => simp [intOf]; have := HPJ.out; omega
    · obtain rfl : j = m + 1 := by omega
      have hs' := (show BMar wr.drew w.heap.size s.size _ from hrow).str (cap := c)
      rw [burstTo_full] at hs'
      clear hrow
      go_wp2
      go_region
      go_wp2
      go_ret2
      exact ⟨ret_is HF.out.1.symm HF.out.2.symm, hb.drew⟩
set_option maxHeartbeats 400000 in
theorem s_BurstText (seed : Int) (s : ByteArray) (w : World) (hs : s.size ≤ 1099511627776) :
    Calls Try.prog 44 #[.int .i64 seed, .string s] w fun e w' => e = .returned (.tuple #[.int .i64 (burstS seed s), .string (burstT seed s)]) ∧ Below w.heap.size w w' := by
  by_cases h : burstIn seed s.size = true
  · exact s_BurstText_in seed s w h
  · have hf : burstIn seed s.size = false := by simpa using h
    have HF := hide (show burstS seed s = seed ∧ burstT seed s = s by unfold burstS burstT; rw [hf]; exact ⟨rfl, rfl⟩)
    have hn := of_decide_eq_false hf
    clear h hf
    by_cases h0 : seed < 0 ∨ 65535 < seed
    · clear hn
      go_enter Try.func44, Try.ntmps44
      go_wp2_with (go_at_call 40; refine (s_In_no _ _ _ _ h0).mono ?_; rintro e w1 ⟨rfl, rfl⟩)
      go_ret2
      exact ⟨ret_is HF.out.1.symm HF.out.2.symm, Below.refl _ _⟩
    · have h1 : 0 ≤ seed := by omega
      have h2 : seed ≤ 65535 := by omega
      have h3 : (s.size : Int) < 1 ∨ 400 < (s.size : Int) := by omega
      clear hn h0
      go_enter Try.func44, Try.ntmps44
      go_wp2_with fail
      refine (s_In_yes _ _ _ _ h1 h2).mono ?_
      rintro e w1 ⟨rfl, rfl⟩
      go_wp2_with fail
      refine (s_In_no _ _ _ _ h3).mono ?_
      rintro e w1 ⟨rfl, rfl⟩
      go_wp2_with fail
      go_ret2
      exact ⟨ret_is HF.out.1.symm HF.out.2.symm, Below.refl _ _⟩
end Go.Proofs.Ytimkjhjdddllcaa
