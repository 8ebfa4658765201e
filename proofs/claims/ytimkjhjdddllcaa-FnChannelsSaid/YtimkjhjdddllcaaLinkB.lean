/- What SpreadBits and GatherBits return, in the program and in the reference, for strings of at most 2^40 bytes. -/
import Derived.Test.YtimkjhjdddllcaaBase
import Derived.Test.YtimkjhjdddllcaaPlBits
namespace Go.Proofs.Ytimkjhjdddllcaa
open Go.RowKit Sat

/-- the byte with the bit b at the place q -/
def bitByte (b : Bool) (q : Nat) : UInt8 := UInt8.ofNat ((if b then 1 else 0) * 2 ^ q)
theorem bitByte_bit (b : Bool) (q : Nat) (hq : q < 8) : ∀ r, r < 8 → (bitByte b q).toNat.testBit r = (decide (r = q) && b) := by
  intro r hr
  have h2 : 2 ^ q < 256 := Nat.lt_of_lt_of_le (Nat.pow_lt_pow_right (by decide) hq) (by decide)
  unfold bitByte
  cases b
  · simp
  · simp only [if_true, Nat.one_mul]
    rw [UInt8.toNat_ofNat', Nat.mod_eq_of_lt h2, Nat.testBit_two_pow]
    by_cases e : q = r
    · simp [e]
    · have : ¬ r = q := fun h => e h.symm
      simp [e, this]
theorem mask1_byte (x : Nat) (hx : x < 256) (k : Nat) : bits .and .u8 ((x : Int) / 2 ^ k) 1 = ((if x.testBit k then 1 else 0 : Nat) : Int) := by
  have e : (x : Int) / 2 ^ k = ((x / 2 ^ k : Nat) : Int) := by simp
  have hd : x / 2 ^ k < 256 := Nat.lt_of_le_of_lt (Nat.div_le_self _ _) hx
  rw [e, show (1 : Int) = ((1 : Nat) : Int) from rfl, u8_and_nat _ _ hd (by decide), Nat.and_one_is_mod]
  rw [Nat.testBit_eq_decide_div_mod_eq]
  by_cases h : x / 2 ^ k % 2 = 1
  · simp [h]
  · have : x / 2 ^ k % 2 = 0 := by omega
    simp [this]
theorem shl_byte (b : Bool) (q : Nat) : ((if b then 1 else 0 : Nat) : Int) * 2 ^ q % 256 = ((bitByte b q).toNat : Int) := by
  unfold bitByte
  rw [UInt8.toNat_ofNat']
  cases b
  · simp
  · simp
theorem or_byte (a b : UInt8) : bits .or .u8 (a.toNat : Int) (b.toNat : Int) = ((a ||| b).toNat : Int) := by
  rw [u8_or_nat _ _ a.toNat_lt b.toNat_lt, UInt8.toNat_or]

theorem ofBits_none (n : Nat) : ofBits n (fun _ => false) = List.replicate n 0 := by
  apply bits_ext
  · simp [ofBits_length]
  · intro p hp
    rw [ofBits_length] at hp
    rw [pbit_ofBits _ _ _ hp]
    unfold pbit byteAt
    simp [List.getD_eq_getElem?_getD, List.getElem?_replicate]
    split <;> simp
/-- the bits f of those places that are done -/
def doneBits (n : Nat) (d f : Nat → Bool) : List UInt8 := ofBits n fun p => d p && f p
theorem doneBits_length (n : Nat) (d f : Nat → Bool) : (doneBits n d f).length = n := ofBits_length _ _
theorem doneBits_none (n : Nat) (d f : Nat → Bool) (h : ∀ p, p < 8 * n → d p = false) : doneBits n d f = List.replicate n 0 := by
  rw [← ofBits_none]
  exact ofBits_congr fun p hp => by rw [h p hp]; rfl
theorem doneBits_all (n : Nat) (d f : Nat → Bool) (h : ∀ p, p < 8 * n → d p = true) : doneBits n d f = ofBits n f := by
  exact ofBits_congr fun p hp => by rw [h p hp]; rfl
theorem doneBits_same (n : Nat) (d d' f : Nat → Bool) (h : ∀ p, p < 8 * n → d p = d' p) : doneBits n d f = doneBits n d' f := by
  exact ofBits_congr fun p hp => by rw [h p hp]
theorem doneBits_step (n : Nat) (d d' f : Nat → Bool) (p : Nat) (hp : p < 8 * n) (h : ∀ r, r < 8 * n → d' r = (d r || decide (r = p))) :
    (doneBits n d f).set (p / 8) ((doneBits n d f).getD (p / 8) 0 ||| bitByte (f p) (p % 8)) = doneBits n d' f := by
  unfold doneBits
  rw [ofBits_or n _ p hp (f p) _ (bitByte_bit _ _ (by omega))]
  apply ofBits_congr
  intro r hr
  rw [h r hr]
  by_cases e : r = p
  · subst e; cases d r <;> cases f r <;> simp
  · simp [e]
/-- by bytes, then by bits -/
def dA (n m k : Nat) (p : Nat) : Bool := decide (p % n < m) || (decide (p % n = m) && decide (p / n < k))
/-- by bits, then by bytes -/
def dB (n k m : Nat) (p : Nat) : Bool := decide (p / n < k) || (decide (p / n = k) && decide (p % n < m))
def dC (m k : Nat) (p : Nat) : Bool := decide (p < 8 * m + k)
def dD (k m : Nat) (p : Nat) : Bool := decide (p % 8 < k) || (decide (p % 8 = k) && decide (p / 8 < m))
theorem place_eq {n k m r : Nat} (hm : m < n) : r = k * n + m ↔ (r % n = m ∧ r / n = k) := by
  constructor
  · rintro rfl; exact ⟨place_mod hm, place_div hm⟩
  · rintro ⟨h1, h2⟩
    have := Nat.div_add_mod r n
    rw [h1, h2, Nat.mul_comm] at this
    omega
theorem dA_zero (n p : Nat) : dA n 0 0 p = false := by simp [dA]
theorem dA_step (n m k : Nat) (hm : m < n) (r : Nat) : dA n m (k + 1) r = (dA n m k r || decide (r = k * n + m)) := by
  unfold dA
  rw [Bool.eq_iff_iff]
  simp only [Bool.or_eq_true, Bool.and_eq_true, decide_eq_true_eq, place_eq hm]
  omega
theorem dA_next (n m : Nat) (p : Nat) (hp : p < 8 * n) : dA n m 8 p = dA n (m + 1) 0 p := by
  have hd : p / n < 8 := by rw [Nat.div_lt_iff_lt_mul (by omega)]; omega
  have h0 := Nat.zero_le (p / n)
  unfold dA
  rw [Bool.eq_iff_iff]
  simp only [Bool.or_eq_true, Bool.and_eq_true, decide_eq_true_eq]
  omega
theorem dA_full (n : Nat) (p : Nat) (hp : p < 8 * n) : dA n n 0 p = true := by
  have : p % n < n := Nat.mod_lt _ (by omega)
  unfold dA; simp [this]
theorem dB_zero (n p : Nat) : dB n 0 0 p = false := by simp [dB]
theorem dB_step (n k m : Nat) (hm : m < n) (r : Nat) : dB n k (m + 1) r = (dB n k m r || decide (r = k * n + m)) := by
  unfold dB
  rw [Bool.eq_iff_iff]
  simp only [Bool.or_eq_true, Bool.and_eq_true, decide_eq_true_eq, place_eq hm]
  omega
theorem dB_next (n k : Nat) (p : Nat) (hp : p < 8 * n) : dB n k n p = dB n (k + 1) 0 p := by
  have hd : p % n < n := Nat.mod_lt _ (by omega)
  unfold dB
  rw [Bool.eq_iff_iff]
  simp only [Bool.or_eq_true, Bool.and_eq_true, decide_eq_true_eq]
  omega
theorem dB_full (n : Nat) (p : Nat) (hp : p < 8 * n) : dB n 8 0 p = true := by
  have hd : p / n < 8 := by rw [Nat.div_lt_iff_lt_mul (by omega)]; omega
  unfold dB; simp [hd]
theorem dC_step (m k r : Nat) : dC m (k + 1) r = (dC m k r || decide (r = 8 * m + k)) := by
  unfold dC
  rw [Bool.eq_iff_iff]
  simp only [Bool.or_eq_true, decide_eq_true_eq]
  omega
theorem dD_step (k m r : Nat) (hk : k < 8) : dD k (m + 1) r = (dD k m r || decide (r = 8 * m + k)) := by
  unfold dD
  rw [Bool.eq_iff_iff]
  simp only [Bool.or_eq_true, Bool.and_eq_true, decide_eq_true_eq]
  omega
theorem dD_next (n k : Nat) (p : Nat) (hp : p < 8 * n) : dD k n p = dD (k + 1) 0 p := by
  unfold dD
  rw [Bool.eq_iff_iff]
  simp only [Bool.or_eq_true, Bool.and_eq_true, decide_eq_true_eq]
  omega
def srcS (l : List UInt8) (p : Nat) : Bool := (byteAt l (p % l.length)).testBit (p / l.length)
def srcG (l : List UInt8) (p : Nat) : Bool := pbit l (p % 8 * l.length + p / 8)
theorem spread_is (l : List UInt8) : ofBits l.length (srcS l) = spread l := rfl
theorem gather_is (l : List UInt8) : ofBits l.length (srcG l) = gather l := rfl
theorem srcS_at (l : List UInt8) (k m : Nat) (hm : m < l.length) : srcS l (k * l.length + m) = (byteAt l m).testBit k := by unfold srcS; rw [place_mod hm, place_div hm]
theorem srcG_at (l : List UInt8) (k m : Nat) (hk : k < 8) : srcG l (8 * m + k) = (byteAt l ((k * l.length + m) / 8)).testBit ((k * l.length + m) % 8) := by
  unfold srcG pbit
  rw [show (8 * m + k) % 8 = k by omega, show (8 * m + k) / 8 = m by omega]
theorem byteAt_str (s : ByteArray) (m : Nat) (h : m < s.size) : byteAt s.data.toList m = (s[m]'h).toNat := by
  unfold byteAt; rw [List.getD_eq_getElem?_getD, List.getElem?_eq_getElem (by simpa using h)]; rfl
set_option maxHeartbeats 3200000 in
theorem i_SpreadBits (s : ByteArray) (w : World) (hs : s.size ≤ 1099511627776) :
    Calls Try.prog 35 #[.string s] w fun e w' => e = .returned (.string (str (spread s.data.toList))) ∧ Below w.heap.size w w' := by
  have HL := hide (show s.data.toList.length = s.size by simp)
  go_enter Try.func35, Try.ntmps35
  go_wp2_with (at_make; refine wpList_mk rfl _ _ rfl _ _ s.size rfl rfl rfl rfl (by omega) ?_; intro w1 hown hb)
  go_loopw [5] (fun ov wr => ∃ m : Nat, m ≤ s.size ∧ ov = .int .i64 m ∧ BOwn wr w.heap.size (.slice (some ⟨w.heap.size, 0, none⟩) s.size s.size) (doneBits s.size (dA s.size m 0) (srcS s.data.toList)) ∧ Below w.heap.size w wr) (fun ov _ => s.size - (intOf ov).toNat)
  case atStart => exact ⟨0, Nat.zero_le _, rfl, by rw [doneBits_none _ _ _ (fun p hp => dA_zero s.size p)]; exact hown, hb⟩
  case round =>
    clear hown hb
    obtain ⟨m, ho, rfl, hown, hb⟩ := hrel
    by_cases hlt : m < s.size
    · go_wp2
      obtain ⟨wo, rfl⟩ : ∃ wo : World, wo = wr := ⟨_, rfl⟩
      go_loopw [6] (fun iv wr => ∃ k : Nat, k ≤ 8 ∧ iv = .int .i64 k ∧ BOwn wr w.heap.size (.slice (some ⟨w.heap.size, 0, none⟩) s.size s.size) (doneBits s.size (dA s.size m k) (srcS s.data.toList)) ∧ Below w.heap.size w wr) (fun iv _ => 8 - (intOf iv).toNat)
      case atStart => exact ⟨0, Nat.zero_le _, rfl, hown, hb⟩
      case round =>
        clear hown hb
        obtain ⟨k, hi, rfl, hown, hb⟩ := hrel
        by_cases hlt2 : k < 8
        · have hmn : m < s.size := by omega
          have hk8 : k < 8 := by omega
          have hq0 : (0 : Int) ≤ (k : Int) * (s.size : Int) := Int.mul_nonneg (by omega) (by omega)
          have hq1 : (k : Int) * (s.size : Int) ≤ 8 * 1099511627776 := Int.mul_le_mul (a := (k : Int)) (b := (s.size : Int)) (by omega) (by omega) (by omega) (by omega)
          obtain ⟨p, hp⟩ : ∃ p, p = k * s.size + m := ⟨_, rfl⟩
          have hpi : (k : Int) * (s.size : Int) + (m : Int) = (p : Int) := by rw [hp]; simp
          have hp8 : p < 8 * s.size := hp ▸ place_lt hk8 hmn
          have hix : m < s.size := by omega
          have hlen := doneBits_length s.size (dA s.size m k) (srcS s.data.toList)
          have hsrc : srcS s.data.toList p = ((s[m]'hix).toNat).testBit (k) := by
            rw [hp, ← HL.out, srcS_at _ _ _ (by rw [HL.out]; exact hmn), byteAt_str s m hmn]
          have hsc := doneBits_step s.size (dA s.size m k) (dA s.size m (k + 1)) (srcS s.data.toList) p (by omega) (fun r _ => by rw [dA_step s.size m k hmn]; rw [hp])
          rw [hsrc] at hsc
          have HSC := hide hsc
          have hc := hown.cell hlen (p / 8) (by omega)
          have hf := hown.frozen hlen (p / 8)
          have hst := hide (hown.stored hlen (p / 8) ((doneBits s.size (dA s.size m k) (srcS s.data.toList)).getD (p / 8) 0 ||| bitByte (((s[m]'hix).toNat).testBit (k)) (p % 8)))
          have HP := hide hpi
          have hm1 := hide (mask1_byte (s[m]'hix).toNat (UInt8.toNat_lt _) (k))
          have hsh := hide (shl_byte ((s[m]'hix).toNat.testBit (k)) (p % 8))
          have hor := hide (or_byte ((doneBits s.size (dA s.size m k) (srcS s.data.toList)).getD (p / 8) 0) (bitByte ((s[m]'hix).toNat.testBit (k)) (p % 8)))
          have hx : (s[m]'hix).toNat < 256 := UInt8.toNat_lt _
          clear hown hlen hp hpi hsc hsrc
          generalize (doneBits s.size (dA s.size m k) (srcS s.data.toList)).getD (p / 8) 0 = old at *
          have hold : old.toNat < 256 := UInt8.toNat_lt _
          go_wp2
          rw [HP.out]
          clear hq0 hq1
          go_region
          go_wp2
          go_roundw
          case rel =>
            refine ⟨k + 1, by omega, by go_num, ?_, (hb.setCell (Nat.le_refl _) _).drew⟩
            rw [← HSC.out, hm1.out, hsh.out, hor.out]
            exact hst.out
          case measure => simp [intOf]; omega
        · obtain rfl : k = 8 := by omega
          go_wp2
          go_roundw
          case rel => exact ⟨m + 1, by omega, by go_num, by rw [← doneBits_same _ _ _ _ (fun p hp => dA_next s.size m p hp)]; exact hown, hb⟩
          case measure => simp [intOf]; omega
    · obtain rfl : m = s.size := by omega
      have hs' := hown.str
      rw [doneBits_all _ _ _ (fun p hp => dA_full s.size p hp), ← HL.out, spread_is] at hs'
      rw [HL.out] at hs'
      clear hown
      go_wp2
      go_ret
      exact ⟨rfl, hb⟩
set_option maxHeartbeats 3200000 in
theorem i_GatherBits (s : ByteArray) (w : World) (hs : s.size ≤ 1099511627776) :
    Calls Try.prog 39 #[.string s] w fun e w' => e = .returned (.string (str (gather s.data.toList))) ∧ Below w.heap.size w w' := by
  have HL := hide (show s.data.toList.length = s.size by simp)
  go_enter Try.func39, Try.ntmps39
  go_wp2_with (at_make; refine wpList_mk rfl _ _ rfl _ _ s.size rfl rfl rfl rfl (by omega) ?_; intro w1 hown hb)
  go_loopw [5] (fun ov wr => ∃ m : Nat, m ≤ s.size ∧ ov = .int .i64 m ∧ BOwn wr w.heap.size (.slice (some ⟨w.heap.size, 0, none⟩) s.size s.size) (doneBits s.size (dC m 0) (srcG s.data.toList)) ∧ Below w.heap.size w wr) (fun ov _ => s.size - (intOf ov).toNat)
  case atStart => exact ⟨0, Nat.zero_le _, rfl, by rw [doneBits_none _ _ _ (fun p hp => (by simp [dC]))]; exact hown, hb⟩
  case round =>
    clear hown hb
    obtain ⟨m, ho, rfl, hown, hb⟩ := hrel
    by_cases hlt : m < s.size
    · go_wp2
      obtain ⟨wo, rfl⟩ : ∃ wo : World, wo = wr := ⟨_, rfl⟩
      go_loopw [6] (fun iv wr => ∃ k : Nat, k ≤ 8 ∧ iv = .int .i64 k ∧ BOwn wr w.heap.size (.slice (some ⟨w.heap.size, 0, none⟩) s.size s.size) (doneBits s.size (dC m k) (srcG s.data.toList)) ∧ Below w.heap.size w wr) (fun iv _ => 8 - (intOf iv).toNat)
      case atStart => exact ⟨0, Nat.zero_le _, rfl, hown, hb⟩
      case round =>
        clear hown hb
        obtain ⟨k, hi, rfl, hown, hb⟩ := hrel
        by_cases hlt2 : k < 8
        · have hmn : m < s.size := by omega
          have hk8 : k < 8 := by omega
          have hq0 : (0 : Int) ≤ (k : Int) * (s.size : Int) := Int.mul_nonneg (by omega) (by omega)
          have hq1 : (k : Int) * (s.size : Int) ≤ 8 * 1099511627776 := Int.mul_le_mul (a := (k : Int)) (b := (s.size : Int)) (by omega) (by omega) (by omega) (by omega)
          obtain ⟨p, hp⟩ : ∃ p, p = k * s.size + m := ⟨_, rfl⟩
          have hpi : (k : Int) * (s.size : Int) + (m : Int) = (p : Int) := by rw [hp]; simp
          have hp8 : p < 8 * s.size := hp ▸ place_lt hk8 hmn
          have hix : p / 8 < s.size := by omega
          have hlen := doneBits_length s.size (dC m k) (srcG s.data.toList)
          have hsrc : srcG s.data.toList (8 * m + k) = ((s[p / 8]'hix).toNat).testBit (p % 8) := by
            rw [srcG_at _ _ _ hk8, HL.out, ← hp, byteAt_str s (p / 8) (by omega)]
          have hsc := doneBits_step s.size (dC m k) (dC m (k + 1)) (srcG s.data.toList) (8 * m + k) (by omega) (fun r _ => dC_step m k r)
          rw [hsrc, show (8 * m + k) / 8 = m by omega, show (8 * m + k) % 8 = k by omega] at hsc
          have HSC := hide hsc
          have hc := hown.cell hlen (m) (by omega)
          have hf := hown.frozen hlen (m)
          have hst := hide (hown.stored hlen (m) ((doneBits s.size (dC m k) (srcG s.data.toList)).getD (m) 0 ||| bitByte (((s[p / 8]'hix).toNat).testBit (p % 8)) (k)))
          have HP := hide hpi
          have hm1 := hide (mask1_byte (s[p / 8]'hix).toNat (UInt8.toNat_lt _) (p % 8))
          have hsh := hide (shl_byte ((s[p / 8]'hix).toNat.testBit (p % 8)) (k))
          have hor := hide (or_byte ((doneBits s.size (dC m k) (srcG s.data.toList)).getD (m) 0) (bitByte ((s[p / 8]'hix).toNat.testBit (p % 8)) (k)))
          have hx : (s[p / 8]'hix).toNat < 256 := UInt8.toNat_lt _
          clear hown hlen hp hpi hsc hsrc
          generalize (doneBits s.size (dC m k) (srcG s.data.toList)).getD (m) 0 = old at *
          have hold : old.toNat < 256 := UInt8.toNat_lt _
          go_wp2
          rw [HP.out]
          clear hq0 hq1
          have hr1 : (0 : Int) ≤ (p : Int) / 8 := by omega
          have hr2 : (p : Int) / 8 < (s.size : Int) := by omega
          have hr3 : ((p : Int) / 8).toNat = p / 8 := by omega
          go_region
          go_wp2
          go_roundw
          case rel =>
            refine ⟨k + 1, by omega, by go_num, ?_, (hb.setCell (Nat.le_refl _) _).drew⟩
            rw [← HSC.out, hm1.out, hsh.out, hor.out]
            exact hst.out
          case measure => simp [intOf]; omega
        · obtain rfl : k = 8 := by omega
          go_wp2
          go_roundw
          case rel => exact ⟨m + 1, by omega, by go_num, by rw [← doneBits_same _ _ _ _ (fun p hp => (by unfold dC; congr 1))]; exact hown, hb⟩
          case measure => simp [intOf]; omega
    · obtain rfl : m = s.size := by omega
      have hs' := hown.str
      rw [doneBits_all _ _ _ (fun p hp => (by unfold dC; simp; omega)), ← HL.out, gather_is] at hs'
      rw [HL.out] at hs'
      clear hown
      go_wp2
      go_ret
      exact ⟨rfl, hb⟩
set_option maxHeartbeats 3200000 in
theorem s_GatherBits (s : ByteArray) (w : World) (hs : s.size ≤ 1099511627776) :
    Calls Try.prog 55 #[.string s] w fun e w' => e = .returned (.string (str (gather s.data.toList))) ∧ Below w.heap.size w w' := by
  have HL := hide (show s.data.toList.length = s.size by simp)
  go_enter Try.func55, Try.ntmps55
  go_wp2_with (at_make; refine wpList_mk rfl _ _ rfl _ _ s.size rfl rfl rfl rfl (by omega) ?_; intro w1 hown hb)
  go_loopw [5] (fun ov wr => ∃ k : Nat, k ≤ 8 ∧ ov = .int .i64 k ∧ BOwn wr w.heap.size (.slice (some ⟨w.heap.size, 0, none⟩) s.size s.size) (doneBits s.size (dD k 0) (srcG s.data.toList)) ∧ Below w.heap.size w wr) (fun ov _ => 8 - (intOf ov).toNat)
  case atStart => exact ⟨0, Nat.zero_le _, rfl, by rw [doneBits_none _ _ _ (fun p hp => (by simp [dD]))]; exact hown, hb⟩
  case round =>
    clear hown hb
    obtain ⟨k, ho, rfl, hown, hb⟩ := hrel
    by_cases hlt : k < 8
    · go_wp2
      obtain ⟨wo, rfl⟩ : ∃ wo : World, wo = wr := ⟨_, rfl⟩
      go_loopw [6] (fun iv wr => ∃ m : Nat, m ≤ s.size ∧ iv = .int .i64 m ∧ BOwn wr w.heap.size (.slice (some ⟨w.heap.size, 0, none⟩) s.size s.size) (doneBits s.size (dD k m) (srcG s.data.toList)) ∧ Below w.heap.size w wr) (fun iv _ => s.size - (intOf iv).toNat)
      case atStart => exact ⟨0, Nat.zero_le _, rfl, hown, hb⟩
      case round =>
        clear hown hb
        obtain ⟨m, hi, rfl, hown, hb⟩ := hrel
        by_cases hlt2 : m < s.size
        · have hmn : m < s.size := by omega
          have hk8 : k < 8 := by omega
          have hq0 : (0 : Int) ≤ (k : Int) * (s.size : Int) := Int.mul_nonneg (by omega) (by omega)
          have hq1 : (k : Int) * (s.size : Int) ≤ 8 * 1099511627776 := Int.mul_le_mul (a := (k : Int)) (b := (s.size : Int)) (by omega) (by omega) (by omega) (by omega)
          obtain ⟨p, hp⟩ : ∃ p, p = k * s.size + m := ⟨_, rfl⟩
          have hpi : (k : Int) * (s.size : Int) + (m : Int) = (p : Int) := by rw [hp]; simp
          have hp8 : p < 8 * s.size := hp ▸ place_lt hk8 hmn
          have hix : p / 8 < s.size := by omega
          have hlen := doneBits_length s.size (dD k m) (srcG s.data.toList)
          have hsrc : srcG s.data.toList (8 * m + k) = ((s[p / 8]'hix).toNat).testBit (p % 8) := by
            rw [srcG_at _ _ _ hk8, HL.out, ← hp, byteAt_str s (p / 8) (by omega)]
          have hsc := doneBits_step s.size (dD k m) (dD k (m + 1)) (srcG s.data.toList) (8 * m + k) (by omega) (fun r _ => dD_step k m r hk8)
          rw [hsrc, show (8 * m + k) / 8 = m by omega, show (8 * m + k) % 8 = k by omega] at hsc
          have HSC := hide hsc
          have hc := hown.cell hlen (m) (by omega)
          have hf := hown.frozen hlen (m)
          have hst := hide (hown.stored hlen (m) ((doneBits s.size (dD k m) (srcG s.data.toList)).getD (m) 0 ||| bitByte (((s[p / 8]'hix).toNat).testBit (p % 8)) (k)))
          have HP := hide hpi
          have hm1 := hide (mask1_byte (s[p / 8]'hix).toNat (UInt8.toNat_lt _) (p % 8))
          have hsh := hide (shl_byte ((s[p / 8]'hix).toNat.testBit (p % 8)) (k))
          have hor := hide (or_byte ((doneBits s.size (dD k m) (srcG s.data.toList)).getD (m) 0) (bitByte ((s[p / 8]'hix).toNat.testBit (p % 8)) (k)))
          have hx : (s[p / 8]'hix).toNat < 256 := UInt8.toNat_lt _
          clear hown hlen hp hpi hsc hsrc
          generalize (doneBits s.size (dD k m) (srcG s.data.toList)).getD (m) 0 = old at *
          have hold : old.toNat < 256 := UInt8.toNat_lt _
          go_wp2
          rw [HP.out]
          clear hq0 hq1
          have hr1 : (0 : Int) ≤ (p : Int) / 8 := by omega
          have hr2 : (p : Int) / 8 < (s.size : Int) := by omega
          have hr3 : ((p : Int) / 8).toNat = p / 8 := by omega
          go_region
          go_wp2
          go_roundw
          case rel =>
            refine ⟨m + 1, by omega, by go_num, ?_, (hb.setCell (Nat.le_refl _) _).drew⟩
            rw [← HSC.out, hm1.out, hsh.out, hor.out]
            exact hst.out
          case measure => simp [intOf]; omega
        · obtain rfl : m = s.size := by omega
          go_wp2
          go_roundw
          case rel => exact ⟨k + 1, by omega, by go_num, by rw [← doneBits_same _ _ _ _ (fun p hp => dD_next s.size k p hp)]; exact hown, hb⟩
          case measure => simp [intOf]; omega
    · obtain rfl : k = 8 := by omega
      have hs' := hown.str
      rw [doneBits_all _ _ _ (fun p hp => (by unfold dD; simp; omega)), ← HL.out, gather_is] at hs'
      rw [HL.out] at hs'
      clear hown
      go_wp2
      go_ret
      exact ⟨rfl, hb⟩
end Go.Proofs.Ytimkjhjdddllcaa
