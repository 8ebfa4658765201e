/- What PutWord returns, in the program and in the reference: the bytes of a number, for all ints. -/
import Derived.Test.YtnelfadmcpacbaaBase
namespace Go.Proofs.Ytnelfadmcpacbaa
open Go.RowKit Sat

def putOk (n k : Int) : Bool := decide (1 ≤ k ∧ k ≤ 4 ∧ 0 ≤ n ∧ n < 256 ^ k.toNat)
def putB (n k : Int) : ByteArray := if putOk n k then str (wordBytes n.toNat k.toNat) else str []
/-- the bytes of n once the lowest j of k are stored -/
def putTo (n k j : Nat) : List UInt8 := (List.range k).map fun t => if k - j ≤ t then UInt8.ofNat (n / 256 ^ (k - 1 - t) % 256) else 0
theorem putTo_length (n k j : Nat) : (putTo n k j).length = k := by simp [putTo]
theorem putTo_zero (n k : Nat) : putTo n k 0 = List.replicate k 0 := by
  apply List.ext_getElem
  · simp [putTo]
  · intro t h1 h2
    simp [putTo] at h1 ⊢
    intro h; omega
theorem putTo_full (n k : Nat) : putTo n k k = wordBytes n k := by
  unfold putTo wordBytes
  apply List.map_congr_left
  intro t _
  rw [if_pos (by omega)]
theorem putTo_succ (n k j : Nat) (hj : j < k) : (putTo n k j).set (k - 1 - j) (UInt8.ofNat (n / 256 ^ j)) = putTo n k (j + 1) := by
  apply List.ext_getElem
  · simp [putTo]
  · intro t h1 h2
    simp only [List.length_set, putTo_length] at h1
    rw [List.getElem_set]
    simp only [putTo, List.getElem_map, List.getElem_range]
    by_cases e : k - 1 - j = t
    · rw [if_pos e, if_pos (by omega), show k - 1 - t = j by omega]
      apply UInt8.toNat_inj.1
      simp [UInt8.toNat_ofNat']
    · rw [if_neg e]
      by_cases h3 : k - j ≤ t
      · rw [if_pos h3, if_pos (by omega)]
      · rw [if_neg h3, if_neg (by omega)]
theorem mask8 (x : Nat) (hx : x < 9223372036854775808) : bits .and .i64 (x : Int) 255 = ((x % 256 : Nat) : Int) := by
  have := bits_mask .i64 63 (by decide) (fun n h0 h1 => by rw [IntKind.wrap_i64]; omega) 8 (by decide) (x : Int) (by omega) (by omega)
  simpa using this

theorem shr_byte (n t : Nat) : (n : Int) / 2 ^ (8 * t) % 256 = ((UInt8.ofNat (n / 256 ^ t)).toNat : Int) := by
  have e : ((2 : Int) ^ (8 * t)) = ((256 ^ t : Nat) : Int) := by rw [Int.pow_mul]; simp
  rw [e, UInt8.toNat_ofNat']; simp
theorem take_word (n k j : Nat) (hj : j < k) : (wordBytes n k).take (j + 1) = (wordBytes n k).take j ++ [UInt8.ofNat (n / 256 ^ (k - 1 - j))] := by
  rw [List.take_succ_eq_append_getElem (by rw [wordBytes_length]; exact hj)]
  congr 2
  simp only [wordBytes, List.getElem_map, List.getElem_range]
  apply UInt8.toNat_inj.1
  simp [UInt8.toNat_ofNat']
theorem putB_yes (n k : Int) (h : putOk n k = true) : putB n k = str (wordBytes n.toNat k.toNat) := by unfold putB; rw [if_pos h]
theorem putB_no (n k : Int) (h : putOk n k = false) : putB n k = str [] := by unfold putB; rw [h]; rfl
theorem putB_size (n k : Int) : (putB n k).size ≤ 4 := by
  by_cases h : putOk n k = true
  · rw [putB_yes n k h, str_size, wordBytes_length]
    have := of_decide_eq_true h
    omega
  · rw [putB_no n k (by simpa using h), str_size]; simp
theorem shr_ne (n k : Nat) (hn : ¬ n < 256 ^ k) : ((n : Int) / 2 ^ (8 * k) != 0) = true := by
  have e : ((2 : Int) ^ (8 * k)) = ((256 ^ k : Nat) : Int) := by rw [Int.pow_mul]; simp
  have : (n : Int) / 2 ^ (8 * k) = ((n / 256 ^ k : Nat) : Int) := by rw [e]; simp
  have h1 : 0 < n / 256 ^ k := Nat.div_pos (by omega) (Nat.pow_pos (by decide))
  rw [this, bne_iff_ne]; omega
theorem putOk_cases {n k : Int} (h : putOk n k = false) : k < 1 ∨ (1 ≤ k ∧ 4 < k) ∨ (1 ≤ k ∧ k ≤ 4 ∧ n < 0) ∨ (1 ≤ k ∧ k ≤ 4 ∧ 0 ≤ n ∧ ¬ n < 256 ^ k.toNat) := by
  have h := of_decide_eq_false h
  by_cases hc : n < 256 ^ k.toNat
  · have : ¬ (1 ≤ k ∧ k ≤ 4 ∧ 0 ≤ n) := fun h' => h ⟨h'.1, h'.2.1, h'.2.2, hc⟩
    omega
  · by_cases h' : 1 ≤ k ∧ k ≤ 4 ∧ 0 ≤ n
    · exact .inr (.inr (.inr ⟨h'.1, h'.2.1, h'.2.2, hc⟩))
    · omega
set_option maxHeartbeats 1600000 in
theorem i_PutWord_yes (n : Nat) (k : Nat) (w : World) (h1 : 1 ≤ k) (h4 : k ≤ 4) (hn : n < 256 ^ k) :
    Calls Try.prog 46 #[.int .i64 n, .int .i64 k] w fun e w' => e = .returned (.string (str (wordBytes n k))) ∧ Below w.heap.size w w' := by
  have hlt : n < 4294967296 := Nat.lt_of_lt_of_le hn (Nat.pow_le_pow_right (n := 256) (by decide) h4)
  have d0 : decide ((n : Int) < 0) = false := decide_eq_false (by omega)
  have d1 : decide ((k : Int) < 1) = false := decide_eq_false (by omega)
  have d2 : decide (4 < (k : Int)) = false := decide_eq_false (by omega)
  have d3 : ((n : Int) / 2 ^ (8 * k) != 0) = false := by
    have e : ((2 : Int) ^ (8 * k)) = ((256 ^ k : Nat) : Int) := by rw [Int.pow_mul]; simp
    have : (n : Int) / 2 ^ (8 * k) = ((n / 256 ^ k : Nat) : Int) := by rw [e]; simp
    rw [this, Nat.div_eq_of_lt hn]; rfl
  go_enter Try.func46, Try.ntmps46
  go_wp2_with (at_make; refine wpList_mk rfl _ _ rfl _ _ k rfl rfl rfl rfl (by omega) ?_; intro w1 hown hb)
  go_loopw [0, 6] (fun nv iv wr => ∃ j t : Nat, j + t = k ∧ nv = .int .i64 ((n / 256 ^ j : Nat) : Int) ∧ iv = .int .i64 ((t : Int) - 1) ∧ BOwn wr w.heap.size (.slice (some ⟨w.heap.size, 0, none⟩) k k) (putTo n k j) ∧ Below w.heap.size w wr) (fun _ i _ => (intOf i + 1).toNat)
  case atStart => exact ⟨0, k, by omega, by simp, rfl, by rw [putTo_zero]; exact hown, hb⟩
  case round =>
    obtain ⟨j, t, hjt, rfl, rfl, hown, hb⟩ := hrel
    have hq : n / 256 ^ j < 4294967296 := Nat.lt_of_le_of_lt (Nat.div_le_self _ _) hlt
    have hlen := putTo_length n k j
    cases t with
    | zero =>
      have hs := hown.str
      obtain rfl : j = k := by omega
      rw [putTo_full] at hs
      clear hown
      go_wp2
      go_ret
      exact ⟨rfl, hb⟩
    | succ t =>
      rw [show (((t + 1 : Nat) : Int) - 1) = (t : Int) by omega]
      have hc := hown.cell hlen t (by omega)
      have hf := hown.frozen hlen t
      have hst := hide (hown.stored hlen t (UInt8.ofNat (n / 256 ^ j)))
      clear hlen
      go_wp2
      go_roundw
      case rel =>
        refine ⟨j + 1, t, by omega, ?_, rfl, ?_, hb.setCell (Nat.le_refl _) _⟩
        · rw [Nat.pow_succ, ← Nat.div_div_eq_div_mul]; simp
        · have ev : bits BinOp.and IntKind.i64 ((n : Int) / 256 ^ j) 255 % 256 = ((UInt8.ofNat (n / 256 ^ j)).toNat : Int) := by
            have e : (n : Int) / 256 ^ j = ((n / 256 ^ j : Nat) : Int) := by simp
            rw [e, mask8 _ (by omega), UInt8.toNat_ofNat']; simp
          rw [ev, ← putTo_succ n k j (by omega), show k - 1 - j = t by omega]
          exact hst.out
      case measure => simp [intOf]
set_option maxHeartbeats 800000 in
theorem i_PutWord_no (n k : Int) (w : World) (h : putOk n k = false) :
    Calls Try.prog 46 #[.int .i64 n, .int .i64 k] w fun e w' => e = .returned (.string (str [])) ∧ w = w' := by
  rcases putOk_cases h with h1 | ⟨h1, h2⟩ | ⟨h1, h2, h3⟩ | ⟨h1, h2, h3, h4⟩
  · clear h
    go_enter Try.func46, Try.ntmps46
    go_wp2
    go_ret
    exact ⟨rfl, rfl⟩
  · clear h
    go_enter Try.func46, Try.ntmps46
    go_wp2
    go_ret
    exact ⟨rfl, rfl⟩
  · clear h
    go_enter Try.func46, Try.ntmps46
    go_wp2
    go_ret
    exact ⟨rfl, rfl⟩
  · clear h
    obtain ⟨n, rfl⟩ := Int.eq_ofNat_of_zero_le h3
    obtain ⟨k, rfl⟩ := Int.eq_ofNat_of_zero_le (show 0 ≤ k by omega)
    have d3 := shr_ne n k (fun hh => h4 (by rw [Int.toNat_natCast]; have : ((256 ^ k : Nat) : Int) = 256 ^ k := by simp
                                            omega))
    clear h4
    have d0 : decide ((n : Int) < 0) = false := decide_eq_false (by omega)
    have d1 : decide ((k : Int) < 1) = false := decide_eq_false (by omega)
    have d2 : decide (4 < (k : Int)) = false := decide_eq_false (by omega)
    go_enter Try.func46, Try.ntmps46
    go_wp2
    go_ret
    exact ⟨rfl, rfl⟩
theorem i_PutWord (n k : Int) (w : World) :
    Calls Try.prog 46 #[.int .i64 n, .int .i64 k] w fun e w' => e = .returned (.string (putB n k)) ∧ Below w.heap.size w w' := by
  by_cases h : putOk n k = true
  · have hv := putB_yes n k h
    obtain ⟨h1, h2, h3, h4⟩ := of_decide_eq_true h
    obtain ⟨n, rfl⟩ := Int.eq_ofNat_of_zero_le h3
    obtain ⟨k, rfl⟩ := Int.eq_ofNat_of_zero_le (show 0 ≤ k by omega)
    rw [hv, Int.toNat_natCast, Int.toNat_natCast]
    refine i_PutWord_yes n k w (by omega) (by omega) ?_
    rw [Int.toNat_natCast] at h4
    have : ((256 ^ k : Nat) : Int) = 256 ^ k := by simp
    omega
  · have h : putOk n k = false := by simpa using h
    rw [putB_no n k h]
    exact (i_PutWord_no n k w h).mono fun _ _ ⟨he, hw⟩ => ⟨he, hw ▸ Below.refl _ _⟩
set_option maxHeartbeats 1600000 in
theorem s_PutWord_yes (n : Nat) (k : Nat) (w : World) (h1 : 1 ≤ k) (h4 : k ≤ 4) (hn : n < 256 ^ k) :
    Calls Try.prog 80 #[.int .i64 n, .int .i64 k] w fun e w' => e = .returned (.string (str (wordBytes n k))) ∧ Below w.heap.size w w' := by
  have hlt : n < 4294967296 := Nat.lt_of_lt_of_le hn (Nat.pow_le_pow_right (n := 256) (by decide) h4)
  have d0 : decide ((n : Int) < 0) = false := decide_eq_false (by omega)
  have d3 : ((n : Int) / 2 ^ (8 * k) != 0) = false := by
    have e : ((2 : Int) ^ (8 * k)) = ((256 ^ k : Nat) : Int) := by rw [Int.pow_mul]; simp
    have : (n : Int) / 2 ^ (8 * k) = ((n / 256 ^ k : Nat) : Int) := by rw [e]; simp
    rw [this, Nat.div_eq_of_lt hn]; rfl
  go_enter Try.func80, Try.ntmps80
  go_wp2_with (go_at_call 54; refine (s_In_yes _ _ _ _ (by omega) (by omega)).mono ?_; rintro e w' ⟨rfl, rfl⟩)
  have hown := BOwn.lit w
  have hb : Below w.heap.size w (w.alloc (.cells #[] 5)) := (Below.refl _ _).alloc (Nat.le_refl _) _
  go_loopw [5, 6] (fun v iv wr => ∃ j t : Nat, j + t = k ∧ iv = .int .i64 ((t : Int) - 1) ∧ BOwn wr w.heap.size v ((wordBytes n k).take j) ∧ Below w.heap.size w wr) (fun _ i _ => (intOf i + 1).toNat)
  case atStart => exact ⟨0, k, by omega, rfl, hown, hb⟩
  case round =>
    obtain ⟨j, t, hjt, rfl, hown, hb⟩ := hrel
    have hlen := wordBytes_length n k
    cases t with
    | zero =>
      have hs := hown.str
      rw [List.take_of_length_le (by omega)] at hs
      clear hown
      go_wp2
      go_ret
      exact ⟨rfl, hb⟩
    | succ t =>
      rw [show (((t + 1 : Nat) : Int) - 1) = (t : Int) by omega]
      have hsz := hb.size
      go_wp2_with (at_builtin; refine wpList_app rfl _ _ rfl w.heap.size _ _ [UInt8.ofNat (n / 256 ^ t)] rfl hown rfl ?c1 ?c2 ?c3 ?_)
      case c1 => rw [shr_byte]; rfl
      case c2 => simp; omega
      case c3 => exact hsz
      · intro v' w' hown' hb'
        go_wp2
        go_roundw
        case rel => exact ⟨j + 1, t, by omega, rfl, by rw [take_word n k j (by omega), show k - 1 - j = t by omega]; exact hown', hb.trans hb'⟩
        case measure => simp [intOf]
set_option maxHeartbeats 800000 in
theorem s_PutWord_no (n k : Int) (w : World) (h : putOk n k = false) :
    Calls Try.prog 80 #[.int .i64 n, .int .i64 k] w fun e w' => e = .returned (.string (str [])) ∧ w = w' := by
  rcases putOk_cases h with h1 | ⟨h1, h2⟩ | ⟨h1, h2, h3⟩ | ⟨h1, h2, h3, h4⟩
  · clear h
    go_enter Try.func80, Try.ntmps80
    go_wp2_with (go_at_call 54; refine (s_In_no _ _ _ _ (by omega)).mono ?_; rintro e w' ⟨rfl, rfl⟩)
    go_ret
    exact ⟨rfl, rfl⟩
  · clear h
    go_enter Try.func80, Try.ntmps80
    go_wp2_with (go_at_call 54; refine (s_In_no _ _ _ _ (by omega)).mono ?_; rintro e w' ⟨rfl, rfl⟩)
    go_ret
    exact ⟨rfl, rfl⟩
  · clear h
    go_enter Try.func80, Try.ntmps80
    go_wp2_with (go_at_call 54; refine (s_In_yes _ _ _ _ (by omega) (by omega)).mono ?_; rintro e w' ⟨rfl, rfl⟩)
    go_ret
    exact ⟨rfl, rfl⟩
  · clear h
    obtain ⟨n, rfl⟩ := Int.eq_ofNat_of_zero_le h3
    obtain ⟨k, rfl⟩ := Int.eq_ofNat_of_zero_le (show 0 ≤ k by omega)
    have d3 := shr_ne n k (fun hh => h4 (by rw [Int.toNat_natCast]; have : ((256 ^ k : Nat) : Int) = 256 ^ k := by simp
                                            omega))
    clear h4
    have d0 : decide ((n : Int) < 0) = false := decide_eq_false (by omega)
    go_enter Try.func80, Try.ntmps80
    go_wp2_with (go_at_call 54; refine (s_In_yes _ _ _ _ (by omega) (by omega)).mono ?_; rintro e w' ⟨rfl, rfl⟩)
    go_ret
    exact ⟨rfl, rfl⟩
theorem s_PutWord (n k : Int) (w : World) :
    Calls Try.prog 80 #[.int .i64 n, .int .i64 k] w fun e w' => e = .returned (.string (putB n k)) ∧ Below w.heap.size w w' := by
  by_cases h : putOk n k = true
  · have hv := putB_yes n k h
    obtain ⟨h1, h2, h3, h4⟩ := of_decide_eq_true h
    obtain ⟨n, rfl⟩ := Int.eq_ofNat_of_zero_le h3
    obtain ⟨k, rfl⟩ := Int.eq_ofNat_of_zero_le (show 0 ≤ k by omega)
    rw [hv, Int.toNat_natCast, Int.toNat_natCast]
    refine s_PutWord_yes n k w (by omega) (by omega) ?_
    rw [Int.toNat_natCast] at h4
    have : ((256 ^ k : Nat) : Int) = 256 ^ k := by simp
    omega
  · have h : putOk n k = false := by simpa using h
    rw [putB_no n k h]
    exact (s_PutWord_no n k w h).mono fun _ _ ⟨he, hw⟩ => ⟨he, hw ▸ Below.refl _ _⟩
end Go.Proofs.Ytnelfadmcpacbaa
