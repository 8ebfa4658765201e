/- What the laws' helpers big and at return for a slice of bytes that came in. -/
import Derived.Test.YtimkjhjdddllcaaBase
namespace Go.Proofs.Ytimkjhjdddllcaa
open Go.RowKit Sat

def atI (l : List UInt8) (i : Nat) : Nat := if l.length = 0 then 0 else (l.getD ((i * 5 + 1) % l.length) 0).toNat
theorem atI_lt (l : List UInt8) (i : Nat) : atI l i < 256 := by
  unfold atI
  split
  · omega
  · exact UInt8.toNat_lt _
set_option maxHeartbeats 400000 in
theorem l_big_yes (a : Option Addr) (len cap : Nat) (w : World) (h : 1048576 < len) :
    Calls Try.prog 9 #[.slice a len cap] w fun e w' => e = .returned (.bool true) ∧ w = w' := by
  have hd : decide (1048576 < (len : Int)) = true := decide_eq_true (by omega)
  go_enter Try.func9, Try.ntmps9
  go_wp2
  go_ret
  exact ⟨rfl, rfl⟩
set_option maxHeartbeats 400000 in
theorem l_big_no (a : Option Addr) (len cap : Nat) (w : World) (h : len ≤ 1048576) :
    Calls Try.prog 9 #[.slice a len cap] w fun e w' => e = .returned (.bool false) ∧ w = w' := by
  have hd : decide (1048576 < (len : Int)) = false := decide_eq_false (by omega)
  go_enter Try.func9, Try.ntmps9
  go_wp2
  go_ret
  exact ⟨rfl, rfl⟩
set_option maxHeartbeats 400000 in
theorem l_at (a : Option Addr) (len cap : Nat) (l : List UInt8) (B : Nat) (i : Int) (w : World) (h : IsBytes w B a len l) (hl : len ≤ 1048576) (h0 : 0 ≤ i) (h1 : i ≤ 1000000) :
    Calls Try.prog 13 #[.slice a len cap, .int .i64 i] w fun e w' => e = .returned (.int .i64 (atI l i.toNat)) ∧ w = w' := by
  obtain ⟨i, rfl⟩ := Int.eq_ofNat_of_zero_le h0
  by_cases hz : len = 0
  · subst hz
    have hl0 : l = [] := List.eq_nil_of_length_eq_zero h.1
    have H := hide (show atI l i = 0 by rw [hl0]; rfl)
    clear h hl0
    go_enter Try.func13, Try.ntmps13
    go_wp2
    go_ret
    exact ⟨ret_int (by rw [Int.toNat_natCast, H.out]; rfl), rfl⟩
  · obtain ⟨b, off, rfl, hb, hc⟩ := h.2.2 (by omega)
    have hmod : (i * 5 + 1) % len < len := Nat.mod_lt _ (by omega)
    have hcell := hc _ hmod
    have H := hide (show atI l i = (l.getD ((i * 5 + 1) % len) 0).toNat by unfold atI; rw [h.1, if_neg hz])
    have hby : (l.getD ((i * 5 + 1) % len) 0).toNat < 256 := UInt8.toNat_lt _
    have hm1 : (0 : Int) ≤ ((i : Int) * 5 + 1) % (len : Int) := Int.emod_nonneg _ (by omega)
    have hm2 : ((i : Int) * 5 + 1) % (len : Int) < (len : Int) := Int.emod_lt_of_pos _ (by omega)
    have hne : ((len : Int) == 0) = false := beq_eq_false_iff_ne.2 (by omega)
    generalize l.getD ((i * 5 + 1) % len) 0 = x at *
    clear h hc
    go_enter Try.func13, Try.ntmps13
    go_wp2
    go_ret
    exact ⟨ret_int (by rw [Int.toNat_natCast, H.out]), rfl⟩
end Go.Proofs.Ytimkjhjdddllcaa
