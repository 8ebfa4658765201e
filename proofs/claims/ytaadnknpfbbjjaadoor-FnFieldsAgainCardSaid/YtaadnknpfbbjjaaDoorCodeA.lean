/- What the laws' helpers big and at return for a slice of bytes that came in. -/
import Derived.Test.YtaadnknpfbbjjaaDoorBase
namespace Go.Proofs.YtaadnknpfbbjjaaDoor
open Go.RowKit Sat

def atI (l : List UInt8) (i : Nat) : Nat := if l.length = 0 then 0 else (l.getD ((i * 5 + 1) % l.length) 0).toNat
theorem atI_lt (l : List UInt8) (i : Nat) : atI l i < 256 := by
  unfold atI
  split
  · omega
  · exact UInt8.toNat_lt _
set_option maxHeartbeats 400000 in
theorem l_big_yes (a : Option Addr) (len cap : Nat) (w : World) (h : 1048576 < len) :
    Calls Tryd.prog 9 #[.slice a len cap] w fun e w' => e = .returned (.bool true) ∧ w = w' := by
  have hd : decide (1048576 < (len : Int)) = true := decide_eq_true (by omega)
  go_enter Tryd.func9, Tryd.ntmps9
  go_wp2
  go_ret
  exact ⟨rfl, rfl⟩
set_option maxHeartbeats 400000 in
theorem l_big_no (a : Option Addr) (len cap : Nat) (w : World) (h : len ≤ 1048576) :
    Calls Tryd.prog 9 #[.slice a len cap] w fun e w' => e = .returned (.bool false) ∧ w = w' := by
  have hd : decide (1048576 < (len : Int)) = false := decide_eq_false (by omega)
  go_enter Tryd.func9, Tryd.ntmps9
  go_wp2
  go_ret
  exact ⟨rfl, rfl⟩
end Go.Proofs.YtaadnknpfbbjjaaDoor
