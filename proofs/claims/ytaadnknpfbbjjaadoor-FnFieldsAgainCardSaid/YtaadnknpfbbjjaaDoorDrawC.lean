/- What the reference's draws of numbers and of texts do: DrawFormatInt draws an int, DrawEncodeHex and DrawSplitFields a text that is not long; nothing but new blocks is turned. -/
import Derived.Test.YtaadnknpfbbjjaaDoorDrawB
namespace Go.Proofs.YtaadnknpfbbjjaaDoor
open Go.RowKit Sat
set_option linter.unusedVariables false
set_option linter.unusedSimpArgs false

theorem wrap_in (x : Int) : InI (wrap64 x) := by unfold wrap64 InI; omega
set_option maxHeartbeats 1600000 in
theorem s_DrawFormatInt (a : Option Addr) (len cap : Nat) (l : List UInt8) (w : World) (h : IsBytes w w.heap.size a len l) (hl : len ≤ 1048576) :
    Calls Tryd.prog 10 #[.slice a len cap] w fun e w' => (∃ x : Int, InI x ∧ e = .returned (.int .i64 x)) ∧ Below w.heap.size w w' := by
  go_enter Tryd.func10, Tryd.ntmps10
  go_wp2_with fail
  refine (s_New _ _ _ l _ h hl).mono ?_
  rintro e w1 ⟨rfl, hc, hb⟩
  have HC := hide hc
  have HB := hide hb
  have hz := hb.size
  clear hc hb h
  go_wp2_with fail
  refine (s_Once _ _ _ _ HC.out (by omega) (by omega)).mono ?_
  rintro e w2 ⟨o, rfl, hc, hg⟩
  have HC2 := hide hc
  have HG2 := hide hg
  clear hc hg
  cases o
  · go_wp2_with fail
    refine (s_Number _ _ _ HC2.out).mono ?_
    rintro e w3 ⟨x, hx, rfl, hc, hg⟩
    have HG3 := hide hg
    have HX := hide hx
    clear hc hg hx
    go_wp2_with fail
    go_ret
    exact ⟨⟨_, HX.out, rfl⟩, HB.out.trans (below_of_grown (grown_trans HG2.out HG3.out) (Nat.le_refl _) hz)⟩
  · go_wp2_with fail
    refine (s_Below _ _ _ _ HC2.out (by omega) (by omega)).mono ?_
    rintro e w3 ⟨x, hx, rfl, hc, hg⟩
    have HC3 := hide hc
    have HG3 := hide hg
    have hx0 := hx.1
    have hx1 : x < 1000000 := by have := hx.2; omega
    clear hc hg hx
    go_wp2_with fail
    refine (s_Below _ _ _ _ HC3.out (by omega) (by omega)).mono ?_
    rintro e w4 ⟨y, hy, rfl, hc, hg⟩
    have HG4 := hide hg
    have hy0 := hy.1
    have hy1 : y < 2000000 := by have := hy.2; omega
    clear hc hg hy
    go_wp2_with fail
    go_ret
    exact ⟨⟨_, wrap_in _, rfl⟩, HB.out.trans (below_of_grown (grown_trans (grown_trans HG2.out HG3.out) HG4.out) (Nat.le_refl _) hz)⟩
end Go.Proofs.YtaadnknpfbbjjaaDoor
