/- What the program's FormatInt returns: the decimal text of every int, where the library's table of powers of ten holds what its initialiser lays. -/
import Derived.Test.YtaadnknpfbbjjaaDoorNumA
import Derived.Test.YtaadnknpfbbjjaaDoorShelf
import Derived.Lib.LaidTab
namespace Go.Proofs.YtaadnknpfbbjjaaDoor
open Go.RowKit Sat
set_option linter.unusedVariables false
set_option linter.unusedSimpArgs false

def Tab (w : World) : Prop := Lib.TabIs Tryd.prog w "internal/strconv.uint64pow10" .u64 Lib.pow10Tab
theorem Tab.below {w w' : World} (h : Tab w) (hb : Below w.heap.size w w') : Tab w' := by
  unfold Tab Lib.TabIs World.var? at *
  cases hg : Tryd.prog.globalNamed "internal/strconv.uint64pow10" with
  | none => simp [hg] at h
  | some g =>
    simp only [hg, Option.bind_some] at h ⊢
    have hlt : g < w.heap.size := by
      rcases Nat.lt_or_ge g w.heap.size with h' | h'
      · exact h'
      · rw [Array.getElem?_eq_none h'] at h; simp at h
    rw [hb.block g hlt]
    exact h
theorem digs_dec (f : Nat) : ∀ n, 0 < n → n < 10 ^ f → digs f n = Lib.decDigits n := by
  induction f with
  | zero => intro n h0 h1; simp at h1; omega
  | succ f ih =>
    intro n h0 h1
    rw [digs, if_neg (by omega)]
    by_cases hn : n < 10
    · rw [show n / 10 = 0 by omega, digs_zero, Lib.decDigits_one hn, show n % 10 = n by omega]; rfl
    · rw [ih (n / 10) (by omega) (by rw [Nat.pow_succ] at h1; omega)]
      conv => rhs; rw [Lib.decDigits]
      rw [dif_neg hn]
theorem itoa_fmt (n : Int) (h : n.natAbs < 10 ^ 64) : Lib.itoa n = fmtI n := by
  unfold Lib.itoa fmtI
  by_cases hn : n < 0
  · rw [if_pos hn, if_pos hn, digs_dec 64 _ (by omega) h]
  · rw [if_neg hn, if_neg hn]
    unfold fmtN
    by_cases h0 : n.toNat = 0
    · rw [if_pos h0, h0, Lib.decDigits_one (by decide)]; rfl
    · rw [if_neg h0, digs_dec 64 _ (by omega) (by omega)]
theorem below_grow (w : World) (k : Nat) (os : Array Obj) : Below w.heap.size w (Sort.grow (w.drewN k) os) :=
  ⟨rfl, rfl, rfl, by simp [Sort.grow, World.drewN], fun b hb => by
    show (w.heap ++ os)[b]? = _
    rw [Array.getElem?_append_left hb]⟩
set_option maxHeartbeats 800000 in
theorem i_FormatInt (n : Int) (w : World) (h0 : -9223372036854775808 ≤ n) (h1 : n ≤ 9223372036854775807) (ht : Tab w) :
    Calls Tryd.prog 8 #[.int .i64 n] w fun e w' => e = .returned (.string (str (fmtI n))) ∧ Below w.heap.size w w' := by
  have HT := hide ht
  clear ht
  go_enter Tryd.func8, Tryd.ntmps8
  go_wp2_with fail
  refine (Any.strconv_Itoa Tryd.laysItoa n h0 h1 _ HT.out).mono ?_
  rintro e w' ⟨rfl, k, os, rfl⟩
  go_wp2_with fail
  go_ret
  refine ⟨?_, below_grow w k os⟩
  rw [itoa_fmt n (by omega)]
  rfl
end Go.Proofs.YtaadnknpfbbjjaaDoor
