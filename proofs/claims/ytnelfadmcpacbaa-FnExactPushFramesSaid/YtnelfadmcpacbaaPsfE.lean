/- The law's toFrameS: the frames in memory of their own. -/
import Derived.Test.YtnelfadmcpacbaaPsfD
import Derived.Deep.DeepCutAuto
namespace Go.Proofs.Ytnelfadmcpacbaa
open Go.RowKit Sat
set_option linter.unusedVariables false
set_option linter.unusedSimpArgs false
attribute [local go_sem ↓] Go.wp_at_zero Go.wp_at_succ

theorem wpList_mkF {ops : Array Oper} {rest : List Oper} {o : Oper} {a : Act} {Q : Exit → Act → World → Prop} {w : World} (hg : o.guard = none) (l c : Operand) (hop : o.op = Op.makeSlice 45 l c)
    (L C : Int) (n : Nat) (hl : a.eval l = .int .i64 L) (hc : a.eval c = .int .i64 C) (hL : L = (n : Int)) (hC : C = (n : Int)) (hn : n ≤ 1048576)
    (hK : ∀ w' ys, w'.ownsRow w.heap.size 41 4 (.slice (some ⟨w.heap.size, 0, none⟩) n n) n ys → Below w.heap.size w w' → wpList Try.prog ops Q rest (a.put o.dst (.slice (some ⟨w.heap.size, 0, none⟩) n n)) w') :
    wpList Try.prog ops Q (o :: rest) a w := by
  obtain ⟨i0, hi, hz0, hz1, hz2⟩ := info_parts infoF
  refine wpList_make_full w hg l c 45 hop w.heap.size 41 i0 (.agg #[.int .i64 0, .int .i64 0, .int .i64 0, .string ⟨#[]⟩]) 4 Try.underlying45 hi hz0 hz1 .i64 .i64 L C n hl hc hL hC (by rw [hz2]; omega) (by unfold maxLen; omega) (Nat.le_refl _) ?_
  intro w' hown hgr
  exact hK w' _ hown (Below.grown (Below.refl _ w) hgr (Nat.le_refl _) (by simp))
def CpF (l : List Fr4) (k : Nat) (ys : List Value) : Prop := ∀ j, j < k * 4 → ys[j]? = (Frs l)[j]?
theorem CpF.succ {l : List Fr4} {k : Nat} {ys : List Value} {a b c : Int} {d : ByteArray} (h : CpF l k ys) (hy : ys.length = l.length * 4) (hk : k < l.length) (hp : l.getD k (0, 0, 0, ⟨#[]⟩) = (a, b, c, d)) : CpF l (k + 1) ((((ys.set (k * 4) (.int .i64 a)).set (k * 4 + 1) (.int .i64 b)).set (k * 4 + 2) (.int .i64 c)).set (k * 4 + 3) (.string d)) := by
  obtain ⟨p0, p1, p2, p3⟩ := Frs_at l k hk
  rw [hp] at p0 p1 p2 p3
  intro j hj
  simp only [List.getElem?_set, List.length_set]
  by_cases e3 : k * 4 + 3 = j
  · subst e3; rw [if_pos rfl, if_pos (by omega), p3]
  rw [if_neg e3]
  by_cases e2 : k * 4 + 2 = j
  · subst e2; rw [if_pos rfl, if_pos (by omega), p2]
  rw [if_neg e2]
  by_cases e1 : k * 4 + 1 = j
  · subst e1; rw [if_pos rfl, if_pos (by omega), p1]
  rw [if_neg e1]
  by_cases e0 : k * 4 = j
  · subst e0; rw [if_pos rfl, if_pos (by omega), p0]
  rw [if_neg e0]
  exact h j (by omega)
theorem CpF.full {l : List Fr4} {ys : List Value} (h : CpF l l.length ys) (hy : ys.length = l.length * 4) : ys = Frs l := by
  apply List.ext_getElem?
  intro j
  by_cases hj : j < l.length * 4
  · exact h j hj
  · rw [List.getElem?_eq_none (by omega), List.getElem?_eq_none (by rw [Frs_length]; omega)]
set_option maxHeartbeats 3200000 in
theorem l_toFrameS (A : Option Addr) (n c : Nat) (l : List Fr4) (w : World) (h : RFo w A n l) (hn : n ≤ 1048576) :
    Calls Try.prog 41 #[.slice A n c] w (MadeRow 41 4 n (Frs l) w) := by
  have HL := hide h.1
  have H := hide h
  clear h
  go_enter Try.func41, Try.ntmps41
  go_wp2_with (at_make; refine wpList_mkF rfl _ _ rfl _ _ n rfl rfl (by omega) (by omega) (by omega) ?_; intro w1 ys0 hown hb)
  go_loopw [4] (fun iv wr => ∃ (k : Nat) (ys : List Value), k ≤ n ∧ iv = .int .i64 k ∧ Hid (wr.ownsRow w.heap.size 41 4 (.slice (some ⟨w.heap.size, 0, none⟩) n n) n ys) ∧ Hid (CpF l k ys) ∧ Hid (Below w.heap.size w wr)) (fun iv _ => n - (intOf iv).toNat)
  case atStart => exact ⟨0, ys0, Nat.zero_le _, rfl, hown, fun j hj => absurd hj (by omega), hb⟩
  case round =>
    clear hown hb
    obtain ⟨k, ys, hk, rfl, OW, HC, HB⟩ := hrel
    by_cases hlt : k < n
    · obtain ⟨g, off, rfl, hg, x0, x1, x2, x3⟩ := (H.out.below HB.out).at hlt
      obtain ⟨⟨fa, fb, fc, fd⟩, hfe⟩ : ∃ x, l.getD k (0, 0, 0, ⟨#[]⟩) = x := ⟨_, rfl⟩
      rw [hfe] at x0 x1 x2 x3
      dsimp only at x0 x1 x2 x3
      have hyl : ys.length = n * 4 := OW.out.1
      have HS := hide (HC.out.succ (by rw [hyl, HL.out]) (by rw [HL.out]; exact hlt) hfe)
      clear hfe
      go_wp2_with fail
      refine (l_toFrame _ _ _ _ _).mono ?_
      rintro e w2 ⟨rfl, hb⟩
      clear x0 x1 x2 x3
      have hown := own_below OW.out hb
      have c0 := hown.cellAt (k * 4) (by omega)
      have c1 := hown.cellAt (k * 4 + 1) (by omega)
      have c2 := hown.cellAt (k * 4 + 2) (by omega)
      have c3 := hown.cellAt (k * 4 + 3) (by omega)
      have f0 := hown.frozenAt (k * 4)
      have f1 := hown.frozenAt (k * 4 + 1)
      have f2 := hown.frozenAt (k * 4 + 2)
      have f3 := hown.frozenAt (k * 4 + 3)
      rw [List.getElem?_eq_getElem (by omega)] at c0 c1 c2 c3
      have OW2 := hide ((((hown.stored (k * 4) (.int .i64 fa)).1.stored (k * 4 + 1) (.int .i64 fb)).1.stored (k * 4 + 2) (.int .i64 fc)).1.stored (k * 4 + 3) (.string fd)).1
      replace HB := hide (HB.out.trans (hb.mono HB.out.size))
      clear hb hown OW
      generalize ys[k * 4]'(by omega) = y0 at *
      generalize ys[k * 4 + 1]'(by omega) = y1 at *
      generalize ys[k * 4 + 2]'(by omega) = y2 at *
      generalize ys[k * 4 + 3]'(by omega) = y3 at *
      go_wp2_with fail
      go_roundw
      case rel => exact ⟨k + 1, _, by omega, by go_num, OW2, HS, (((HB.out.setCell (p := ⟨w.heap.size, k * 4, none⟩) (Nat.le_refl _) _).setCell (p := ⟨w.heap.size, k * 4 + 1, none⟩) (Nat.le_refl _) _).setCell (p := ⟨w.heap.size, k * 4 + 2, none⟩) (Nat.le_refl _) _).setCell (p := ⟨w.heap.size, k * 4 + 3, none⟩) (Nat.le_refl _) _⟩
      case measure => simp [intOf]; omega
    · obtain rfl : k = n := by omega
      go_wp2_with fail
      go_ret
      exact ⟨_, rfl, by have e := CpF.full (by rw [HL.out]; exact HC.out) (by rw [HL.out]; exact OW.out.1); rw [← e]; exact OW.out, HB.out⟩
end Go.Proofs.Ytnelfadmcpacbaa
