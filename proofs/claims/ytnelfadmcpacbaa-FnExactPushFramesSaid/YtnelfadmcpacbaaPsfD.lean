/- The law's helpers at lists of frames: their sizes counted. -/
import Derived.Test.YtnelfadmcpacbaaPsfC
import Derived.Deep.DeepCutAuto
namespace Go.Proofs.Ytnelfadmcpacbaa
open Go.RowKit Sat
set_option linter.unusedVariables false
set_option linter.unusedSimpArgs false
attribute [local go_sem ↓] Go.wp_at_zero Go.wp_at_succ

/-- the slice of length n at A, wherever it begins, reads as the frames l -/
def RFo (w : World) (A : Option Addr) (n : Nat) (l : List Fr4) : Prop := l.length = n ∧ (0 < n → ∃ g off, A = some ⟨g, off, none⟩ ∧ g < w.heap.size ∧ ∀ j, j < n * 4 → w.cell? ⟨g, off + j, none⟩ = (Frs l)[j]?)
theorem RFo.below {w w' : World} {A : Option Addr} {n : Nat} {l : List Fr4} (h : RFo w A n l) (hb : Below w.heap.size w w') : RFo w' A n l :=
  ⟨h.1, fun hp => by
    obtain ⟨g, off, e, hlt, hc⟩ := h.2 hp
    exact ⟨g, off, e, Nat.lt_of_lt_of_le hlt hb.size, fun j hj => (hb.cell (p := ⟨g, off + j, none⟩) hlt).trans (hc j hj)⟩⟩
theorem RFo.at {w : World} {A : Option Addr} {m : Nat} {l : List Fr4} (h : RFo w A m l) {k : Nat} (hk : k < m) : ∃ g off, A = some ⟨g, off, none⟩ ∧ g < w.heap.size ∧ w.cell? ⟨g, off + k * 4, none⟩ = some (.int .i64 (l.getD k (0, 0, 0, ⟨#[]⟩)).1) ∧ w.cell? ⟨g, off + k * 4 + 1, none⟩ = some (.int .i64 (l.getD k (0, 0, 0, ⟨#[]⟩)).2.1) ∧ w.cell? ⟨g, off + k * 4 + 2, none⟩ = some (.int .i64 (l.getD k (0, 0, 0, ⟨#[]⟩)).2.2.1) ∧ w.cell? ⟨g, off + k * 4 + 3, none⟩ = some (.string (l.getD k (0, 0, 0, ⟨#[]⟩)).2.2.2) := by
  obtain ⟨g, off, e, hg, hc⟩ := h.2 (by omega)
  obtain ⟨p0, p1, p2, p3⟩ := Frs_at l k (by rw [h.1]; exact hk)
  exact ⟨g, off, e, hg, (hc _ (by omega)).trans p0, (hc (k * 4 + 1) (by omega)).trans p1, (hc (k * 4 + 2) (by omega)).trans p2, (hc (k * 4 + 3) (by omega)).trans p3⟩
/-- the texts of the first k frames together -/
def szTo (l : List Fr4) : Nat → Nat
  | 0 => 0
  | k + 1 => szTo l k + (l.getD k (0, 0, 0, ⟨#[]⟩)).2.2.2.size
theorem szTo_mono (l : List Fr4) {j k : Nat} (h : j ≤ k) : szTo l j ≤ szTo l k := by
  induction h with
  | refl => exact Nat.le_refl _
  | step _ ih => exact Nat.le_trans ih (Nat.le_add_right _ _)
theorem szTo_at (l : List Fr4) {n j : Nat} {x : Fr4} (hn : l.length = n) (h : l[j]? = some x) : x.2.2.2.size ≤ szTo l n := by
  have hlt : j < l.length := (List.getElem?_eq_some_iff.1 h).1
  have := szTo_mono l (show j + 1 ≤ n by omega)
  have e : l.getD j (0, 0, 0, ⟨#[]⟩) = x := by rw [List.getD_eq_getElem?_getD, h]; rfl
  rw [szTo, e] at this
  omega
def szV (lf : Int) (n s : Nat) : Int := if (n : Int) + s ≤ lf then lf - n - s else -1
set_option maxHeartbeats 3200000 in
theorem l_szFrameS (A : Option Addr) (n c : Nat) (l : List Fr4) (lf : Int) (w : World) (h : RFo w A n l) (hn0 : 0 ≤ lf) (hn : lf ≤ 1048576) (hnl : n ≤ 9223372036854775807) (hd : ∀ (j : Nat), (l.getD j (0, 0, 0, ⟨#[]⟩)).2.2.2.size ≤ 9223372036854775807) :
    Calls Try.prog 39 #[.slice A n c, .int .i64 lf] w fun e w' => e = .returned (.int .i64 (szV lf n (szTo l n))) ∧ Below w.heap.size w w' := by
  have H := hide h
  have HD := hide hd
  clear h hd
  go_enter Try.func39, Try.ntmps39
  by_cases hbig : lf < (n : Int)
  · have d1 : decide (lf - (n : Int) < 0) = true := decide_eq_true (by omega)
    have HV : Hid (szV lf n (szTo l n) = -1) := if_neg (by omega)
    go_wp2
    go_ret
    exact ⟨by rw [HV.out]; rfl, Below.refl _ _⟩
  · have d1 : decide (lf - (n : Int) < 0) = false := decide_eq_false (by omega)
    go_wp2_with fail
    clear d1
    go_loopw [1, 5] (fun lv kv wr => ∃ k : Nat, k ≤ n ∧ kv = .int .i64 k ∧ lv = .int .i64 (lf - n - szTo l k) ∧ (0 : Int) ≤ lf - n - szTo l k ∧ Hid (Below w.heap.size w wr)) (fun _ kv _ => n - (intOf kv).toNat)
    case atStart => exact ⟨0, Nat.zero_le _, rfl, by simp [szTo], by simp [szTo]; omega, Below.refl _ _⟩
    case round =>
      obtain ⟨k, hk, rfl, rfl, hpos, HB⟩ := hrel
      by_cases hlt : k < n
      · obtain ⟨g, off, rfl, hg, x0, x1, x2, x3⟩ := (H.out.below HB.out).at hlt
        have hdz := HD.out k
        have hS : Hid (szTo l (k + 1) = szTo l k + (l.getD k (0, 0, 0, ⟨#[]⟩)).2.2.2.size) := rfl
        have hM := hide (szTo_mono l (show k + 1 ≤ n by omega))
        generalize l.getD k (0, 0, 0, ⟨#[]⟩) = p at *
        obtain ⟨fa, fb, fc, fd⟩ := p
        dsimp only at x0 x1 x2 x3 hdz hS
        by_cases hle : (fd.size : Int) ≤ lf - n - szTo l k
        · have d2 : decide (lf - (n : Int) - (szTo l k : Nat) - (fd.size : Int) < 0) = false := decide_eq_false (by omega)
          have HN : Hid (lf - (n : Int) - (szTo l k : Nat) - (fd.size : Int) = lf - n - (szTo l (k + 1) : Nat)) := by show _ = _; rw [hS.out]; omega
          have HP : Hid ((0 : Int) ≤ lf - n - (szTo l (k + 1) : Nat)) := by show _ ≤ _; rw [hS.out]; omega
          clear hS hM
          generalize szTo l k = sk at *
          go_wp2_with fail
          refine (l_szFrame_no _ _ _ _ _ _ hpos (by omega) hdz hle).mono ?_
          rintro e w1 ⟨rfl, hb⟩
          replace HB := hide (HB.out.trans (hb.mono HB.out.size))
          clear hb
          go_wp2_with fail
          go_roundw
          case rel => exact ⟨k + 1, by omega, by go_num, congrArg (Value.int .i64) HN.out, HP.out, HB⟩
          case measure => simp [intOf]; omega
        · have HV : Hid (szV lf n (szTo l n) = -1) := if_neg (by have := hM.out; rw [hS.out] at this; omega)
          clear hS hM
          generalize szTo l k = sk at *
          go_wp2_with fail
          refine (l_szFrame_big _ _ _ _ _ _ hpos (by omega) hdz (by omega)).mono ?_
          rintro e w1 ⟨rfl, hb⟩
          replace HB := hide (HB.out.trans (hb.mono HB.out.size))
          clear hb
          go_wp2_with fail
          go_ret
          exact ⟨by rw [HV.out]; rfl, HB.out⟩
      · obtain rfl : k = n := by omega
        have HV : Hid (szV lf k (szTo l k) = lf - k - szTo l k) := if_pos (by omega)
        go_wp2_with fail
        go_ret
        exact ⟨by rw [HV.out]; rfl, HB.out⟩
end Go.Proofs.Ytnelfadmcpacbaa
