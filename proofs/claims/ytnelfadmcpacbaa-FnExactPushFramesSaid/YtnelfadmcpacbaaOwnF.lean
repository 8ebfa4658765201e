/- Rows of frames of the call's own: comparison, marks, and that the marks are held. -/
import Derived.Test.YtnelfadmcpacbaaTksA
import Derived.Test.YtnelfadmcpacbaaPckF
import Derived.Deep.QuietTactic
import Derived.BigQuiet
import Derived.Deep.RegionHeld3
namespace Go.Proofs.Ytnelfadmcpacbaa
open Go.RowKit Sat
set_option linter.unusedVariables false
set_option linter.unusedSimpArgs false
attribute [local go_sem ↓] Go.wp_at_zero Go.wp_at_succ

def frTxt (j : Nat) : Bool := decide (j % 4 = 3)
theorem Frs_at (l : List Fr4) : ∀ k, k < l.length → (Frs l)[k * 4]? = some (.int .i64 (l.getD k (0, 0, 0, ⟨#[]⟩)).1) ∧ (Frs l)[k * 4 + 1]? = some (.int .i64 (l.getD k (0, 0, 0, ⟨#[]⟩)).2.1) ∧ (Frs l)[k * 4 + 2]? = some (.int .i64 (l.getD k (0, 0, 0, ⟨#[]⟩)).2.2.1) ∧ (Frs l)[k * 4 + 3]? = some (.string (l.getD k (0, 0, 0, ⟨#[]⟩)).2.2.2) := by
  induction l with
  | nil => intro k hk; simp at hk
  | cons p l ih =>
    intro k hk
    have e : Frs (p :: l) = [.int .i64 p.1, .int .i64 p.2.1, .int .i64 p.2.2.1, .string p.2.2.2] ++ Frs l := by simp [Frs]
    cases k with
    | zero => rw [e]; exact ⟨rfl, rfl, rfl, rfl⟩
    | succ k =>
      have := ih k (by simpa using hk)
      rw [e, List.getElem?_append_right (by simp; omega), List.getElem?_append_right (by simp; omega), List.getElem?_append_right (by simp; omega), List.getElem?_append_right (by simp; omega)]
      have q0 : (k + 1) * 4 - [Value.int .i64 p.1, .int .i64 p.2.1, .int .i64 p.2.2.1, .string p.2.2.2].length = k * 4 := by simp; omega
      have q1 : (k + 1) * 4 + 1 - [Value.int .i64 p.1, .int .i64 p.2.1, .int .i64 p.2.2.1, .string p.2.2.2].length = k * 4 + 1 := by simp; omega
      have q2 : (k + 1) * 4 + 2 - [Value.int .i64 p.1, .int .i64 p.2.1, .int .i64 p.2.2.1, .string p.2.2.2].length = k * 4 + 2 := by simp; omega
      have q3 : (k + 1) * 4 + 3 - [Value.int .i64 p.1, .int .i64 p.2.1, .int .i64 p.2.2.1, .string p.2.2.2].length = k * 4 + 3 := by simp; omega
      rw [q0, q1, q2, q3]
      exact this
set_option maxHeartbeats 800000 in
theorem l_eqFrameS (B1 B2 : Nat) (v1 v2 : Value) (l : List Fr4) (w : World) (h1 : w.ownsRow B1 41 4 v1 l.length (Frs l)) (h2 : w.ownsRow B2 41 4 v2 l.length (Frs l)) (hl : l.length ≤ 1048576) :
    Calls Try.prog 26 #[v1, v2] w fun e w' => e = .returned (.bool true) ∧ Below w.heap.size w w' := by
  obtain ⟨A1, c1, rfl⟩ := own_form h1
  obtain ⟨A2, c2, rfl⟩ := own_form h2
  have H1 := hide h1
  have H2 := hide h2
  clear h1 h2
  go_enter Try.func26, Try.ntmps26
  go_wp2
  go_loopw [5] (fun iv wr => ∃ k : Nat, k ≤ l.length ∧ iv = .int .i64 k ∧ Below w.heap.size w wr) (fun iv _ => l.length - (intOf iv).toNat)
  case atStart => exact ⟨0, Nat.zero_le _, rfl, Below.refl _ _⟩
  case round =>
    obtain ⟨k, hk, rfl, hb⟩ := hrel
    by_cases hlt : k < l.length
    · obtain ⟨g1, rfl, hc1, -, -, hg1⟩ := own_cells (own_below H1.out hb) (by omega)
      obtain ⟨g2, rfl, hc2, -, -, hg2⟩ := own_cells (own_below H2.out hb) (by omega)
      obtain ⟨p0, p1, p2, p3⟩ := Frs_at l k hlt
      have x0 := (hc1 (k * 4) (by omega)).trans p0
      have x1 := (hc1 (k * 4 + 1) (by omega)).trans p1
      have x2 := (hc1 (k * 4 + 2) (by omega)).trans p2
      have x3 := (hc1 (k * 4 + 3) (by omega)).trans p3
      have y0 := (hc2 (k * 4) (by omega)).trans p0
      have y1 := (hc2 (k * 4 + 1) (by omega)).trans p1
      have y2 := (hc2 (k * 4 + 2) (by omega)).trans p2
      have y3 := (hc2 (k * 4 + 3) (by omega)).trans p3
      clear hc1 hc2 p0 p1 p2 p3
      generalize l.getD k (0, 0, 0, ⟨#[]⟩) = p at *
      obtain ⟨a, q, u, d⟩ := p
      have HB := hide hb
      clear hb
      go_wp2_with fail
      go_region_held3 (fun w' => w'.cell? ⟨g1, k * 4, none⟩ = some (.int .i64 a) ∧ w'.cell? ⟨g1, k * 4 + 1, none⟩ = some (.int .i64 q) ∧ w'.cell? ⟨g1, k * 4 + 2, none⟩ = some (.int .i64 u) ∧ w'.cell? ⟨g1, k * 4 + 3, none⟩ = some (.string d) ∧ w'.cell? ⟨g2, k * 4, none⟩ = some (.int .i64 a) ∧ w'.cell? ⟨g2, k * 4 + 1, none⟩ = some (.int .i64 q) ∧ w'.cell? ⟨g2, k * 4 + 2, none⟩ = some (.int .i64 u) ∧ w'.cell? ⟨g2, k * 4 + 3, none⟩ = some (.string d)) (first | go_keep | exact ⟨(hb1.cell (p := ⟨g1, k * 4, none⟩) hg1).trans x0, (hb1.cell (p := ⟨g1, k * 4 + 1, none⟩) hg1).trans x1, (hb1.cell (p := ⟨g1, k * 4 + 2, none⟩) hg1).trans x2, (hb1.cell (p := ⟨g1, k * 4 + 3, none⟩) hg1).trans x3, (hb1.cell (p := ⟨g2, k * 4, none⟩) hg2).trans y0, (hb1.cell (p := ⟨g2, k * 4 + 1, none⟩) hg2).trans y1, (hb1.cell (p := ⟨g2, k * 4 + 2, none⟩) hg2).trans y2, (hb1.cell (p := ⟨g2, k * 4 + 3, none⟩) hg2).trans y3⟩) (first | (go_at_call 23; refine (l_eqFrame a q u d _).mono ?_; rintro e w1 ⟨rfl, hb1⟩))
      all_goals
        go_wp2
        go_roundw
        case rel => exact ⟨k + 1, by omega, by go_num, HB.out.trans ((below_undrew hb1).mono HB.out.size)⟩
        case measure => simp [intOf]; omega
    · obtain rfl : k = l.length := by omega
      go_wp2
      go_ret
      exact ⟨rfl, hb⟩
theorem l_markText_isF (m : Nat) (v : Int) (w : World) (h : m ≤ 8388608) (hv : v = (m : Int)) :
    Calls Try.prog 66 #[.int .i64 v] w fun e w' => e = .returned (.string (str (markL m))) ∧ Below w.heap.size w w' := by
  subst hv; exact l_markText m w (by omega)
theorem fr_m0 (k j : Nat) : markV frTxt k (j * 4) = .int .i64 ((k + j * 4 : Nat) : Int) := by unfold markV frTxt; rw [decide_eq_false (by omega)]; rfl
theorem fr_m1 (k j : Nat) : markV frTxt k (j * 4 + 1) = .int .i64 (((k + j * 4 : Nat) : Int) + 1) := by unfold markV frTxt; rw [decide_eq_false (by omega)]; simp; omega
theorem fr_m2 (k j : Nat) : markV frTxt k (j * 4 + 2) = .int .i64 (((k + j * 4 : Nat) : Int) + 1 + 1) := by unfold markV frTxt; rw [decide_eq_false (by omega)]; simp; omega
theorem fr_m3 (k j : Nat) : markV frTxt k (j * 4 + 3) = .string (str (markL (k + j * 4 + 3))) := by unfold markV frTxt; rw [decide_eq_true (by omega)]; rfl
set_option maxHeartbeats 3200000 in
theorem l_markFrameS (B n k : Nat) (v : Value) (xs : List Value) (w : World) (h : w.ownsRow B 41 4 v n xs) (hn : n ≤ 1048576) (hk : k ≤ 1048577) (hB : B ≤ w.heap.size) :
    Calls Try.prog 27 #[v, .int .i64 k] w fun e w' => e = .returned (.int .i64 ((k + n * 4 : Nat) : Int)) ∧ w'.ownsRow B 41 4 v n (markRow frTxt k (n * 4)) ∧ Below B w w' ∧ SameBut v w w' := by
  obtain ⟨A, c, rfl⟩ := own_form h
  have H := hide h
  clear h
  go_enter Try.func27, Try.ntmps27
  go_wp2
  go_loopw [1, 5] (fun kv iv wr => ∃ (j : Nat) (ys : List Value), j ≤ n ∧ kv = .int .i64 ((k + j * 4 : Nat) : Int) ∧ iv = .int .i64 j ∧ wr.ownsRow B 41 4 (.slice A n c) n ys ∧ Hid (MarkedTo frTxt k (j * 4) ys) ∧ Below B w wr ∧ Hid (SameBut (.slice A n c) w wr)) (fun _ iv _ => n - (intOf iv).toNat)
  case atStart => exact ⟨0, xs, Nat.zero_le _, rfl, rfl, H.out, MarkedTo.zero _ _ _, Below.refl _ _, same_refl _ _⟩
  case round =>
    clear H
    obtain ⟨j, ys, hj, rfl, rfl, hown, hmk, hb, HS⟩ := hrel
    have hly : ys.length = n * 4 := by have := hown.1; omega
    by_cases hlt : j < n
    · have hsz := hb.size
      obtain ⟨g, rfl, hc, hf, hBg, hgl⟩ := own_cells hown (by omega)
      have HM := hide ((((hmk.out.set (by omega)).set (by rw [List.length_set]; omega)).set (by rw [List.length_set, List.length_set]; omega)).set (by rw [List.length_set, List.length_set, List.length_set]; omega))
      rw [fr_m0, fr_m1, fr_m2, fr_m3] at HM
      have k0 := hc (j * 4) (by omega)
      have k1 := hc (j * 4 + 1) (by omega)
      have k2 := hc (j * 4 + 2) (by omega)
      rw [List.getElem?_eq_getElem (by omega)] at k0 k1 k2
      have f0 := hf (j * 4)
      have f1 := hf (j * 4 + 1)
      have f2 := hf (j * 4 + 2)
      have hNk : k + j * 4 ≤ 6000000 := by omega
      generalize hN : k + j * 4 = N at *
      have H2 := hide (((hown.stored (j * 4) (.int .i64 (N : Int))).1.stored (j * 4 + 1) (.int .i64 ((N : Int) + 1))).1.stored (j * 4 + 2) (.int .i64 ((N : Int) + 1 + 1))).1
      have HB := hide (((hb.setCell (p := ⟨g, j * 4, none⟩) hBg (.int .i64 (N : Int))).setCell (p := ⟨g, j * 4 + 1, none⟩) hBg (.int .i64 ((N : Int) + 1))).setCell (p := ⟨g, j * 4 + 2, none⟩) hBg (.int .i64 ((N : Int) + 1 + 1)))
      replace HS := hide (same_set (j := j * 4 + 2) (u := .int .i64 ((N : Int) + 1 + 1)) (same_set (j := j * 4 + 1) (u := .int .i64 ((N : Int) + 1)) (same_set (j := j * 4) (u := .int .i64 (N : Int)) HS.out)))
      clear hc hf hown hmk hb
      generalize ys[j * 4] = y0 at *
      generalize ys[j * 4 + 1] = y1 at *
      generalize ys[j * 4 + 2] = y2 at *
      go_wp2_with fail
      refine (l_markText_isF (N + 3) _ _ (by omega) (by omega)).mono ?_
      rintro e w1 ⟨rfl, hb1⟩
      have hz : wr.heap.size ≤ w1.heap.size := by have := hb1.size; simpa [World.setCell] using this
      have hown := own_below H2.out hb1
      have HB1 := hide (HB.out.trans (hb1.mono (by simp [World.setCell]; omega)))
      have HS1 := hide (same_trans HS.out (same_of_below hb1) HB.out.size)
      obtain ⟨g', hg', hc, hf, -, -⟩ := own_cells hown (by omega)
      injection hg' with hg'
      injection hg' with hg' _
      subst hg'
      have k3 := hc (j * 4 + 3) (by omega)
      rw [List.getElem?_eq_getElem (by simp; omega)] at k3
      have f3 := hf (j * 4 + 3)
      have hst := hide (hown.stored (j * 4 + 3) (.string (str (markL (N + 3))))).1
      clear hc hf hown H2 HB hb1 k0 k1 k2 f0 f1 f2 HS
      go_wp2
      go_roundw
      case rel => exact ⟨j + 1, _, by omega, by go_num, by go_num, hst.out, by rw [show (j + 1) * 4 = j * 4 + 1 + 1 + 1 + 1 by omega]; exact HM.out, HB1.out.setCell hBg _, same_set HS1.out⟩
      case measure => simp [intOf]; omega
    · obtain rfl : j = n := by omega
      have hfull := hmk.out.full hly
      subst hfull
      have HO := hide hown
      clear hown hmk hly
      go_wp2
      go_ret
      exact ⟨rfl, HO.out, hb, HS.out⟩
set_option maxHeartbeats 3200000 in
theorem l_heldFrameS (B n k : Nat) (v : Value) (w : World) (h : w.ownsRow B 41 4 v n (markRow frTxt k (n * 4))) (hn : n ≤ 1048576) (hk : k ≤ 1048577) :
    Calls Try.prog 28 #[v, .int .i64 k] w fun e w' => e = .returned (.int .i64 ((k + n * 4 : Nat) : Int)) ∧ Below w.heap.size w w' := by
  obtain ⟨A, c, rfl⟩ := own_form h
  have H := hide h
  clear h
  go_enter Try.func28, Try.ntmps28
  go_wp2
  go_loopw [1, 5] (fun kv iv wr => ∃ j : Nat, j ≤ n ∧ kv = .int .i64 ((k + j * 4 : Nat) : Int) ∧ iv = .int .i64 j ∧ Below w.heap.size w wr) (fun _ iv _ => n - (intOf iv).toNat)
  case atStart => exact ⟨0, Nat.zero_le _, rfl, rfl, Below.refl _ _⟩
  case round =>
    obtain ⟨j, hj, rfl, rfl, hb⟩ := hrel
    by_cases hlt : j < n
    · obtain ⟨g, rfl, hc, -, -, hgl⟩ := own_cells H.out (by omega)
      have k0 := hc (j * 4) (by omega)
      have k1 := hc (j * 4 + 1) (by omega)
      have k2 := hc (j * 4 + 2) (by omega)
      have k3 := hc (j * 4 + 3) (by omega)
      rw [markRow_at _ _ _ _ (by omega), fr_m0] at k0
      rw [markRow_at _ _ _ _ (by omega), fr_m1] at k1
      rw [markRow_at _ _ _ _ (by omega), fr_m2] at k2
      rw [markRow_at _ _ _ _ (by omega), fr_m3] at k3
      replace k0 := (hb.cell (p := ⟨g, j * 4, none⟩) hgl).trans k0
      replace k1 := (hb.cell (p := ⟨g, j * 4 + 1, none⟩) hgl).trans k1
      replace k2 := (hb.cell (p := ⟨g, j * 4 + 2, none⟩) hgl).trans k2
      replace k3 := (hb.cell (p := ⟨g, j * 4 + 3, none⟩) hgl).trans k3
      have hsz := hb.size
      clear hc H
      have hNk : k + j * 4 ≤ 6000000 := by omega
      generalize hN : k + j * 4 = N at *
      have hgw : g < wr.heap.size := by omega
      go_wp2_with fail
      go_region_held3 (fun w' => w'.cell? ⟨g, j * 4 + 3, none⟩ = some (.string (str (markL (N + 3))))) (first | go_keep | exact (hb1.cell (p := ⟨g, j * 4 + 3, none⟩) hgw).trans k3) (first | (go_at_call 66; refine (l_markText_isF (N + 3) _ _ (by omega) (by omega)).mono ?_; rintro e w1 ⟨rfl, hb1⟩))
      all_goals
        go_wp2
        go_roundw
        case rel => exact ⟨j + 1, by omega, by go_num, by go_num, hb.trans (below_undrew (hb1.mono hsz))⟩
        case measure => simp [intOf]; omega
    · obtain rfl : j = n := by omega
      go_wp2
      go_ret
      exact ⟨rfl, hb⟩
end Go.Proofs.Ytnelfadmcpacbaa
