/- eqPacketS, markPacketS, heldPacketS at rows of up to 2^27 packets (OwnP has them up to 2^20). -/
import Derived.Test.YtnelfadmcpacbaaOwnP
import Derived.Deep.QuietTactic
import Derived.BigQuiet
import Derived.Deep.RegionHeld3
namespace Go.Proofs.Ytnelfadmcpacbaa
open Go.RowKit Sat
set_option linter.unusedVariables false
set_option linter.unusedSimpArgs false
attribute [local go_sem ↓] Go.wp_at_zero Go.wp_at_succ

set_option maxHeartbeats 800000 in
theorem l_eqPacketS_w (B1 B2 : Nat) (v1 v2 : Value) (l : List Pk3) (w : World) (h1 : w.ownsRow B1 36 3 v1 l.length (Pks l)) (h2 : w.ownsRow B2 36 3 v2 l.length (Pks l)) (hl : l.length ≤ 134217728) :
    Calls Try.prog 36 #[v1, v2] w fun e w' => e = .returned (.bool true) ∧ Below w.heap.size w w' := by
  obtain ⟨A1, c1, rfl⟩ := own_form h1
  obtain ⟨A2, c2, rfl⟩ := own_form h2
  have H1 := hide h1
  have H2 := hide h2
  clear h1 h2
  go_enter Try.func36, Try.ntmps36
  go_wp2
  go_loopw [5] (fun iv wr => ∃ k : Nat, k ≤ l.length ∧ iv = .int .i64 k ∧ Below w.heap.size w wr) (fun iv _ => l.length - (intOf iv).toNat)
  case atStart => exact ⟨0, Nat.zero_le _, rfl, Below.refl _ _⟩
  case round =>
    obtain ⟨k, hk, rfl, hb⟩ := hrel
    by_cases hlt : k < l.length
    · obtain ⟨g1, rfl, hc1, -, -, hg1⟩ := own_cells (own_below H1.out hb) (by omega)
      obtain ⟨g2, rfl, hc2, -, -, hg2⟩ := own_cells (own_below H2.out hb) (by omega)
      obtain ⟨p0, p1, p2⟩ := Pks_at l k hlt
      have x0 := (hc1 (k * 3) (by omega)).trans p0
      have x1 := (hc1 (k * 3 + 1) (by omega)).trans p1
      have x2 := (hc1 (k * 3 + 2) (by omega)).trans p2
      have y0 := (hc2 (k * 3) (by omega)).trans p0
      have y1 := (hc2 (k * 3 + 1) (by omega)).trans p1
      have y2 := (hc2 (k * 3 + 2) (by omega)).trans p2
      clear hc1 hc2 p0 p1 p2
      generalize l.getD k (0, 0, ⟨#[]⟩) = p at *
      obtain ⟨a, q, d⟩ := p
      have HB := hide hb
      clear hb
      go_wp2_with fail
      go_region_held3 (fun w' => w'.cell? ⟨g1, k * 3, none⟩ = some (.int .i64 a) ∧ w'.cell? ⟨g1, k * 3 + 1, none⟩ = some (.int .i64 q) ∧ w'.cell? ⟨g1, k * 3 + 2, none⟩ = some (.string d) ∧ w'.cell? ⟨g2, k * 3, none⟩ = some (.int .i64 a) ∧ w'.cell? ⟨g2, k * 3 + 1, none⟩ = some (.int .i64 q) ∧ w'.cell? ⟨g2, k * 3 + 2, none⟩ = some (.string d)) (first | go_keep | exact ⟨(hb1.cell (p := ⟨g1, k * 3, none⟩) hg1).trans x0, (hb1.cell (p := ⟨g1, k * 3 + 1, none⟩) hg1).trans x1, (hb1.cell (p := ⟨g1, k * 3 + 2, none⟩) hg1).trans x2, (hb1.cell (p := ⟨g2, k * 3, none⟩) hg2).trans y0, (hb1.cell (p := ⟨g2, k * 3 + 1, none⟩) hg2).trans y1, (hb1.cell (p := ⟨g2, k * 3 + 2, none⟩) hg2).trans y2⟩) (first | (go_at_call 75; refine (l_eqPacket a q d _).mono ?_; rintro e w1 ⟨rfl, hb1⟩))
      all_goals
        go_wp2
        go_roundw
        case rel => exact ⟨k + 1, by omega, by go_num, HB.out.trans ((below_undrew hb1).mono HB.out.size)⟩
        case measure => simp [intOf]; omega
    · obtain rfl : k = l.length := by omega
      go_wp2
      go_ret
      exact ⟨rfl, hb⟩
theorem l_markText_is_w (m : Nat) (v : Int) (w : World) (h : m ≤ 1073741824) (hv : v = (m : Int)) :
    Calls Try.prog 66 #[.int .i64 v] w fun e w' => e = .returned (.string (str (markL m))) ∧ Below w.heap.size w w' := by
  subst hv; exact l_markText m w (by omega)
set_option maxHeartbeats 1600000 in
theorem l_markPacketS_w (B n k : Nat) (v : Value) (xs : List Value) (w : World) (h : w.ownsRow B 36 3 v n xs) (hn : n ≤ 134217728) (hk : k ≤ 1048) (hB : B ≤ w.heap.size) :
    Calls Try.prog 37 #[v, .int .i64 k] w fun e w' => e = .returned (.int .i64 ((k + n * 3 : Nat) : Int)) ∧ w'.ownsRow B 36 3 v n (markRow pkTxt k (n * 3)) ∧ Below B w w' := by
  obtain ⟨A, c, rfl⟩ := own_form h
  have H := hide h
  clear h
  go_enter Try.func37, Try.ntmps37
  go_wp2
  go_loopw [1, 5] (fun kv iv wr => ∃ (j : Nat) (ys : List Value), j ≤ n ∧ kv = .int .i64 ((k + j * 3 : Nat) : Int) ∧ iv = .int .i64 j ∧ wr.ownsRow B 36 3 (.slice A n c) n ys ∧ Hid (MarkedTo pkTxt k (j * 3) ys) ∧ Below B w wr) (fun _ iv _ => n - (intOf iv).toNat)
  case atStart => exact ⟨0, xs, Nat.zero_le _, rfl, rfl, H.out, MarkedTo.zero _ _ _, Below.refl _ _⟩
  case round =>
    clear H
    obtain ⟨j, ys, hj, rfl, rfl, hown, hmk, hb⟩ := hrel
    have hly : ys.length = n * 3 := by have := hown.1; omega
    by_cases hlt : j < n
    · have hsz := hb.size
      obtain ⟨g, rfl, hc, hf, hBg, hgl⟩ := own_cells hown (by omega)
      have HM := hide (((hmk.out.set (by omega)).set (by rw [List.length_set]; omega)).set (by rw [List.length_set, List.length_set]; omega))
      rw [pk_m0, pk_m1, pk_m2] at HM
      have k0 := hc (j * 3) (by omega)
      have k1 := hc (j * 3 + 1) (by omega)
      rw [List.getElem?_eq_getElem (by omega)] at k0 k1
      have f0 := hf (j * 3)
      have f1 := hf (j * 3 + 1)
      have hNk : k + j * 3 ≤ 1073740000 := by omega
      generalize hN : k + j * 3 = N at *
      have H2 := hide ((hown.stored (j * 3) (.int .i64 (N : Int))).1.stored (j * 3 + 1) (.int .i64 ((N : Int) + 1))).1
      have HB := hide ((hb.setCell (p := ⟨g, j * 3, none⟩) hBg (.int .i64 (N : Int))).setCell (p := ⟨g, j * 3 + 1, none⟩) hBg (.int .i64 ((N : Int) + 1)))
      clear hc hf hown hmk hb
      generalize ys[j * 3] = y0 at *
      generalize ys[j * 3 + 1] = y1 at *
      go_wp2_with fail
      refine (l_markText_is_w (N + 2) _ _ (by omega) (by omega)).mono ?_
      rintro e w1 ⟨rfl, hb1⟩
      have hz : wr.heap.size ≤ w1.heap.size := by have := hb1.size; simpa [World.setCell] using this
      have hown := own_below H2.out hb1
      have HB1 := hide (HB.out.trans (hb1.mono (by simp [World.setCell]; omega)))
      obtain ⟨g', hg', hc, hf, -, -⟩ := own_cells hown (by omega)
      injection hg' with hg'
      injection hg' with hg' _
      subst hg'
      have k2 := hc (j * 3 + 2) (by omega)
      rw [List.getElem?_eq_getElem (by simp; omega)] at k2
      have f2 := hf (j * 3 + 2)
      have hst := hide (hown.stored (j * 3 + 2) (.string (str (markL (N + 2))))).1
      clear hc hf hown H2 HB hb1 k0 k1 f0 f1
      go_wp2
      go_roundw
      case rel => exact ⟨j + 1, _, by omega, by go_num, by go_num, hst.out, by rw [show (j + 1) * 3 = j * 3 + 1 + 1 + 1 by omega]; exact HM.out, HB1.out.setCell hBg _⟩
      case measure => simp [intOf]; omega
    · obtain rfl : j = n := by omega
      have hfull := hmk.out.full hly
      subst hfull
      have HO := hide hown
      clear hown hmk hly
      go_wp2
      go_ret
      exact ⟨rfl, HO.out, hb⟩
set_option maxHeartbeats 1600000 in
theorem l_heldPacketS_w (B n k : Nat) (v : Value) (w : World) (h : w.ownsRow B 36 3 v n (markRow pkTxt k (n * 3))) (hn : n ≤ 134217728) (hk : k ≤ 1048) :
    Calls Try.prog 38 #[v, .int .i64 k] w fun e w' => e = .returned (.int .i64 ((k + n * 3 : Nat) : Int)) ∧ Below w.heap.size w w' := by
  obtain ⟨A, c, rfl⟩ := own_form h
  have H := hide h
  clear h
  go_enter Try.func38, Try.ntmps38
  go_wp2
  go_loopw [1, 5] (fun kv iv wr => ∃ j : Nat, j ≤ n ∧ kv = .int .i64 ((k + j * 3 : Nat) : Int) ∧ iv = .int .i64 j ∧ Below w.heap.size w wr) (fun _ iv _ => n - (intOf iv).toNat)
  case atStart => exact ⟨0, Nat.zero_le _, rfl, rfl, Below.refl _ _⟩
  case round =>
    obtain ⟨j, hj, rfl, rfl, hb⟩ := hrel
    by_cases hlt : j < n
    · obtain ⟨g, rfl, hc, -, -, hgl⟩ := own_cells H.out (by omega)
      have k0 := hc (j * 3) (by omega)
      have k1 := hc (j * 3 + 1) (by omega)
      have k2 := hc (j * 3 + 2) (by omega)
      rw [markRow_at _ _ _ _ (by omega), pk_m0] at k0
      rw [markRow_at _ _ _ _ (by omega), pk_m1] at k1
      rw [markRow_at _ _ _ _ (by omega), pk_m2] at k2
      replace k0 := (hb.cell (p := ⟨g, j * 3, none⟩) hgl).trans k0
      replace k1 := (hb.cell (p := ⟨g, j * 3 + 1, none⟩) hgl).trans k1
      replace k2 := (hb.cell (p := ⟨g, j * 3 + 2, none⟩) hgl).trans k2
      have hsz := hb.size
      clear hc H
      have hNk : k + j * 3 ≤ 1073740000 := by omega
      generalize hN : k + j * 3 = N at *
      have hgw : g < wr.heap.size := by omega
      go_wp2_with fail
      go_region_held3 (fun w' => w'.cell? ⟨g, j * 3 + 2, none⟩ = some (.string (str (markL (N + 2))))) (first | go_keep | exact (hb1.cell (p := ⟨g, j * 3 + 2, none⟩) hgw).trans k2) (first | (go_at_call 66; refine (l_markText_is_w (N + 2) _ _ (by omega) (by omega)).mono ?_; rintro e w1 ⟨rfl, hb1⟩))
      all_goals
        go_wp2
        go_roundw
        case rel => exact ⟨j + 1, by omega, by go_num, by go_num, hb.trans (below_undrew (hb1.mono hsz))⟩
        case measure => simp [intOf]; omega
    · obtain rfl : j = n := by omega
      go_wp2
      go_ret
      exact ⟨rfl, hb⟩
end Go.Proofs.Ytnelfadmcpacbaa
