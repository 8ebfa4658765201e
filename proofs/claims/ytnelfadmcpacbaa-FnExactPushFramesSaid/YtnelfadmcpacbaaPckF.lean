/- The marks on a packer's starts: what they write, and that nothing else is written. -/
import Derived.Test.YtnelfadmcpacbaaPckB
namespace Go.Proofs.Ytnelfadmcpacbaa
open Go.RowKit Sat
set_option linter.unusedVariables false
set_option linter.unusedSimpArgs false

theorem same_refl (v : Value) (w : World) : SameBut v w w := fun _ _ _ => rfl
theorem same_trans {v : Value} {w w1 w2 : World} (h1 : SameBut v w w1) (h2 : SameBut v w1 w2) (hs : w.heap.size ≤ w1.heap.size) : SameBut v w w2 :=
  fun k hk hne => (h2 k (by omega) hne).trans (h1 k hk hne)
theorem same_of_below {v : Value} {w w' : World} (h : Below w.heap.size w w') : SameBut v w w' := fun k hk _ => h.block k hk
theorem same_drewN {v : Value} {w w' : World} (h : SameBut v w w') (m : Nat) : SameBut v w (w'.drewN m) := h
theorem same_set {w w' : World} {g n c : Nat} {j : Nat} {u : Value} (h : SameBut (.slice (some ⟨g, 0, none⟩) n c) w w') : SameBut (.slice (some ⟨g, 0, none⟩) n c) w (w'.setCell ⟨g, j, none⟩ u) := by
  intro k hk hne
  rw [Below.heap_setCell _ _ _ _ (by intro e; exact hne (by rw [e]; rfl))]
  exact h k hk hne
/-- a box that is not the row's block is kept -/
theorem Box.same {v : Value} {w w' : World} {g : Nat} {vs : List Value} (h : Box w g vs) (hs : SameBut v w w') (hz : w.heap.size ≤ w'.heap.size) (hne : v.ownBlock ≠ some g) : Box w' g vs := by
  have hb := hs g h.1 hne
  refine ⟨Nat.lt_of_lt_of_le h.1 hz, fun j hj => ?_, fun j hj => ?_⟩
  · rw [← h.2.1 j hj]; unfold World.cell?; rw [hb]
  · rw [← h.2.2 j hj]; unfold World.frozen?; rw [hb]
set_option maxHeartbeats 800000 in
theorem l_markIntS2 (B n k : Nat) (v : Value) (xs : List Value) (w : World) (h : w.ownsRow B 3 1 v n xs) (hn : n ≤ 1048576) (hk : k ≤ 1099511627776) :
    Calls Try.prog 64 #[v, .int .i64 k] w fun e w' => e = .returned (.int .i64 ((k + n : Nat) : Int)) ∧ w'.ownsRow B 3 1 v n (markRow noTxt k n) ∧ Below B w w' ∧ SameBut v w w' := by
  obtain ⟨A, c, rfl⟩ := own_form h
  have H := hide h
  clear h
  go_enter Try.func64, Try.ntmps64
  go_wp2
  go_loopw [1, 5] (fun kv iv wr => ∃ (j : Nat) (ys : List Value), j ≤ n ∧ kv = .int .i64 ((k + j : Nat) : Int) ∧ iv = .int .i64 j ∧ wr.ownsRow B 3 1 (.slice A n c) n ys ∧ Hid (MarkedTo noTxt k j ys) ∧ Below B w wr ∧ Hid (SameBut (.slice A n c) w wr)) (fun _ iv _ => n - (intOf iv).toNat)
  case atStart => exact ⟨0, xs, Nat.zero_le _, rfl, rfl, H.out, MarkedTo.zero _ _ _, Below.refl _ _, same_refl _ _⟩
  case round =>
    clear H
    obtain ⟨j, ys, hj, rfl, rfl, hown, hmk, hb, hsb⟩ := hrel
    have hly : ys.length = n := by have := hown.1; omega
    by_cases hlt : j < n
    · obtain ⟨g, rfl, hc, hf, hBg, -⟩ := own_cells hown (by omega)
      have k1 := hc j (by omega)
      rw [List.getElem?_eq_getElem (by omega)] at k1
      have f1 := hf j
      have hst := hide (hown.stored j (.int .i64 ((k + j : Nat) : Int))).1
      have hm2 := hide (hmk.out.set (by omega))
      clear hc hf hown hmk
      generalize ys[j] = y at *
      go_wp2
      go_roundw
      case rel => exact ⟨j + 1, _, by omega, by go_num, by go_num, hst.out, hm2.out, hb.setCell hBg _, same_set hsb.out⟩
      case measure => simp [intOf]; omega
    · obtain rfl : j = n := by omega
      have hfull := hmk.out.full hly
      subst hfull
      have HO := hide hown
      clear hown hmk hly
      go_wp2
      go_ret
      exact ⟨rfl, HO.out, hb, hsb.out⟩
set_option maxHeartbeats 800000 in
theorem l_markPacker (a b : Int) (r : ByteArray) (B n k : Nat) (v : Value) (xs : List Value) (w : World) (h : w.ownsRow B 3 1 v n xs) (hn : n ≤ 1048576) (hk : k ≤ 1099511627776) (hB : B ≤ w.heap.size) :
    Calls Try.prog 19 #[.agg #[.int .i64 a, .int .i64 b, .string r, v], .int .i64 k] w fun e w' => e = .returned (.int .i64 ((k + n : Nat) : Int)) ∧ w'.ownsRow B 3 1 v n (markRow noTxt k n) ∧ Below B w w' ∧ SameBut v w w' := by
  obtain ⟨A, c, rfl⟩ := own_form h
  have H := hide h
  clear h
  go_enter Try.func19, Try.ntmps19
  go_wp2_with fail
  refine (l_markIntS2 B n k _ xs _ (H.out.alloc _) hn hk).mono ?_
  rintro e w1 ⟨rfl, ho, hb, hs⟩
  have HO := hide ho
  have HB := hide (((Below.refl B w).alloc hB _).trans hb)
  have HS := hide (same_trans (same_of_below ((Below.refl w.heap.size w).alloc (Nat.le_refl _) _)) hs (by simp))
  clear ho hb hs
  go_wp2_with fail
  go_ret
  exact ⟨rfl, HO.out, HB.out, HS.out⟩
set_option maxHeartbeats 800000 in
theorem l_heldPacker (a b : Int) (r : ByteArray) (B n k : Nat) (v : Value) (w : World) (h : w.ownsRow B 3 1 v n (markRow noTxt k n)) (hn : n ≤ 1048576) (hk : k ≤ 1099511627776) :
    Calls Try.prog 20 #[.agg #[.int .i64 a, .int .i64 b, .string r, v], .int .i64 k] w fun e w' => e = .returned (.int .i64 ((k + n : Nat) : Int)) ∧ Below w.heap.size w w' := by
  obtain ⟨A, c, rfl⟩ := own_form h
  have H := hide h
  have d : decide (((k + n : Nat) : Int) < 0) = false := decide_eq_false (by omega)
  clear h
  go_enter Try.func20, Try.ntmps20
  go_wp2_with fail
  refine (l_heldIntS B n k _ _ (H.out.alloc _) hn hk).mono ?_
  rintro e w1 ⟨rfl, m, rfl⟩
  go_wp2_with fail
  go_ret
  exact ⟨rfl, below_drewN ((Below.refl _ _).alloc (Nat.le_refl _) _) _⟩
end Go.Proofs.Ytnelfadmcpacbaa
