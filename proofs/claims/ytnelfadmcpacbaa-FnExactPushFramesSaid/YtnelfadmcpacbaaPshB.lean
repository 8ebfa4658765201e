/- What PushFrame returns in the program: the unpacker behind the frame, and the packets found, in memory of their own. -/
import Derived.Test.YtnelfadmcpacbaaPshA
namespace Go.Proofs.Ytnelfadmcpacbaa
open Go.RowKit Sat
set_option linter.unusedVariables false
set_option linter.unusedSimpArgs false
attribute [local go_sem ↓] Go.wp_at_zero Go.wp_at_succ

theorem made_push_no {c n : Int} {y : Bool} {r : ByteArray} {o k m t : Int} {d : ByteArray} {w w' : World} {v : Value} (h : psOk c n y r o k m t d = false) (ho : w'.ownsRow w.heap.size 36 3 v 0 []) (hb : Below w.heap.size w w') :
    MadePush c n y r o k m t d w (.returned (.tuple #[.agg #[.int .i64 c, .int .i64 n, .bool y, .string r, .int .i64 o], v])) w' := by
  have e1 : psU c n y r o k m t d = (n, y, r, o) := by unfold psU; rw [h]; rfl
  have e2 : psP c n y r o k m t d = [] := by unfold psP; rw [h]; rfl
  exact ⟨v, by rw [e1], by rw [e2]; exact ho, hb⟩
set_option maxRecDepth 100000 in
set_option maxHeartbeats 3200000 in
theorem i_PushFrame_no (c n : Int) (y : Bool) (r : ByteArray) (o k m t : Int) (d : ByteArray) (w : World) (hr : r.size ≤ 1048576) (hd : d.size ≤ 1048576) (hk : psOk c n y r o k m t d = false) :
    Calls Try.prog 34 #[.agg #[.int .i64 c, .int .i64 n, .bool y, .string r, .int .i64 o], .agg #[.int .i64 k, .int .i64 m, .int .i64 t, .string d]] w (MadePush c n y r o k m t d w) := by
  have HK := hide hk
  obtain ⟨uk, huk⟩ : ∃ uk, unpOk c n y r o = uk := ⟨_, rfl⟩
  obtain ⟨fk, hfk⟩ : ∃ fk, frmOk k m t d = fk := ⟨_, rfl⟩
  have HU := hide huk
  have HF := hide hfk
  have HN : Hid (uk = true → fk = true → ¬ c = k) := by intro e e2 e3; rw [e] at huk; rw [e2] at hfk; unfold psOk at hk; rw [huk, hfk, decide_eq_true e3] at hk; exact absurd hk (by decide)
  clear hk huk hfk
  go_enter Try.func34, Try.ntmps34
  go_wp2_with fail
  obtain ⟨hbW, ub, fb, rp⟩ := entry3 w #[.int .i64 c, .int .i64 n, .bool y, .string r, .int .i64 o] #[.int .i64 k, .int .i64 m, .int .i64 t, .string d] #[.int .i64 0, .int .i64 0, .bool false, .string ⟨#[]⟩, .int .i64 0] 55 41 55
  generalize (((w.alloc (.cells #[.int .i64 c, .int .i64 n, .bool y, .string r, .int .i64 o] 55)).alloc (.cells #[.int .i64 k, .int .i64 m, .int .i64 t, .string d] 41)).alloc (.cells #[.int .i64 0, .int .i64 0, .bool false, .string ⟨#[]⟩, .int .i64 0] 55)) = W at *
  have HB := hide hbW
  have UB : Hid (Box W w.heap.size [.int .i64 c, .int .i64 n, .bool y, .string r, .int .i64 o]) := ub
  have FB : Hid (Box W (w.heap.size + 1) [.int .i64 k, .int .i64 m, .int .i64 t, .string d]) := fb
  have RP : Hid (Box W (w.heap.size + 1 + 1) [.int .i64 0, .int .i64 0, .bool false, .string ⟨#[]⟩, .int .i64 0]) := rp
  have HG := hide (And.intro rp.1 hbW.size)
  clear hbW ub fb rp
  refine (i_UnpackerOk_is _ _ _ _ _ _ _ (by omega) HU.out).mono ?_
  rintro e w1 ⟨rfl, hb⟩
  replace HB := hide (HB.out.trans (hb.mono HB.out.size))
  replace UB := hide (UB.out.below hb)
  replace FB := hide (FB.out.below hb)
  replace RP := hide (RP.out.below hb)
  clear hb
  cases uk with
  | false =>
    have u0 := UB.out.c 0 rfl
    have u1 := UB.out.c 1 rfl
    have u2 := UB.out.c 2 rfl
    have u3 := UB.out.c 3 rfl
    have u4 := UB.out.c 4 rfl
    have r0 := RP.out.c 0 rfl
    have r1 := RP.out.c 1 rfl
    have r2 := RP.out.c 2 rfl
    have r3 := RP.out.c 3 rfl
    have r4 := RP.out.c 4 rfl
    have rf0 := RP.out.f 0 (by simp)
    have rf1 := RP.out.f 1 (by simp)
    have rf2 := RP.out.f 2 (by simp)
    have rf3 := RP.out.f 3 (by simp)
    have rf4 := RP.out.f 4 (by simp)
    go_wp2_with fail
    refine bodyPost_ret (v := .tuple #[.agg #[.int .i64 c, .int .i64 n, .bool y, .string r, .int .i64 o], .slice none 0 0]) (by simp [results, Try.results34, go_sem, r0, r1, r2, r3, r4]) rfl (made_push_no HK.out ?_ ?_)
    · exact World.ownsRow_nil _ _ _ _
    · have hbb := HB.out
      repeat (first | with_reducible exact hbb | with_reducible refine Below.drew ?_ | with_reducible refine below_drewN ?_ _ | with_reducible refine Below.setCell ?_ (by first | exact Nat.le_refl _ | exact Nat.le_succ _ | (simp; done) | omega | (simp; omega)) _)
  | true =>
    have x0 := FB.out.c 0 rfl
    have x1 := FB.out.c 1 rfl
    have x2 := FB.out.c 2 rfl
    have x3 := FB.out.c 3 rfl
    go_wp2_with fail
    refine (i_FrameOk_is _ _ _ _ _ _ (by omega) HF.out).mono ?_
    rintro e w1b ⟨rfl, hb⟩
    clear x0 x1 x2 x3
    replace HB := hide (HB.out.trans (hb.mono HB.out.size))
    replace UB := hide (UB.out.below hb)
    replace FB := hide (FB.out.below hb)
    replace RP := hide (RP.out.below hb)
    clear hb
    cases fk with
    | false =>
      have u0 := UB.out.c 0 rfl
      have u1 := UB.out.c 1 rfl
      have u2 := UB.out.c 2 rfl
      have u3 := UB.out.c 3 rfl
      have u4 := UB.out.c 4 rfl
      have r0 := RP.out.c 0 rfl
      have r1 := RP.out.c 1 rfl
      have r2 := RP.out.c 2 rfl
      have r3 := RP.out.c 3 rfl
      have r4 := RP.out.c 4 rfl
      have rf0 := RP.out.f 0 (by simp)
      have rf1 := RP.out.f 1 (by simp)
      have rf2 := RP.out.f 2 (by simp)
      have rf3 := RP.out.f 3 (by simp)
      have rf4 := RP.out.f 4 (by simp)
      go_wp2_with fail
      refine bodyPost_ret (v := .tuple #[.agg #[.int .i64 c, .int .i64 n, .bool y, .string r, .int .i64 o], .slice none 0 0]) (by simp [results, Try.results34, go_sem, r0, r1, r2, r3, r4]) rfl (made_push_no HK.out ?_ ?_)
      · exact World.ownsRow_nil _ _ _ _
      · have hbb := HB.out
        repeat (first | with_reducible exact hbb | with_reducible refine Below.drew ?_ | with_reducible refine below_drewN ?_ _ | with_reducible refine Below.setCell ?_ (by first | exact Nat.le_refl _ | exact Nat.le_succ _ | (simp; done) | omega | (simp; omega)) _)
    | true =>
      have hne : ¬ c = k := by simpa using HN.out
      have x0 := FB.out.c 0 rfl
      have x1 := FB.out.c 1 rfl
      have x2 := FB.out.c 2 rfl
      have x3 := FB.out.c 3 rfl
      have u0 := UB.out.c 0 rfl
      have u1 := UB.out.c 1 rfl
      have u2 := UB.out.c 2 rfl
      have u3 := UB.out.c 3 rfl
      have u4 := UB.out.c 4 rfl
      have r0 := RP.out.c 0 rfl
      have r1 := RP.out.c 1 rfl
      have r2 := RP.out.c 2 rfl
      have r3 := RP.out.c 3 rfl
      have r4 := RP.out.c 4 rfl
      have rf0 := RP.out.f 0 (by simp)
      have rf1 := RP.out.f 1 (by simp)
      have rf2 := RP.out.f 2 (by simp)
      have rf3 := RP.out.f 3 (by simp)
      have rf4 := RP.out.f 4 (by simp)
      go_wp2_with fail
      refine bodyPost_ret (v := .tuple #[.agg #[.int .i64 c, .int .i64 n, .bool y, .string r, .int .i64 o], .slice none 0 0]) (by simp [results, Try.results34, go_sem, r0, r1, r2, r3, r4]) rfl (made_push_no HK.out ?_ ?_)
      · exact World.ownsRow_nil _ _ _ _
      · have hbb := HB.out
        repeat (first | with_reducible exact hbb | with_reducible refine Below.drew ?_ | with_reducible refine below_drewN ?_ _ | with_reducible refine Below.setCell ?_ (by first | exact Nat.le_refl _ | exact Nat.le_succ _ | (simp; done) | omega | (simp; omega)) _)
set_option maxRecDepth 100000 in
set_option maxHeartbeats 3200000 in
theorem i_PushFrame_x (c n : Int) (y : Bool) (r : ByteArray) (o k m t : Int) (d : ByteArray) (w : World) (hr : r.size ≤ 1048576) (hd : d.size ≤ 1048576) (hk : psOk c n y r o k m t d = true) :
    Calls Try.prog 34 #[.agg #[.int .i64 c, .int .i64 n, .bool y, .string r, .int .i64 o], .agg #[.int .i64 k, .int .i64 m, .int .i64 t, .string d]] w (MadePush c n y r o k m t d w) := by
  have HK := hide hk
  unfold psOk at hk
  rw [Bool.and_eq_true, Bool.and_eq_true, decide_eq_true_eq] at hk
  obtain ⟨⟨hu, hf⟩, hck⟩ := hk
  subst hck
  have hu2 := hu
  unfold unpOk at hu2
  simp only [Bool.and_eq_true, decide_eq_true_eq] at hu2
  have hn1 := of_inR hu2.1.1.1.2
  have ho1 := of_inR hu2.1.1.2
  have hr43 := hu2.2
  have hf2 := hf
  unfold frmOk at hf2
  simp only [Bool.and_eq_true, Bool.or_eq_true, decide_eq_true_eq] at hf2
  have hm1 := of_inR hf2.1.1.2
  have hd24 := hf2.2
  have ht1 : (0 ≤ t ∧ t ≤ 23) ∨ t = 255 := hf2.1.2.imp of_inR id
  clear hu2 hf2
  have HU := hide hu
  have HF := hide hf
  clear hu hf
  have hm0 := hm1.1
  have hm2 := hm1.2
  have hn0 := hn1.1
  have hn2 := hn1.2
  have ho0 := ho1.1
  have ho2 := ho1.2
  clear hm1 hn1 ho1
  go_enter Try.func34, Try.ntmps34
  go_wp2_with fail
  obtain ⟨hbW, ub, fb, rp⟩ := entry3 w #[.int .i64 c, .int .i64 n, .bool y, .string r, .int .i64 o] #[.int .i64 c, .int .i64 m, .int .i64 t, .string d] #[.int .i64 0, .int .i64 0, .bool false, .string ⟨#[]⟩, .int .i64 0] 55 41 55
  generalize (((w.alloc (.cells #[.int .i64 c, .int .i64 n, .bool y, .string r, .int .i64 o] 55)).alloc (.cells #[.int .i64 c, .int .i64 m, .int .i64 t, .string d] 41)).alloc (.cells #[.int .i64 0, .int .i64 0, .bool false, .string ⟨#[]⟩, .int .i64 0] 55)) = W at *
  have HB := hide hbW
  have UB : Hid (Box W w.heap.size [.int .i64 c, .int .i64 n, .bool y, .string r, .int .i64 o]) := ub
  have FB : Hid (Box W (w.heap.size + 1) [.int .i64 c, .int .i64 m, .int .i64 t, .string d]) := fb
  have RP : Hid (Box W (w.heap.size + 1 + 1) [.int .i64 0, .int .i64 0, .bool false, .string ⟨#[]⟩, .int .i64 0]) := rp
  have HG := hide (And.intro rp.1 hbW.size)
  clear hbW ub fb rp
  refine (i_UnpackerOk_is _ _ _ _ _ _ _ (by omega) HU.out).mono ?_
  rintro e w1 ⟨rfl, hb⟩
  replace HB := hide (HB.out.trans (hb.mono HB.out.size))
  replace UB := hide (UB.out.below hb)
  replace FB := hide (FB.out.below hb)
  replace RP := hide (RP.out.below hb)
  clear hb
  have x0 := FB.out.c 0 rfl
  have x1 := FB.out.c 1 rfl
  have x2 := FB.out.c 2 rfl
  have x3 := FB.out.c 3 rfl
  go_wp2_with fail
  refine (i_FrameOk_is _ _ _ _ _ _ (by omega) HF.out).mono ?_
  rintro e w1b ⟨rfl, hb⟩
  clear x0 x1 x2 x3
  replace HB := hide (HB.out.trans (hb.mono HB.out.size))
  replace UB := hide (UB.out.below hb)
  replace FB := hide (FB.out.below hb)
  replace RP := hide (RP.out.below hb)
  clear hb
  have u0 := UB.out.c 0 rfl
  have u1 := UB.out.c 1 rfl
  have u2 := UB.out.c 2 rfl
  have u3 := UB.out.c 3 rfl
  have u4 := UB.out.c 4 rfl
  have uf0 := UB.out.f 0 (by simp)
  have uf1 := UB.out.f 1 (by simp)
  have uf2 := UB.out.f 2 (by simp)
  have uf3 := UB.out.f 3 (by simp)
  have uf4 := UB.out.f 4 (by simp)
  have x0 := FB.out.c 0 rfl
  have x1 := FB.out.c 1 rfl
  have x2 := FB.out.c 2 rfl
  have x3 := FB.out.c 3 rfl
  go_upto_region 3 with fail
  go_cut [35] (fun v wx => v = .bool (psLost n m) ∧ Hid (Box wx w.heap.size [.int .i64 c, .int .i64 (n), .bool (y), .string (r), .int .i64 (o)]) ∧ Hid (Box wx (w.heap.size + 1) [.int .i64 c, .int .i64 m, .int .i64 t, .string d]) ∧ Hid (Box wx (w.heap.size + 1 + 1) [.int .i64 0, .int .i64 0, .bool false, .string ⟨#[]⟩, .int .i64 0]) ∧ Hid (Below w.heap.size w wx))
  case first =>
    rcases (show n = -1 ∨ (n ≠ -1 ∧ n = m) ∨ (n ≠ -1 ∧ n ≠ m) by omega) with h | ⟨h, h'⟩ | ⟨h, h'⟩
    · subst h
      have e : psLost (-1) m = false := by unfold psLost; simp
      go_wp2_with fail
      go_meet
      rw [e]
      exact ⟨rfl, UB.out, FB.out, RP.out, HB.out⟩
    · have e : psLost n m = false := by unfold psLost; rw [h']; simp
      subst h'
      go_wp2_with fail
      go_meet
      rw [e]
      exact ⟨rfl, UB.out, FB.out, RP.out, HB.out⟩
    · have e : psLost n m = true := by unfold psLost; simp [h, h']
      go_wp2_with fail
      go_meet
      rw [e]
      exact ⟨by simp [h, h'], UB.out, FB.out, RP.out, HB.out⟩
  case rest =>
    clear u0 u1 u2 u3 u4 uf0 uf1 uf2 uf3 uf4
    clear x0 x1 x2 x3
    clear UB FB RP HB
    obtain ⟨hv, UB, FB, RP, HB⟩ := hcut
    subst hv
    generalize wc = W1 at *
    have u0 := UB.out.c 0 rfl
    have u1 := UB.out.c 1 rfl
    have u2 := UB.out.c 2 rfl
    have u3 := UB.out.c 3 rfl
    have u4 := UB.out.c 4 rfl
    have uf0 := UB.out.f 0 (by simp)
    have uf1 := UB.out.f 1 (by simp)
    have uf2 := UB.out.f 2 (by simp)
    have uf3 := UB.out.f 3 (by simp)
    have uf4 := UB.out.f 4 (by simp)
    go_upto_if 35 with fail
    go_cut [] (fun wx => Hid (Box wx w.heap.size [.int .i64 c, .int .i64 (n), .bool (psY1 n y m), .string (psR1 n r m), .int .i64 (psO1 n o m)]) ∧ Hid (Box wx (w.heap.size + 1) [.int .i64 c, .int .i64 m, .int .i64 t, .string d]) ∧ Hid (Box wx (w.heap.size + 1 + 1) [.int .i64 0, .int .i64 0, .bool false, .string ⟨#[]⟩, .int .i64 0]) ∧ Hid (Below w.heap.size w wx))
    case first =>
      cases hl : psLost n m with
      | false =>
        have e1 : psY1 n y m = y := by unfold psY1; rw [hl]; rfl
        have e2 : psR1 n r m = r := by unfold psR1; rw [hl]; rfl
        have e3 : psO1 n o m = o := by unfold psO1; rw [hl]; rfl
        have E1 := hide e1
        have E2 := hide e2
        have E3 := hide e3
        clear e1 e2 e3 hl
        go_wp2_with fail
        go_meet
        rw [E1.out, E2.out, E3.out]
        exact ⟨UB.out, FB.out, RP.out, HB.out⟩
      | true =>
        have e1 : psY1 n y m = false := by unfold psY1; rw [hl]; rfl
        have e2 : psR1 n r m = ⟨#[]⟩ := by unfold psR1; rw [hl]; rfl
        have e3 : psO1 n o m = loseO o := by unfold psO1; rw [hl]; rfl
        have E1 := hide e1
        have E2 := hide e2
        have E3 := hide e3
        clear e1 e2 e3 hl
        go_wp2_with fail
        refine (i_losePart _ _ _ _ _ _ (by omega) (by omega)).mono ?_
        rintro e w2 ⟨rfl, hb⟩
        clear u0 u1 u2 u3 u4 uf0 uf1 uf2 uf3 uf4
        replace HB := hide (HB.out.trans (hb.mono HB.out.size))
        replace UB := hide (UB.out.below hb)
        replace FB := hide (FB.out.below hb)
        replace RP := hide (RP.out.below hb)
        clear hb
        have u0 := UB.out.c 0 rfl
        have u1 := UB.out.c 1 rfl
        have u2 := UB.out.c 2 rfl
        have u3 := UB.out.c 3 rfl
        have u4 := UB.out.c 4 rfl
        have uf0 := UB.out.f 0 (by simp)
        have uf1 := UB.out.f 1 (by simp)
        have uf2 := UB.out.f 2 (by simp)
        have uf3 := UB.out.f 3 (by simp)
        have uf4 := UB.out.f 4 (by simp)
        go_wp2_with fail
        go_meet
        rw [E1.out, E2.out, E3.out]
        exact ⟨((((UB.out.setC 0 (by simp) _).setC 1 (by simp) _).setC 2 (by simp) _).setC 3 (by simp) _).setC 4 (by simp) _, by repeat (first | exact FB.out | refine Box.other ?_ _ (by first | (simp; done) | (simp; omega)) _), by repeat (first | exact RP.out | refine Box.other ?_ _ (by first | (simp; done) | (simp; omega)) _), by show Below w.heap.size w _; repeat (first | exact HB.out | refine Below.setCell ?_ (by exact Nat.le_refl _) _)⟩
    case rest =>
      clear u0 u1 u2 u3 u4 uf0 uf1 uf2 uf3 uf4
      clear UB FB RP HB
      obtain ⟨UB, FB, RP, HB⟩ := hcut
      generalize wc = W2 at *
      have ho3 := psO1_in (n := n) (m := m) ho0 ho2
      have hr3 := psR1_size (n := n) (m := m) hr43
      obtain ⟨y1, hy1⟩ : ∃ y1, psY1 n y m = y1 := ⟨_, rfl⟩
      obtain ⟨r1, hr1⟩ : ∃ r1, psR1 n r m = r1 := ⟨_, rfl⟩
      obtain ⟨o1, ho1⟩ : ∃ o1, psO1 n o m = o1 := ⟨_, rfl⟩
      rw [hy1, hr1, ho1] at UB
      rw [hr1] at hr3
      rw [ho1] at ho3
      have HY1 := hide hy1
      have HR1 := hide hr1
      have HO1 := hide ho1
      clear hy1 hr1 ho1
      have ho30 := ho3.1
      have ho31 := ho3.2
      clear ho3
      have u0 := UB.out.c 0 rfl
      have u1 := UB.out.c 1 rfl
      have u2 := UB.out.c 2 rfl
      have u3 := UB.out.c 3 rfl
      have u4 := UB.out.c 4 rfl
      have uf0 := UB.out.f 0 (by simp)
      have uf1 := UB.out.f 1 (by simp)
      have uf2 := UB.out.f 2 (by simp)
      have uf3 := UB.out.f 3 (by simp)
      have uf4 := UB.out.f 4 (by simp)
      have x0 := FB.out.c 0 rfl
      have x1 := FB.out.c 1 rfl
      have x2 := FB.out.c 2 rfl
      have x3 := FB.out.c 3 rfl
      go_upto_if 44 with fail
      go_cut [] (fun wx => Hid (Box wx w.heap.size [.int .i64 c, .int .i64 ((m + 1) % 256), .bool (y1 || decide (t ≠ 255)), .string (if y1 then r1 ++ d else if t ≠ 255 then d.extract t.toNat d.size else r1), .int .i64 (o1)]) ∧ Hid (Box wx (w.heap.size + 1) [.int .i64 c, .int .i64 m, .int .i64 t, .string d]) ∧ Hid (Box wx (w.heap.size + 1 + 1) [.int .i64 0, .int .i64 0, .bool false, .string ⟨#[]⟩, .int .i64 0]) ∧ Hid (Below w.heap.size w wx))
      case first =>
        cases y1 with
        | true =>
          have hadd := fun w => run_string_add_sum (P := Try.prog) (w := w) r1 d (by omega)
          go_wp2_with fail
          go_meet
          exact ⟨(UB.out.setC 1 (by simp) _).setC 3 (by simp) _, by repeat (first | exact FB.out | refine Box.other ?_ _ (by first | (simp; done) | (simp; omega)) _), by repeat (first | exact RP.out | refine Box.other ?_ _ (by first | (simp; done) | (simp; omega)) _), by show Below w.heap.size w _; repeat (first | exact HB.out | refine Below.setCell ?_ (by exact Nat.le_refl _) _)⟩
        | false =>
          by_cases ht : t = 255
          · subst ht
            go_wp2_with fail
            go_meet
            exact ⟨UB.out.setC 1 (by simp) _, by repeat (first | exact FB.out | refine Box.other ?_ _ (by first | (simp; done) | (simp; omega)) _), by repeat (first | exact RP.out | refine Box.other ?_ _ (by first | (simp; done) | (simp; omega)) _), by show Below w.heap.size w _; repeat (first | exact HB.out | refine Below.setCell ?_ (by exact Nat.le_refl _) _)⟩
          · have ht2 : 0 ≤ t ∧ t ≤ 23 := by omega
            have ht20 := ht2.1
            have ht21 := ht2.2
            have e1 : (if t ≠ 255 then d.extract t.toNat d.size else r1) = d.extract t.toNat 24 := by rw [if_pos ht, hd24]
            have e2 : (false || decide (t ≠ 255)) = true := by simp [ht]
            go_wp2_with fail
            go_meet
            simp only [e1, e2, Bool.false_eq_true, if_false]
            exact ⟨((UB.out.setC 1 (by simp) _).setC 3 (by simp) _).setC 2 (by simp) _, by repeat (first | exact FB.out | refine Box.other ?_ _ (by first | (simp; done) | (simp; omega)) _), by repeat (first | exact RP.out | refine Box.other ?_ _ (by first | (simp; done) | (simp; omega)) _), by show Below w.heap.size w _; repeat (first | exact HB.out | refine Below.setCell ?_ (by exact Nat.le_refl _) _)⟩
      case rest =>
        clear u0 u1 u2 u3 u4 uf0 uf1 uf2 uf3 uf4
        clear x0 x1 x2 x3
        clear UB FB RP HB
        obtain ⟨UB, FB, RP, HB⟩ := hcut
        generalize wc = W3 at *
        obtain ⟨y2, hy2⟩ : ∃ y2, (y1 || decide (t ≠ 255)) = y2 := ⟨_, rfl⟩
        obtain ⟨r2, hr2⟩ : ∃ r2, (if y1 then r1 ++ d else if t ≠ 255 then d.extract t.toNat d.size else r1) = r2 := ⟨_, rfl⟩
        rw [hy2, hr2] at UB
        have HY2 := hide (show psY2 n y m t = y2 by unfold psY2; rw [HY1.out]; exact hy2)
        have HR2 := hide (show psR2 n y r m t d = r2 by unfold psR2; rw [HY1.out, HR1.out]; exact hr2)
        have hz2 : r2.size ≤ 100 := by rw [← hr2]; exact ps_size hr3 (by omega)
        clear hy2 hr2 HY1 HR1 hr3
        obtain ⟨rF, pF, hF⟩ : ∃ rF pF, psRun r2 = (rF, pF) := ⟨_, _, rfl⟩
        have HRUN : Hid (dpRun (r2.size + 1) r2 [] = (rF, pF)) := hF
        have HRUN0 : Hid (psRun r2 = (rF, pF)) := hF
        clear hF
        have u0 := UB.out.c 0 rfl
        have u1 := UB.out.c 1 rfl
        have u2 := UB.out.c 2 rfl
        have u3 := UB.out.c 3 rfl
        have u4 := UB.out.c 4 rfl
        go_wp2_with fail
        obtain ⟨a, q, dd, L, ok, hDV, hDL, hDO⟩ := dp_forms r2
        have HDV := hide (And.intro hDV (And.intro hDL hDO))
        clear hDV hDL hDO
        refine (i_Dec_is r2 a q dd L ok _ (by omega) HDV.out.1 HDV.out.2.1 HDV.out.2.2).mono ?_
        rintro e w4 ⟨rfl, hb⟩
        clear u0 u1 u2 u3 u4
        replace HB := hide (HB.out.trans (hb.mono HB.out.size))
        replace UB := hide (UB.out.below hb)
        replace FB := hide (FB.out.below hb)
        replace RP := hide (RP.out.below hb)
        clear hb
        go_wp2_with fail
        obtain ⟨hA, xb⟩ := entry1 w4 #[.int .i64 a, .int .i64 q, .string dd] 36
        have XB : Hid (Box (w4.alloc (.cells #[.int .i64 a, .int .i64 q, .string dd] 36)) w4.heap.size [.int .i64 a, .int .i64 q, .string dd]) := xb
        clear xb
        have hgr : w.heap.size + 1 + 1 < w4.heap.size := RP.out.1
        have hgw := hide HB.out.size
        replace HB := hide (HB.out.trans (hA.mono HB.out.size))
        replace UB := hide (UB.out.below hA)
        replace FB := hide (FB.out.below hA)
        replace RP := hide (RP.out.below hA)
        clear hA
        generalize (w4.alloc (.cells #[.int .i64 a, .int .i64 q, .string dd] 36)) = W5 at *
        generalize w4.heap.size = gx at *
        go_loopg [6, 8, 9] r2.size (fun gk lv zv ov wr => ∃ (s : ByteArray) (acc : List Pk3) (f : Nat) (Al : Option Addr) (cl : Nat) (a q : Int) (dd : ByteArray) (L : Int) (ok : Bool), gk = s.size ∧ Hid (dpRun f s acc = (rF, pF)) ∧ s.size < f ∧ s.size ≤ 100 ∧ acc.length ≤ 1000 - s.size ∧ lv = .slice Al acc.length cl ∧ zv = .int .i64 L ∧ ov = .bool ok ∧ Hid (dpV s 0 = .agg #[.int .i64 a, .int .i64 q, .string dd] ∧ dpL s 0 = L ∧ dpOk s 0 = ok) ∧ Hid (Box wr w.heap.size [.int .i64 c, .int .i64 ((m + 1) % 256), .bool y2, .string s, .int .i64 o1]) ∧ Hid (Box wr gx [.int .i64 a, .int .i64 q, .string dd]) ∧ Hid (Box wr (w.heap.size + 1 + 1) [.int .i64 0, .int .i64 0, .bool false, .string ⟨#[]⟩, .int .i64 0]) ∧ Hid (wr.ownsRow (gx + 1) 36 3 (.slice Al acc.length cl) acc.length (Pks acc)) ∧ Hid (Below w.heap.size w wr) ∧ gx + 1 ≤ wr.heap.size)
        case atStart => exact ⟨r2, [], _, none, 0, a, q, dd, L, ok, rfl, HRUN, Nat.lt_succ_self _, hz2, by first | omega | (simp; done) | (simp; omega), rfl, rfl, rfl, HDV, UB, XB, RP, World.ownsRow_nil _ _ _ _, HB, XB.out.1⟩
        case round =>
          clear UB FB XB RP HB HRUN HDV hz2
          obtain ⟨s, acc, f, Al, cl, a, q, dd, L, ok, rfl, HRUN, hsf, hsz, hacc, rfl, rfl, rfl, HDV, UB, XB, RP, OL, HB, hgs⟩ := hrel
          cases ok with
          | true =>
            obtain ⟨h1, h2, h3, h4, h5⟩ := dp_true HDV.out
            cases f with
            | zero => exact absurd hsf (by omega)
            | succ f =>
              have hrun : dpRun f (s.extract L.toNat s.size) (if a = 15 then acc else acc ++ [(a, q, dd)]) = (rF, pF) := by have h := HRUN.out; rw [dpRun, if_pos HDV.out.2.2, HDV.out.2.1, h1, h2, h3] at h; exact h
              have hs2 : (s.extract L.toNat s.size).size = s.size - L.toNat := by rw [ByteArray.size_extract]; omega
              have hL0 : 0 ≤ L := by omega
              replace HRUN := hide hrun
              clear hrun h1 h2 h3
              have u0 := UB.out.c 0 rfl
              have u1 := UB.out.c 1 rfl
              have u2 := UB.out.c 2 rfl
              have u3 := UB.out.c 3 rfl
              have u4 := UB.out.c 4 rfl
              have uf0 := UB.out.f 0 (by simp)
              have uf1 := UB.out.f 1 (by simp)
              have uf2 := UB.out.f 2 (by simp)
              have uf3 := UB.out.f 3 (by simp)
              have uf4 := UB.out.f 4 (by simp)
              have x0 := XB.out.c 0 rfl
              have x1 := XB.out.c 1 rfl
              have x2 := XB.out.c 2 rfl
              go_upto_if 76 with fail
              generalize s.extract L.toNat s.size = s2 at *
              replace UB := hide (show Box (wr.setCell ⟨w.heap.size, 3, none⟩ (.string s2)) w.heap.size [.int .i64 c, .int .i64 ((m + 1) % 256), .bool y2, .string s2, .int .i64 o1] from UB.out.setC 3 (by simp) _)
              replace XB := hide (XB.out.other ⟨w.heap.size, 3, none⟩ (by show w.heap.size ≠ gx; omega) (.string s2))
              replace RP := hide (RP.out.other ⟨w.heap.size, 3, none⟩ (by show w.heap.size ≠ w.heap.size + 1 + 1; omega) (.string s2))
              replace OL := hide (own_set OL.out (p := ⟨w.heap.size, 3, none⟩) (by show w.heap.size < gx + 1; omega) (.string s2))
              replace HB := hide (HB.out.setCell (p := ⟨w.heap.size, 3, none⟩) (Nat.le_refl _) (.string s2))
              replace hgs : gx + 1 ≤ (wr.setCell ⟨w.heap.size, 3, none⟩ (.string s2)).heap.size := by simp [World.setCell]; omega
              clear u0 u1 u2 u3 u4 uf0 uf1 uf2 uf3 uf4
              clear x0 x1 x2
              generalize wr.setCell ⟨w.heap.size, 3, none⟩ (.string s2) = wr2 at *
              obtain ⟨a2, q2, dd2, L2, ok2, hDV, hDL, hDO⟩ := dp_forms s2
              have HD2 := hide (And.intro hDV (And.intro hDL hDO))
              clear hDV hDL hDO
              by_cases h15 : a = 15
              · subst h15
                rw [if_pos rfl] at HRUN
                have u0 := UB.out.c 0 rfl
                have u1 := UB.out.c 1 rfl
                have u2 := UB.out.c 2 rfl
                have u3 := UB.out.c 3 rfl
                have u4 := UB.out.c 4 rfl
                have x0 := XB.out.c 0 rfl
                go_wp2_with fail
                clear x0
                refine (i_Dec_is s2 a2 q2 dd2 L2 ok2 _ (by omega) HD2.out.1 HD2.out.2.1 HD2.out.2.2).mono ?_
                rintro e w7 ⟨rfl, hb⟩
                clear u0 u1 u2 u3 u4
                have OL7 := hide (own_below OL.out hb)
                have hgs7 : gx + 1 ≤ w7.heap.size := Nat.le_trans hgs hb.size
                replace HB := hide (HB.out.trans (hb.mono HB.out.size))
                replace UB := hide (UB.out.below hb)
                replace XB := hide (XB.out.below hb)
                replace RP := hide (RP.out.below hb)
                clear hb OL
                have x0 := XB.out.c 0 rfl
                have x1 := XB.out.c 1 rfl
                have x2 := XB.out.c 2 rfl
                have xf0 := XB.out.f 0 (by simp)
                have xf1 := XB.out.f 1 (by simp)
                have xf2 := XB.out.f 2 (by simp)
                go_wp2_with fail
                go_roundg s2.size
                case measure => omega
                case rel =>
                  refine ⟨s2, acc, f, Al, cl, a2, q2, dd2, L2, ok2, rfl, HRUN, by omega, by omega, by first | omega | (simp; done) | (simp; omega), by first | rfl | simp, rfl, rfl, HD2, ?_, ?_, ?_, ?_, ?_, ?_⟩
                  · show Box _ _ _
                    repeat (first | exact UB.out | refine Box.other ?_ _ (by show gx ≠ w.heap.size; omega) _)
                  · exact ((XB.out.setC 0 (by simp) _).setC 1 (by simp) _).setC 2 (by simp) _
                  · show Box _ _ _
                    repeat (first | exact RP.out | refine Box.other ?_ _ (by show gx ≠ w.heap.size + 1 + 1; omega) _)
                  · show World.ownsRow _ _ _ _ _ _ _
                    repeat (first | exact OL7.out | refine own_set ?_ (by show gx < gx + 1; omega) _)
                  · show Below _ _ _
                    repeat (first | exact HB.out | refine Below.setCell ?_ (by show w.heap.size ≤ gx; omega) _)
                  · simp [World.setCell]; omega
              · rw [if_neg h15] at HRUN
                have u0 := UB.out.c 0 rfl
                have u1 := UB.out.c 1 rfl
                have u2 := UB.out.c 2 rfl
                have u3 := UB.out.c 3 rfl
                have u4 := UB.out.c 4 rfl
                have x0 := XB.out.c 0 rfl
                have x1 := XB.out.c 1 rfl
                have x2 := XB.out.c 2 rfl
                go_wp2_with (at_builtin; go_loud (refine wpList_appWH wr2.heap.size rfl 56 36 (.agg #[.int .i64 0, .int .i64 0, .string ⟨#[]⟩]) 3 32 Try.underlying56 infoP rfl (by decide) (by decide) rfl _ _ rfl (gx + 1) _ acc.length 1 (Pks acc) [.int .i64 a, .int .i64 q, .string dd] rfl OL.out rfl rfl rfl (one_pk _ _ _) (by omega) hgs ?_; intro v' w6 ho' hb' hs' hl'; obtain ⟨A2, c2, rfl⟩ := own_form ho'; have hz6 := hb'.size; have hx1 : w.heap.size < gx + 1 := (by omega); have hx2 : w.heap.size + 1 + 1 < gx + 1 := (by omega); replace UB := hide (UB.out.belowM hx1 hb'); replace XB := hide (XB.out.belowM (Nat.lt_succ_self gx) hb'); replace RP := hide (RP.out.belowM hx2 hb'); replace HB := hide (HB.out.trans (hb'.mono (Nat.le_of_lt hx1))); replace hgs := Nat.le_trans hgs hz6; replace OL := hide ho'; clear ho' hb' hs' hl' hx1 hx2 u0 u1 u2 u3 u4 x0 x1 x2; have u3 := UB.out.c 3 rfl))
                have u0 := u3
                have u1 := u3
                have u2 := u3
                have u4 := u3
                rw [show Pks acc ++ [.int .i64 a, .int .i64 q, .string dd] = Pks (acc ++ [(a, q, dd)]) from (Pks_snoc acc (a, q, dd)).symm, show acc.length + 1 = (acc ++ [(a, q, dd)]).length by simp] at OL
                refine (i_Dec_is s2 a2 q2 dd2 L2 ok2 _ (by omega) HD2.out.1 HD2.out.2.1 HD2.out.2.2).mono ?_
                rintro e w7 ⟨rfl, hb⟩
                clear u0 u1 u2 u3 u4
                have OL7 := hide (own_below OL.out hb)
                have hgs7 : gx + 1 ≤ w7.heap.size := Nat.le_trans hgs hb.size
                replace HB := hide (HB.out.trans (hb.mono HB.out.size))
                replace UB := hide (UB.out.below hb)
                replace XB := hide (XB.out.below hb)
                replace RP := hide (RP.out.below hb)
                clear hb OL
                have x0 := XB.out.c 0 rfl
                have x1 := XB.out.c 1 rfl
                have x2 := XB.out.c 2 rfl
                have xf0 := XB.out.f 0 (by simp)
                have xf1 := XB.out.f 1 (by simp)
                have xf2 := XB.out.f 2 (by simp)
                go_wp2_with fail
                go_roundg s2.size
                case measure => omega
                case rel =>
                  refine ⟨s2, acc ++ [(a, q, dd)], f, A2, c2, a2, q2, dd2, L2, ok2, rfl, HRUN, by omega, by omega, by first | omega | (simp; done) | (simp; omega), by first | rfl | simp, rfl, rfl, HD2, ?_, ?_, ?_, ?_, ?_, ?_⟩
                  · show Box _ _ _
                    repeat (first | exact UB.out | refine Box.other ?_ _ (by show gx ≠ w.heap.size; omega) _)
                  · exact ((XB.out.setC 0 (by simp) _).setC 1 (by simp) _).setC 2 (by simp) _
                  · show Box _ _ _
                    repeat (first | exact RP.out | refine Box.other ?_ _ (by show gx ≠ w.heap.size + 1 + 1; omega) _)
                  · show World.ownsRow _ _ _ _ _ _ _
                    repeat (first | exact OL7.out | refine own_set ?_ (by show gx < gx + 1; omega) _)
                  · show Below _ _ _
                    repeat (first | exact HB.out | refine Below.setCell ?_ (by show w.heap.size ≤ gx; omega) _)
                  · simp [World.setCell]; omega
          | false =>
            have hfin : dpRun f s acc = (s, acc) := dpRun_stop HDV.out.2.2
            have hfe := HRUN.out
            rw [hfin] at hfe
            injection hfe with e1 e2
            subst e1
            subst e2
            clear hfin HRUN HDV
            have OL0 := OL
            by_cases h4 : 4 ≤ s.size
            · have i4 : (4 : Int) ≤ (s.size : Int) := by omega
              have i0 : 0 < s.size := by omega
              have i3 : (3 : Int) < (s.size : Int) := by omega
              by_cases hb0 : ((s[0]'(by omega)).toNat : Int) ≤ 15
              · by_cases hb3 : ((s[3]'(by omega)).toNat : Int) ≤ 40
                · have hcc : ((s[0]'(by omega)).toNat : Int) ≤ 15 ∧ ((s[3]'(by omega)).toNat : Int) ≤ 40 := ⟨hb0, hb3⟩
                  have HBAD := hide (psBad_no h4 (by omega) (by omega))
                  have u0 := UB.out.c 0 rfl
                  have u1 := UB.out.c 1 rfl
                  have u2 := UB.out.c 2 rfl
                  have u3 := UB.out.c 3 rfl
                  have u4 := UB.out.c 4 rfl
                  have r0 := RP.out.c 0 rfl
                  have r1 := RP.out.c 1 rfl
                  have r2 := RP.out.c 2 rfl
                  have r3 := RP.out.c 3 rfl
                  have r4 := RP.out.c 4 rfl
                  have rf0 := RP.out.f 0 (by simp)
                  have rf1 := RP.out.f 1 (by simp)
                  have rf2 := RP.out.f 2 (by simp)
                  have rf3 := RP.out.f 3 (by simp)
                  have rf4 := RP.out.f 4 (by simp)
                  go_wp2_with fail
                  refine bodyPost_ret (v := .tuple #[.agg #[.int .i64 c, .int .i64 ((m + 1) % 256), .bool y2, .string s, .int .i64 o1], .slice Al acc.length cl]) (by simp [results, Try.results34, go_sem, r0, r1, r2, r3, r4]) rfl (made_push_yes HK.out HR2.out HRUN0.out HY2.out HO1.out HBAD.out ?_ ?_)
                  · have hoo := OL.out
                    refine own_mono ?_ (show w.heap.size ≤ gx + 1 by omega)
                    repeat (first | with_reducible exact hoo | with_reducible refine World.ownsRow.drew ?_ | with_reducible refine own_set ?_ (by first | (show w.heap.size < gx + 1; omega) | (show w.heap.size + 1 + 1 < gx + 1; omega)) _)
                  · have hbb := HB.out
                    repeat (first | with_reducible exact hbb | with_reducible refine Below.drew ?_ | with_reducible refine below_drewN ?_ _ | with_reducible refine Below.setCell ?_ (by first | exact Nat.le_refl _ | exact Nat.le_succ _ | (simp; done) | omega | (simp; omega)) _)
                · have hcc : ¬ (((s[0]'(by omega)).toNat : Int) ≤ 15 ∧ ((s[3]'(by omega)).toNat : Int) ≤ 40) := fun h => hb3 h.2
                  have HBAD := hide (psBad_3 h4 (by omega))
                  have u0 := UB.out.c 0 rfl
                  have u1 := UB.out.c 1 rfl
                  have u2 := UB.out.c 2 rfl
                  have u3 := UB.out.c 3 rfl
                  have u4 := UB.out.c 4 rfl
                  go_wp2_with fail
                  refine (i_losePart _ _ _ _ _ _ (by omega) (by omega)).mono ?_
                  rintro e w8 ⟨rfl, hb⟩
                  clear u0 u1 u2 u3 u4
                  replace OL := hide (own_below OL.out hb)
                  replace HB := hide (HB.out.trans (hb.mono HB.out.size))
                  replace UB := hide (UB.out.below hb)
                  replace RP := hide (RP.out.below hb)
                  clear hb
                  have u0 := UB.out.c 0 rfl
                  have u1 := UB.out.c 1 rfl
                  have u2 := UB.out.c 2 rfl
                  have u3 := UB.out.c 3 rfl
                  have u4 := UB.out.c 4 rfl
                  have uf0 := UB.out.f 0 (by simp)
                  have uf1 := UB.out.f 1 (by simp)
                  have uf2 := UB.out.f 2 (by simp)
                  have uf3 := UB.out.f 3 (by simp)
                  have uf4 := UB.out.f 4 (by simp)
                  have r0 := RP.out.c 0 rfl
                  have r1 := RP.out.c 1 rfl
                  have r2 := RP.out.c 2 rfl
                  have r3 := RP.out.c 3 rfl
                  have r4 := RP.out.c 4 rfl
                  have rf0 := RP.out.f 0 (by simp)
                  have rf1 := RP.out.f 1 (by simp)
                  have rf2 := RP.out.f 2 (by simp)
                  have rf3 := RP.out.f 3 (by simp)
                  have rf4 := RP.out.f 4 (by simp)
                  go_wp2_with fail
                  refine bodyPost_ret (v := .tuple #[.agg #[.int .i64 c, .int .i64 ((m + 1) % 256), .bool false, .string ⟨#[]⟩, .int .i64 (loseO o1)], .slice Al acc.length cl]) (by simp [results, Try.results34, go_sem, r0, r1, r2, r3, r4]) rfl (made_push_bad HK.out HR2.out HRUN0.out HO1.out HBAD.out ?_ ?_)
                  · have hoo := OL.out
                    refine own_mono ?_ (show w.heap.size ≤ gx + 1 by omega)
                    repeat (first | with_reducible exact hoo | with_reducible refine World.ownsRow.drew ?_ | with_reducible refine own_set ?_ (by first | (show w.heap.size < gx + 1; omega) | (show w.heap.size + 1 + 1 < gx + 1; omega)) _)
                  · have hbb := HB.out
                    repeat (first | with_reducible exact hbb | with_reducible refine Below.drew ?_ | with_reducible refine below_drewN ?_ _ | with_reducible refine Below.setCell ?_ (by first | exact Nat.le_refl _ | exact Nat.le_succ _ | (simp; done) | omega | (simp; omega)) _)
              · have hcc : ¬ (((s[0]'(by omega)).toNat : Int) ≤ 15 ∧ ((s[3]'(by omega)).toNat : Int) ≤ 40) := fun h => hb0 h.1
                have HBAD := hide (psBad_0 h4 (by omega))
                have u0 := UB.out.c 0 rfl
                have u1 := UB.out.c 1 rfl
                have u2 := UB.out.c 2 rfl
                have u3 := UB.out.c 3 rfl
                have u4 := UB.out.c 4 rfl
                go_wp2_with fail
                refine (i_losePart _ _ _ _ _ _ (by omega) (by omega)).mono ?_
                rintro e w8 ⟨rfl, hb⟩
                clear u0 u1 u2 u3 u4
                replace OL := hide (own_below OL.out hb)
                replace HB := hide (HB.out.trans (hb.mono HB.out.size))
                replace UB := hide (UB.out.below hb)
                replace RP := hide (RP.out.below hb)
                clear hb
                have u0 := UB.out.c 0 rfl
                have u1 := UB.out.c 1 rfl
                have u2 := UB.out.c 2 rfl
                have u3 := UB.out.c 3 rfl
                have u4 := UB.out.c 4 rfl
                have uf0 := UB.out.f 0 (by simp)
                have uf1 := UB.out.f 1 (by simp)
                have uf2 := UB.out.f 2 (by simp)
                have uf3 := UB.out.f 3 (by simp)
                have uf4 := UB.out.f 4 (by simp)
                have r0 := RP.out.c 0 rfl
                have r1 := RP.out.c 1 rfl
                have r2 := RP.out.c 2 rfl
                have r3 := RP.out.c 3 rfl
                have r4 := RP.out.c 4 rfl
                have rf0 := RP.out.f 0 (by simp)
                have rf1 := RP.out.f 1 (by simp)
                have rf2 := RP.out.f 2 (by simp)
                have rf3 := RP.out.f 3 (by simp)
                have rf4 := RP.out.f 4 (by simp)
                go_wp2_with fail
                refine bodyPost_ret (v := .tuple #[.agg #[.int .i64 c, .int .i64 ((m + 1) % 256), .bool false, .string ⟨#[]⟩, .int .i64 (loseO o1)], .slice Al acc.length cl]) (by simp [results, Try.results34, go_sem, r0, r1, r2, r3, r4]) rfl (made_push_bad HK.out HR2.out HRUN0.out HO1.out HBAD.out ?_ ?_)
                · have hoo := OL.out
                  refine own_mono ?_ (show w.heap.size ≤ gx + 1 by omega)
                  repeat (first | with_reducible exact hoo | with_reducible refine World.ownsRow.drew ?_ | with_reducible refine own_set ?_ (by first | (show w.heap.size < gx + 1; omega) | (show w.heap.size + 1 + 1 < gx + 1; omega)) _)
                · have hbb := HB.out
                  repeat (first | with_reducible exact hbb | with_reducible refine Below.drew ?_ | with_reducible refine below_drewN ?_ _ | with_reducible refine Below.setCell ?_ (by first | exact Nat.le_refl _ | exact Nat.le_succ _ | (simp; done) | omega | (simp; omega)) _)
            · have i4 : ¬ (4 : Int) ≤ (s.size : Int) := by omega
              have HBAD := hide (psBad_short h4)
              have u0 := UB.out.c 0 rfl
              have u1 := UB.out.c 1 rfl
              have u2 := UB.out.c 2 rfl
              have u3 := UB.out.c 3 rfl
              have u4 := UB.out.c 4 rfl
              have r0 := RP.out.c 0 rfl
              have r1 := RP.out.c 1 rfl
              have r2 := RP.out.c 2 rfl
              have r3 := RP.out.c 3 rfl
              have r4 := RP.out.c 4 rfl
              have rf0 := RP.out.f 0 (by simp)
              have rf1 := RP.out.f 1 (by simp)
              have rf2 := RP.out.f 2 (by simp)
              have rf3 := RP.out.f 3 (by simp)
              have rf4 := RP.out.f 4 (by simp)
              go_wp2_with fail
              refine bodyPost_ret (v := .tuple #[.agg #[.int .i64 c, .int .i64 ((m + 1) % 256), .bool y2, .string s, .int .i64 o1], .slice Al acc.length cl]) (by simp [results, Try.results34, go_sem, r0, r1, r2, r3, r4]) rfl (made_push_yes HK.out HR2.out HRUN0.out HY2.out HO1.out HBAD.out ?_ ?_)
              · have hoo := OL.out
                refine own_mono ?_ (show w.heap.size ≤ gx + 1 by omega)
                repeat (first | with_reducible exact hoo | with_reducible refine World.ownsRow.drew ?_ | with_reducible refine own_set ?_ (by first | (show w.heap.size < gx + 1; omega) | (show w.heap.size + 1 + 1 < gx + 1; omega)) _)
              · have hbb := HB.out
                repeat (first | with_reducible exact hbb | with_reducible refine Below.drew ?_ | with_reducible refine below_drewN ?_ _ | with_reducible refine Below.setCell ?_ (by first | exact Nat.le_refl _ | exact Nat.le_succ _ | (simp; done) | omega | (simp; omega)) _)
theorem i_PushFrame (c n : Int) (y : Bool) (r : ByteArray) (o k m t : Int) (d : ByteArray) (w : World) (hr : r.size ≤ 1048576) (hd : d.size ≤ 1048576) :
    Calls Try.prog 34 #[.agg #[.int .i64 c, .int .i64 n, .bool y, .string r, .int .i64 o], .agg #[.int .i64 k, .int .i64 m, .int .i64 t, .string d]] w (MadePush c n y r o k m t d w) := by
  cases hk : psOk c n y r o k m t d with
  | true => exact i_PushFrame_x c n y r o k m t d w hr hd hk
  | false => exact i_PushFrame_no c n y r o k m t d w hr hd hk
end Go.Proofs.Ytnelfadmcpacbaa
