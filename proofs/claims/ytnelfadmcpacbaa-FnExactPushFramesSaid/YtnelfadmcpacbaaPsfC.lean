/- What PushFrames returns: the unpacker behind, and the packets in memory of their own. -/
import Derived.Test.YtnelfadmcpacbaaPsfB
import Derived.Test.YtnelfadmcpacbaaPckC
import Derived.Deep.DeepCutAuto
import Derived.Deep.CutRange
namespace Go.Proofs.Ytnelfadmcpacbaa
open Go.RowKit Sat
set_option linter.unusedVariables false
set_option linter.unusedSimpArgs false
attribute [local go_sem ↓] Go.wp_at_zero Go.wp_at_succ

set_option maxRecDepth 100000 in
set_option maxHeartbeats 20000000 in
theorem i_PushFrames (c n : Int) (y : Bool) (r : ByteArray) (o : Int) (A : Option Addr) (m cp : Nat) (l : List Fr4) (nF : Int) (yF : Bool) (rF : ByteArray) (oF : Int) (pF : List Pk3) (w : World) (h : RF w A m l) (hm : m ≤ 1048576) (hr : r.size ≤ 1048576) (hd : ∀ (j : Nat) (x : Fr4), l[j]? = some x → x.2.2.2.size ≤ 1048576) (hF : pfS c (n, y, r, o) l m = ((nF, yF, rF, oF), pF)) :
    Calls Try.prog 42 #[.agg #[.int .i64 c, .int .i64 n, .bool y, .string r, .int .i64 o], .slice A m cp] w (MadePushes c nF yF rF oF pF w) := by
  have HFIN := hide hF
  have HD := hide hd
  have H := hide h
  clear h hF hd
  go_enter Try.func42, Try.ntmps42
  go_wp2_with fail
  obtain ⟨hbW, ub, rp⟩ := entry2 w #[.int .i64 c, .int .i64 n, .bool y, .string r, .int .i64 o] #[.int .i64 0, .int .i64 0, .bool false, .string ⟨#[]⟩, .int .i64 0] 55 55
  have hWz : ((w.alloc (.cells #[.int .i64 c, .int .i64 n, .bool y, .string r, .int .i64 o] 55)).alloc (.cells #[.int .i64 0, .int .i64 0, .bool false, .string ⟨#[]⟩, .int .i64 0] 55)).heap.size = w.heap.size + 1 + 1 := by simp
  generalize ((w.alloc (.cells #[.int .i64 c, .int .i64 n, .bool y, .string r, .int .i64 o] 55)).alloc (.cells #[.int .i64 0, .int .i64 0, .bool false, .string ⟨#[]⟩, .int .i64 0] 55)) = W at *
  have HB := hide hbW
  have UB : Hid (Box W w.heap.size [.int .i64 c, .int .i64 n, .bool y, .string r, .int .i64 o]) := ub
  have RP : Hid (Box W (w.heap.size + 1) [.int .i64 0, .int .i64 0, .bool false, .string ⟨#[]⟩, .int .i64 0]) := rp
  clear hbW ub rp
  have OL : Hid (W.ownsRow (w.heap.size + 1 + 1) 36 3 (.slice none 0 0) 0 []) := World.ownsRow_nil _ _ _ _
  have hgs : w.heap.size + 1 + 1 ≤ W.heap.size := by rw [hWz]; exact Nat.le_refl _
  clear hWz
  go_loopg [6, 13] m (fun gk lv kv wr => ∃ (k : Nat) (n0 : Int) (y0 : Bool) (r0 : ByteArray) (o0 : Int) (acc : List Pk3) (Al : Option Addr) (cl : Nat), gk = m - k ∧ k ≤ m ∧ kv = .int .i64 k ∧ Hid (pfS c (n, y, r, o) l k = ((n0, y0, r0, o0), acc)) ∧ r0.size ≤ 1048576 ∧ acc.length ≤ 100 * k ∧ lv = .slice Al acc.length cl ∧ Hid (Box wr w.heap.size [.int .i64 c, .int .i64 n0, .bool y0, .string r0, .int .i64 o0]) ∧ Hid (Box wr (w.heap.size + 1) [.int .i64 0, .int .i64 0, .bool false, .string ⟨#[]⟩, .int .i64 0]) ∧ Hid (wr.ownsRow (w.heap.size + 1 + 1) 36 3 (.slice Al acc.length cl) acc.length (Pks acc)) ∧ Hid (Below w.heap.size w wr) ∧ w.heap.size + 1 + 1 ≤ wr.heap.size)
  case atStart => exact ⟨0, n, y, r, o, [], none, 0, rfl, Nat.zero_le _, rfl, rfl, hr, Nat.zero_le _, rfl, UB, RP, OL, HB, hgs⟩
  case round =>
    clear UB RP OL HB hgs
    obtain ⟨k, n0, y0, r0, o0, acc, Al, cl, rfl, hk, rfl, HRUN, hr0, hacc, rfl, UB, RP, OL, HB, hgs⟩ := hrel
    have hgw : Hid (w.heap.size ≤ w.heap.size + 1 + 1) := (by omega : w.heap.size ≤ w.heap.size + 1 + 1)
    by_cases hlt : k < m
    · obtain ⟨g, rfl, x0, x1, x2, x3⟩ := (H.out.below HB.out).at hlt
      have hgl : Hid (g < w.heap.size) := by obtain ⟨g', e, hl', _⟩ := H.out.2 (by omega); injection e with e; injection e with e; subst e; exact hl'
      have hgr : Hid (g < wr.heap.size) := Nat.lt_of_lt_of_le hgl.out HB.out.size
      have hdz := getD_size HD.out k
      obtain ⟨⟨fk, fm, ft, fd⟩, hfe⟩ : ∃ x, l.getD k (0, 0, 0, ⟨#[]⟩) = x := ⟨_, rfl⟩
      have HFE := hide hfe
      rw [hfe] at x0 x1 x2 x3 hdz
      clear hfe
      dsimp only at x0 x1 x2 x3 hdz
      obtain ⟨n1, o1, y1, r1, pk, hU, hP, hpl⟩ := ps_forms c n0 y0 r0 o0 fk fm ft fd
      have hr1 := psU_size hU hr0
      have HT := hide (And.intro hU hP)
      have HR2 := hide (pfS_succ HRUN.out HFE.out hU hP)
      clear hU hP
      have u0 := UB.out.c 0 rfl
      have u1 := UB.out.c 1 rfl
      have u2 := UB.out.c 2 rfl
      have u3 := UB.out.c 3 rfl
      have u4 := UB.out.c 4 rfl
      go_upto_region 5 with fail
      obtain ⟨hA, fb⟩ := entry1 wr #[.int .i64 fk, .int .i64 fm, .int .i64 ft, .string fd] 41
      have FB : Hid (Box (wr.alloc (.cells #[.int .i64 fk, .int .i64 fm, .int .i64 ft, .string fd] 41)) wr.heap.size [.int .i64 fk, .int .i64 fm, .int .i64 ft, .string fd]) := fb
      clear fb
      have OL0 := hide (own_below OL.out hA)
      have hzf := hA.size
      replace HB := hide (HB.out.trans (hA.mono HB.out.size))
      replace UB := hide (UB.out.below hA)
      replace RP := hide (RP.out.below hA)
      replace hgs := Nat.le_trans hgs hzf
      clear hA OL hzf u0 u1 u2 u3 u4 x0 x1 x2 x3
      generalize (wr.alloc (.cells #[.int .i64 fk, .int .i64 fm, .int .i64 ft, .string fd] 41)) = W1 at *
      generalize hgf : wr.heap.size = gf at *
      have u0 := UB.out.c 0 rfl
      have u1 := UB.out.c 1 rfl
      have u2 := UB.out.c 2 rfl
      have u3 := UB.out.c 3 rfl
      have u4 := UB.out.c 4 rfl
      have x0 := FB.out.c 0 rfl
      have x1 := FB.out.c 1 rfl
      have x2 := FB.out.c 2 rfl
      have x3 := FB.out.c 3 rfl
      go_wp2_with fail
      refine (i_Push_is _ _ _ _ _ _ _ _ _ _ _ _ _ _ _ hr0 hdz HT.out.1 HT.out.2).mono ?_
      rintro e w5 ⟨v5, rfl, ho5, hb5⟩
      obtain ⟨A3, c3, rfl⟩ := own_form ho5
      clear u0 u1 u2 u3 u4 x0 x1 x2 x3 FB
      go_upto_region 6 with fail
      obtain ⟨hA, xb⟩ := entry1 w5 #[.int .i64 c, .int .i64 n1, .bool y1, .string r1, .int .i64 o1] 55
      have XB : Hid (Box (w5.alloc (.cells #[.int .i64 c, .int .i64 n1, .bool y1, .string r1, .int .i64 o1] 55)) w5.heap.size [.int .i64 c, .int .i64 n1, .bool y1, .string r1, .int .i64 o1]) := xb
      clear xb
      have hb := hb5.trans (hA.mono hb5.size)
      have O3 := hide (own_below ho5 hA)
      have hge : Hid (W1.heap.size ≤ w5.heap.size) := hb5.size
      clear hA ho5 hb5
      generalize (w5.alloc (.cells #[.int .i64 c, .int .i64 n1, .bool y1, .string r1, .int .i64 o1] 55)) = W2 at *
      have OL1 := hide (own_below OL0.out hb)
      have O3l : Hid (∀ k, (Value.slice A3 pk.length c3).ownBlock = some k → W1.heap.size ≤ k) := fun k e => (O3.out.lt _ e).1
      have OLl : Hid (∀ k, (Value.slice Al acc.length cl).ownBlock = some k → w.heap.size + 1 + 1 ≤ k) := fun k e => (OL0.out.lt _ e).1
      have hzW : W1.heap.size ≤ W2.heap.size := hb.size
      replace HB := hide (HB.out.trans (hb.mono HB.out.size))
      replace UB := hide (UB.out.below hb)
      replace RP := hide (RP.out.below hb)
      clear hb OL0
      have hge2 := hge.out
      generalize hgx : w5.heap.size = gx at *
      have u0 := UB.out.c 0 rfl
      have u1 := UB.out.c 1 rfl
      have u2 := UB.out.c 2 rfl
      have u3 := UB.out.c 3 rfl
      have u4 := UB.out.c 4 rfl
      have uf0 := UB.out.f 0 (by simp)
      have uf1 := UB.out.f 1 (by simp)
      have uf2 := UB.out.f 2 (by simp)
      have uf3 := UB.out.f 3 (by simp)
      have uf4 := UB.out.f 4 (by simp)
      have x0 := XB.out.c 0 rfl
      have x1 := XB.out.c 1 rfl
      have x2 := XB.out.c 2 rfl
      have x3 := XB.out.c 3 rfl
      have x4 := XB.out.c 4 rfl
      have n1_ : ¬ w.heap.size = gx := by omega
      have n2_ : ¬ gx = w.heap.size := by omega
      go_upto_region 7 with fail
      replace RP := hide (RP.out.oth5 (show w.heap.size ≠ w.heap.size + 1 by omega) (.int .i64 c) (.int .i64 n1) (.bool y1) (.string r1) (.int .i64 o1))
      replace UB := hide (UB.out.set5 (.int .i64 c) (.int .i64 n1) (.bool y1) (.string r1) (.int .i64 o1))
      replace O3 := hide (own_oth5 O3.out (show (Value.slice A3 pk.length c3).ownBlock ≠ some w.heap.size from fun e => absurd (O3l.out _ e) (by omega)) (.int .i64 c) (.int .i64 n1) (.bool y1) (.string r1) (.int .i64 o1))
      replace OL1 := hide (own_oth5 OL1.out (show (Value.slice Al acc.length cl).ownBlock ≠ some w.heap.size from fun e => absurd (OLl.out _ e) (by omega)) (.int .i64 c) (.int .i64 n1) (.bool y1) (.string r1) (.int .i64 o1))
      replace HB := hide (below_set5 HB.out (Nat.le_refl _) (.int .i64 c) (.int .i64 n1) (.bool y1) (.string r1) (.int .i64 o1))
      replace hgs : w.heap.size + 1 + 1 ≤ (((((W2.setCell ⟨w.heap.size, 0, none⟩ (.int .i64 c)).setCell ⟨w.heap.size, 1, none⟩ (.int .i64 n1)).setCell ⟨w.heap.size, 2, none⟩ (.bool y1)).setCell ⟨w.heap.size, 3, none⟩ (.string r1)).setCell ⟨w.heap.size, 4, none⟩ (.int .i64 o1)).heap.size := by simp [World.setCell]; omega
      clear u0 u1 u2 u3 u4 uf0 uf1 uf2 uf3 uf4 x0 x1 x2 x3 x4 XB
      generalize (((((W2.setCell ⟨w.heap.size, 0, none⟩ (.int .i64 c)).setCell ⟨w.heap.size, 1, none⟩ (.int .i64 n1)).setCell ⟨w.heap.size, 2, none⟩ (.bool y1)).setCell ⟨w.heap.size, 3, none⟩ (.string r1)).setCell ⟨w.heap.size, 4, none⟩ (.int .i64 o1)) = W3 at *
      go_wp2_with (at_builtin; go_loud (refine wpList_appP rfl _ _ rfl (w.heap.size + 1 + 1) _ _ A3 c3 acc pk rfl OL1.out rfl O3.out (by omega) hgs ?_; intro A4 c4 w4 ho4 hb4; have hz4 := hb4.size; replace OL1 := hide ho4; replace UB := hide (UB.out.belowM (show w.heap.size < w.heap.size + 1 + 1 by omega) hb4); replace RP := hide (RP.out.belowM (show w.heap.size + 1 < w.heap.size + 1 + 1 by omega) hb4); replace HB := hide (HB.out.trans (hb4.mono hgw.out)); replace hgs := Nat.le_trans hgs hz4; clear ho4 hb4 hz4 O3))
      go_roundg (m - (k + 1))
      case measure => omega
      case rel => exact ⟨k + 1, n1, y1, r1, o1, acc ++ pk, A4, c4, rfl, by omega, by go_num, HR2, hr1, (by rw [List.length_append]; omega), (by first | rfl | simp), UB, RP, OL1, HB, hgs⟩
    · obtain rfl : k = m := by omega
      have hfe := HRUN.out.symm.trans HFIN.out
      injection hfe with e1 e2
      injection e1 with e0 e1
      injection e1 with e3 e1
      injection e1 with e4 e5
      subst e0
      subst e2
      subst e3
      subst e4
      subst e5
      clear HRUN HFIN
      have u0 := UB.out.c 0 rfl
      have u1 := UB.out.c 1 rfl
      have u2 := UB.out.c 2 rfl
      have u3 := UB.out.c 3 rfl
      have u4 := UB.out.c 4 rfl
      have r0_ := RP.out.c 0 rfl
      have r1_ := RP.out.c 1 rfl
      have r2_ := RP.out.c 2 rfl
      have r3_ := RP.out.c 3 rfl
      have r4_ := RP.out.c 4 rfl
      have rf0 := RP.out.f 0 (by simp)
      have rf1 := RP.out.f 1 (by simp)
      have rf2 := RP.out.f 2 (by simp)
      have rf3 := RP.out.f 3 (by simp)
      have rf4 := RP.out.f 4 (by simp)
      go_wp2_with fail
      refine bodyPost_ret (v := .tuple #[.agg #[.int .i64 c, .int .i64 n0, .bool y0, .string r0, .int .i64 o0], .slice Al acc.length cl]) (by simp [results, Try.results42, go_sem, r0_, r1_, r2_, r3_, r4_]) rfl ⟨_, rfl, ?_, ?_⟩
      · have hoo := OL.out
        refine own_mono ?_ hgw.out
        repeat (first | with_reducible exact hoo | with_reducible refine World.ownsRow.drew ?_ | with_reducible refine own_set ?_ (by show w.heap.size + 1 < w.heap.size + 1 + 1; omega) _)
      · have hbb := HB.out
        repeat (first | with_reducible exact hbb | with_reducible refine Below.drew ?_ | with_reducible refine below_drewN ?_ _ | with_reducible refine Below.setCell ?_ (by first | exact Nat.le_refl _ | exact Nat.le_succ _ | (simp; done) | omega | (simp; omega)) _)
end Go.Proofs.Ytnelfadmcpacbaa
