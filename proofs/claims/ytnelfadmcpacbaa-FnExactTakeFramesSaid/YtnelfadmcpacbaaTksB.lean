/- What TakeFrames returns in the program: the packer behind, and the frames, each in memory of their own. -/
import Derived.Test.YtnelfadmcpacbaaTksA
namespace Go.Proofs.Ytnelfadmcpacbaa
open Go.RowKit Sat
set_option linter.unusedVariables false
set_option linter.unusedSimpArgs false
attribute [local go_sem ↓] Go.wp_at_zero Go.wp_at_succ

set_option maxRecDepth 100000 in
set_option maxHeartbeats 20000000 in
theorem i_TakeFrames (a b : Int) (r : ByteArray) (A : Option Addr) (n c : Nat) (l : List Int) (bF : Int) (rF : ByteArray) (lF : List Int) (fF : List Fr4) (w : World) (h : RI w A n l) (hn : n ≤ 1048576) (hr : r.size ≤ 1048576) (hF : tkAll a b r l = ((bF, rF, lF), fF)) :
    Calls Try.prog 25 #[.agg #[.int .i64 a, .int .i64 b, .string r, .slice A n c]] w (MadeTakes a bF rF lF fF w) := by
  have hzl : l.length = n := h.1
  have HRUN : Hid (tkRun a (r.size + 1) b r l [] = ((bF, rF, lF), fF)) := hF
  have H := hide h
  clear h hF
  go_enter Try.func25, Try.ntmps25
  go_wp2_with fail
  obtain ⟨hbW, pb, rp⟩ := entry2 w #[.int .i64 a, .int .i64 b, .string r, .slice A n c] #[.int .i64 0, .int .i64 0, .string ⟨#[]⟩, .slice none 0 0] 27 27
  have hWz : ((w.alloc (.cells #[.int .i64 a, .int .i64 b, .string r, .slice A n c] 27)).alloc (.cells #[.int .i64 0, .int .i64 0, .string ⟨#[]⟩, .slice none 0 0] 27)).heap.size = w.heap.size + 1 + 1 := by simp
  generalize ((w.alloc (.cells #[.int .i64 a, .int .i64 b, .string r, .slice A n c] 27)).alloc (.cells #[.int .i64 0, .int .i64 0, .string ⟨#[]⟩, .slice none 0 0] 27)) = W at *
  have HB := hide hbW
  have RP : Hid (Box W (w.heap.size + 1) [.int .i64 0, .int .i64 0, .string ⟨#[]⟩, .slice none 0 0]) := rp
  clear hbW pb rp
  obtain ⟨b', r', l', fa, fb, ff, fd, ok, hP, hF, hO⟩ := tk_forms a b r l
  have HT := hide (And.intro hP (And.intro hF hO))
  clear hP hF hO
  refine (i_Take_is _ _ _ _ _ _ l _ _ _ _ _ _ _ _ _ (H.out.below HB.out) hn (by omega) HT.out.1 HT.out.2.1 HT.out.2.2).mono ?_
  rintro e w1 ⟨v, rfl, ho, hb⟩
  obtain ⟨Aq, cq, rfl⟩ := own_form ho
  rw [hWz] at ho
  have hs1 : w.heap.size + 1 + 1 ≤ w1.heap.size := by rw [← hWz]; exact hb.size
  have hrp1 := RP.out.1
  have D1 := hide (fun k hk => (ho.lt k hk).2)
  have OI := hide ho
  replace HB := hide (HB.out.trans (hb.mono HB.out.size))
  replace RP := hide (RP.out.below hb)
  clear ho hb hWz hrp1
  go_wp2_with fail
  obtain ⟨hA, qb, fb'⟩ := entry2 w1 #[.int .i64 a, .int .i64 b', .string r', .slice Aq l'.length cq] #[.int .i64 fa, .int .i64 fb, .int .i64 ff, .string fd] 27 41
  have QB : Hid (Box ((w1.alloc (.cells #[.int .i64 a, .int .i64 b', .string r', .slice Aq l'.length cq] 27)).alloc (.cells #[.int .i64 fa, .int .i64 fb, .int .i64 ff, .string fd] 41)) w1.heap.size [.int .i64 a, .int .i64 b', .string r', .slice Aq l'.length cq]) := qb
  have FB : Hid (Box ((w1.alloc (.cells #[.int .i64 a, .int .i64 b', .string r', .slice Aq l'.length cq] 27)).alloc (.cells #[.int .i64 fa, .int .i64 fb, .int .i64 ff, .string fd] 41)) (w1.heap.size + 1) [.int .i64 fa, .int .i64 fb, .int .i64 ff, .string fd]) := fb'
  clear qb fb'
  replace HB := hide (HB.out.trans (hA.mono HB.out.size))
  replace RP := hide (RP.out.below hA)
  replace OI := hide (own_below OI.out hA)
  clear hA
  generalize ((w1.alloc (.cells #[.int .i64 a, .int .i64 b', .string r', .slice Aq l'.length cq] 27)).alloc (.cells #[.int .i64 fa, .int .i64 fb, .int .i64 ff, .string fd] 41)) = W2 at *
  generalize w1.heap.size = gq at *
  have NQ : Hid ((Value.slice Aq l'.length cq).ownBlock ≠ some gq) := fun e => absurd (D1.out _ e) (by omega)
  have NF : Hid ((Value.slice Aq l'.length cq).ownBlock ≠ some (gq + 1)) := fun e => absurd (D1.out _ e) (by omega)
  clear D1
  go_loopg [4, 7] r.size (fun gk lv ov wr => ∃ (b0 : Int) (r0 : ByteArray) (l0 : List Int) (b' : Int) (r' : ByteArray) (l' : List Int) (fa fb ff : Int) (fd : ByteArray) (ok : Bool) (acc : List Fr4) (f : Nat) (Aq : Option Addr) (cq : Nat) (Al : Option Addr) (cl : Nat), gk = r0.size ∧ Hid (tkRun a f b0 r0 l0 acc = ((bF, rF, lF), fF)) ∧ r0.size < f ∧ r0.size ≤ 1048576 ∧ l0.length ≤ 1048576 ∧ acc.length ≤ 2000000 - r0.size ∧ Hid (tkP a b0 r0 l0 = (b', r', l') ∧ tkFr a b0 r0 l0 = (fa, fb, ff, fd) ∧ tkOk a b0 r0 l0 = ok) ∧ lv = .slice Al acc.length cl ∧ ov = .bool ok ∧ Hid (Box wr (w.heap.size + 1) [.int .i64 0, .int .i64 0, .string ⟨#[]⟩, .slice none 0 0]) ∧ Hid (Box wr gq [.int .i64 a, .int .i64 b', .string r', .slice Aq l'.length cq]) ∧ Hid (Box wr (gq + 1) [.int .i64 fa, .int .i64 fb, .int .i64 ff, .string fd]) ∧ Hid (wr.ownsRow (w.heap.size + 1 + 1) 3 1 (.slice Aq l'.length cq) l'.length (Is l')) ∧ Hid ((Value.slice Aq l'.length cq).ownBlock ≠ some gq) ∧ Hid ((Value.slice Aq l'.length cq).ownBlock ≠ some (gq + 1)) ∧ Hid (wr.ownsRow (gq + 1 + 1) 41 4 (.slice Al acc.length cl) acc.length (Frs acc)) ∧ Hid (Apart (.slice Aq l'.length cq) (.slice Al acc.length cl)) ∧ Hid (Below w.heap.size w wr) ∧ gq + 1 + 1 ≤ wr.heap.size)
  case atStart => exact ⟨b, r, l, b', r', l', fa, fb, ff, fd, ok, [], _, Aq, cq, none, 0, rfl, HRUN, Nat.lt_succ_self _, hr, by omega, by first | omega | (simp; done) | (simp; omega), HT, rfl, rfl, RP, QB, FB, OI, NQ, NF, World.ownsRow_nil _ _ _ _, (fun k hk e => by cases e), HB, FB.out.1⟩
  case round =>
    clear HRUN HT RP QB FB OI NQ NF HB
    obtain ⟨b0, r0, l0, b', r', l', fa, fb, ff, fd, ok, acc, f, Aq, cq, Al, cl, rfl, HRUN, hf, hr0, hl0, hacc, HT, rfl, rfl, RP, QB, FB, OI, NQ, NF, OF, AP, HB, hgs⟩ := hrel
    cases ok with
    | true =>
      obtain ⟨hz1, hz2⟩ := tk_less HT.out.2.2 HT.out.1
      cases f with
      | zero => exact absurd hf (by omega)
      | succ f =>
        replace HRUN := hide ((tkRun_go HT.out.2.2 HT.out.1 HT.out.2.1).symm.trans HRUN.out)
        clear HT
        have hx1 : w.heap.size + 1 < gq + 1 + 1 := by omega
        have f0 := FB.out.c 0 rfl
        have f1 := FB.out.c 1 rfl
        have f2 := FB.out.c 2 rfl
        have f3 := FB.out.c 3 rfl
        go_wp2_with (at_builtin; go_loud (refine wpList_appWH wr.heap.size rfl 45 41 (.agg #[.int .i64 0, .int .i64 0, .int .i64 0, .string ⟨#[]⟩]) 4 40 Try.underlying45 infoF rfl (by decide) (by decide) rfl _ _ rfl (gq + 1 + 1) _ acc.length 1 (Frs acc) [.int .i64 fa, .int .i64 fb, .int .i64 ff, .string fd] rfl OF.out rfl rfl rfl (one_fr _ _ _ _) (by omega) hgs ?_; intro v' w6 ho' hb' hs' hl'; obtain ⟨A2, c2, rfl⟩ := own_form ho'; have hz6 := hb'.size; replace RP := hide (RP.out.belowM hx1 hb'); replace QB := hide (QB.out.belowM (by omega) hb'); replace FB := hide (FB.out.belowM (by omega) hb'); replace HB := hide (HB.out.trans (hb'.mono (by omega))); have AP2 := hide (apart_lies OI.out AP.out hl'); replace OI := hide (own_apart OI.out hs' AP.out); replace hgs := Nat.le_trans hgs hz6; replace OF := hide ho'; clear ho' hb' hs' hl' f0 f1 f2 f3 AP; have q0 := QB.out.c 0 rfl; have q1 := QB.out.c 1 rfl; have q2 := QB.out.c 2 rfl; have q3 := QB.out.c 3 rfl))
        rw [show Frs acc ++ [.int .i64 fa, .int .i64 fb, .int .i64 ff, .string fd] = Frs (acc ++ [(fa, fb, ff, fd)]) from (Frs_snoc acc (fa, fb, ff, fd)).symm, show acc.length + 1 = (acc ++ [(fa, fb, ff, fd)]).length by simp] at OF
        obtain ⟨b2, r2, l2, ga, gb, gg, gd, ok2, hP, hF, hO⟩ := tk_forms a b' r' l'
        have HT := hide (And.intro hP (And.intro hF hO))
        clear hP hF hO
        refine (i_Take_is _ _ _ _ _ _ l' _ _ _ _ _ _ _ _ _ (RI.of_own OI.out) (by omega) (by omega) HT.out.1 HT.out.2.1 HT.out.2.2).mono ?_
        rintro e w7 ⟨v, rfl, ho, hb⟩
        obtain ⟨A3, c3, rfl⟩ := own_form ho
        clear q0 q1 q2 q3
        have N3 : Hid ((Value.slice A3 l2.length c3).ownBlock ≠ some gq) := fun e => absurd (ho.lt _ e).1 (by omega)
        have N4 : Hid ((Value.slice A3 l2.length c3).ownBlock ≠ some (gq + 1)) := fun e => absurd (ho.lt _ e).1 (by omega)
        have AP3 : Hid (Apart (.slice A3 l2.length c3) (.slice A2 (acc ++ [(fa, fb, ff, fd)]).length c2)) := by intro k hk e; have h1 := (ho.lt _ hk).1; have h2 := (OF.out.lt k e).2; omega
        have O3 := hide (own_mono ho (show (w.heap.size + 1 + 1) ≤ w6.heap.size by omega))
        have hz7 := hb.size
        replace hgs := Nat.le_trans hgs hb.size
        replace HB := hide (HB.out.trans (hb.mono HB.out.size))
        replace RP := hide (RP.out.below hb)
        replace QB := hide (QB.out.below hb)
        replace FB := hide (FB.out.below hb)
        replace OF := hide (own_below OF.out hb)
        clear ho hb OI AP2 NQ NF
        have q0 := QB.out.c 0 rfl
        have q1 := QB.out.c 1 rfl
        have q2 := QB.out.c 2 rfl
        have q3 := QB.out.c 3 rfl
        have qf0 := QB.out.f 0 (by simp)
        have qf1 := QB.out.f 1 (by simp)
        have qf2 := QB.out.f 2 (by simp)
        have qf3 := QB.out.f 3 (by simp)
        have f0 := FB.out.c 0 rfl
        have f1 := FB.out.c 1 rfl
        have f2 := FB.out.c 2 rfl
        have f3 := FB.out.c 3 rfl
        have ff0 := FB.out.f 0 (by simp)
        have ff1 := FB.out.f 1 (by simp)
        have ff2 := FB.out.f 2 (by simp)
        have ff3 := FB.out.f 3 (by simp)
        have nq : ¬ gq = gq + 1 := by omega
        have nq2 : ¬ gq + 1 = gq := by omega
        go_wp2_with fail
        go_roundg r'.size
        case measure => omega
        case rel =>
          refine ⟨b', r', l', b2, r2, l2, ga, gb, gg, gd, ok2, acc ++ [(fa, fb, ff, fd)], f, A3, c3, A2, c2, rfl, HRUN, by omega, by omega, by omega, by first | omega | (simp; done) | (simp; omega), HT, by first | rfl | simp, rfl, ?_, ?_, ?_, ?_, N3, N4, ?_, AP3, ?_, ?_⟩
          · exact (RP.out.oth4 (by omega) (.int .i64 a) (.int .i64 b2) (.string r2) (.slice A3 l2.length c3)).oth4 (by omega) (.int .i64 ga) (.int .i64 gb) (.int .i64 gg) (.string gd)
          · exact (QB.out.set4 (.int .i64 a) (.int .i64 b2) (.string r2) (.slice A3 l2.length c3)).oth4 (by omega) (.int .i64 ga) (.int .i64 gb) (.int .i64 gg) (.string gd)
          · exact (FB.out.oth4 (by omega) (.int .i64 a) (.int .i64 b2) (.string r2) (.slice A3 l2.length c3)).set4 (.int .i64 ga) (.int .i64 gb) (.int .i64 gg) (.string gd)
          · exact own_oth4 (own_oth4 O3.out N3.out (.int .i64 a) (.int .i64 b2) (.string r2) (.slice A3 l2.length c3)) N4.out (.int .i64 ga) (.int .i64 gb) (.int .i64 gg) (.string gd)
          · exact own_oth4 (own_oth4 OF.out (fun e => absurd (OF.out.lt _ e).1 (by omega)) (.int .i64 a) (.int .i64 b2) (.string r2) (.slice A3 l2.length c3)) (fun e => absurd (OF.out.lt _ e).1 (by omega)) (.int .i64 ga) (.int .i64 gb) (.int .i64 gg) (.string gd)
          · exact below_set4 (below_set4 HB.out (by omega) (.int .i64 a) (.int .i64 b2) (.string r2) (.slice A3 l2.length c3)) (by omega) (.int .i64 ga) (.int .i64 gb) (.int .i64 gg) (.string gd)
          · simp [World.setCell]; omega
    | false =>
      obtain ⟨rfl, rfl, rfl⟩ := tk_same HT.out.2.2 HT.out.1
      have hfe := (tkRun_stop HT.out.2.2).symm.trans HRUN.out
      injection hfe with e1 e2
      injection e1 with e0 e1
      injection e1 with e1 e3
      subst e0
      subst e1
      subst e2
      subst e3
      clear HRUN HT
      have q0 := QB.out.c 0 rfl
      have q1 := QB.out.c 1 rfl
      have q2 := QB.out.c 2 rfl
      have q3 := QB.out.c 3 rfl
      have r0 := RP.out.c 0 rfl
      have r1 := RP.out.c 1 rfl
      have r2 := RP.out.c 2 rfl
      have r3 := RP.out.c 3 rfl
      have rf0 := RP.out.f 0 (by simp)
      have rf1 := RP.out.f 1 (by simp)
      have rf2 := RP.out.f 2 (by simp)
      have rf3 := RP.out.f 3 (by simp)
      have n1 : ¬ gq = w.heap.size + 1 := by omega
      have n2 : ¬ w.heap.size + 1 = gq := by omega
      go_wp2_with fail
      refine bodyPost_ret (v := .tuple #[.agg #[.int .i64 a, .int .i64 b', .string r', .slice Aq l'.length cq], .slice Al acc.length cl]) (by simp [results, Try.results25, go_sem, r0, r1, r2, r3]) rfl ⟨_, _, rfl, ?_, ?_, AP.out, ?_⟩
      · have hoo := OI.out
        refine own_mono ?_ (show w.heap.size ≤ (w.heap.size + 1 + 1) by omega)
        repeat (first | with_reducible exact hoo | with_reducible refine World.ownsRow.drew ?_ | with_reducible refine own_set ?_ (by show w.heap.size + 1 < (w.heap.size + 1 + 1); omega) _)
      · have hoo := OF.out
        refine own_mono ?_ (show w.heap.size ≤ gq + 1 + 1 by omega)
        repeat (first | with_reducible exact hoo | with_reducible refine World.ownsRow.drew ?_ | with_reducible refine own_set ?_ (by show w.heap.size + 1 < gq + 1 + 1; omega) _)
      · have hbb := HB.out
        repeat (first | with_reducible exact hbb | with_reducible refine Below.drew ?_ | with_reducible refine below_drewN ?_ _ | with_reducible refine Below.setCell ?_ (by first | exact Nat.le_refl _ | exact Nat.le_succ _ | (simp; done) | omega | (simp; omega)) _)
end Go.Proofs.Ytnelfadmcpacbaa
