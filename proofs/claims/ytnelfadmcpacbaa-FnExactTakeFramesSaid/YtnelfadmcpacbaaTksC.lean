/- What TakeFrames returns in the reference: as in the program. -/
import Derived.Test.YtnelfadmcpacbaaTksB
namespace Go.Proofs.Ytnelfadmcpacbaa
open Go.RowKit Sat
set_option linter.unusedVariables false
set_option linter.unusedSimpArgs false
attribute [local go_sem ↓] Go.wp_at_zero Go.wp_at_succ

set_option maxRecDepth 100000 in
set_option maxHeartbeats 20000000 in
theorem s_TakeFrames (a b : Int) (r : ByteArray) (A : Option Addr) (n c : Nat) (l : List Int) (bF : Int) (rF : ByteArray) (lF : List Int) (fF : List Fr4) (w : World) (h : RI w A n l) (hc : A = none → c = 0) (hn : n ≤ 1048576) (hr : r.size ≤ 1048576) (hF : tkAll a b r l = ((bF, rF, lF), fF)) :
    Calls Try.prog 24 #[.agg #[.int .i64 a, .int .i64 b, .string r, .slice A n c]] w (MadeTakes a bF rF lF fF w) := by
  have hzl : l.length = n := h.1
  have HRUN : Hid (tkRun a (r.size + 1) b r l [] = ((bF, rF, lF), fF)) := hF
  have H := hide h
  have HCN := hide hc
  clear h hF hc
  go_enter Try.func24, Try.ntmps24
  go_wp2_with fail
  obtain ⟨hbW, pb, rp⟩ := entry2 w #[.int .i64 a, .int .i64 b, .string r, .slice A n c] #[.int .i64 0, .int .i64 0, .string ⟨#[]⟩, .slice none 0 0] 27 27
  have hWz : ((w.alloc (.cells #[.int .i64 a, .int .i64 b, .string r, .slice A n c] 27)).alloc (.cells #[.int .i64 0, .int .i64 0, .string ⟨#[]⟩, .slice none 0 0] 27)).heap.size = w.heap.size + 1 + 1 := by simp
  generalize ((w.alloc (.cells #[.int .i64 a, .int .i64 b, .string r, .slice A n c] 27)).alloc (.cells #[.int .i64 0, .int .i64 0, .string ⟨#[]⟩, .slice none 0 0] 27)) = W at *
  have HB := hide hbW
  have RP : Hid (Box W (w.heap.size + 1) [.int .i64 0, .int .i64 0, .string ⟨#[]⟩, .slice none 0 0]) := rp
  clear hbW pb rp
  refine (s_l03Copy _ _ _ _ _ _ l _ (H.out.below HB.out) HCN.out hn).mono ?_
  rintro e w1 ⟨v, rfl, ho, hb⟩
  obtain ⟨Ao, co, rfl⟩ := own_form ho
  rw [hWz] at ho
  have hs1 : w.heap.size + 1 + 1 ≤ w1.heap.size := by rw [← hWz]; exact hb.size
  have D1 := hide (fun k hk => (ho.lt k hk).2)
  have OI := hide ho
  replace HB := hide (HB.out.trans (hb.mono HB.out.size))
  replace RP := hide (RP.out.below hb)
  clear ho hb hWz
  subst hzl
  go_wp2_with fail
  obtain ⟨hA, ob⟩ := entry1 w1 #[.int .i64 a, .int .i64 b, .string r, .slice Ao l.length co] 27
  have OBX : Hid (Box (w1.alloc (.cells #[.int .i64 a, .int .i64 b, .string r, .slice Ao l.length co] 27)) w1.heap.size [.int .i64 a, .int .i64 b, .string r, .slice Ao l.length co]) := ob
  have hoz : (w1.alloc (.cells #[.int .i64 a, .int .i64 b, .string r, .slice Ao l.length co] 27)).heap.size = w1.heap.size + 1 := by simp
  clear ob
  replace HB := hide (HB.out.trans (hA.mono HB.out.size))
  replace RP := hide (RP.out.below hA)
  replace OI := hide (own_below OI.out hA)
  clear hA
  generalize (w1.alloc (.cells #[.int .i64 a, .int .i64 b, .string r, .slice Ao l.length co] 27)) = W2 at *
  generalize w1.heap.size = gout at *
  have OF := hide (own_lit W2 41 4)
  have hA2 : Below W2.heap.size W2 (W2.alloc (.cells #[] 41)) := (Below.refl _ _).alloc (Nat.le_refl _) _
  have hgs : W2.heap.size ≤ (W2.alloc (.cells #[] 41)).heap.size := hA2.size
  replace HB := hide (HB.out.trans (hA2.mono HB.out.size))
  replace RP := hide (RP.out.below hA2)
  replace OI := hide (own_below OI.out hA2)
  replace OBX := hide (OBX.out.below hA2)
  clear hA2
  generalize (W2.alloc (.cells #[] 41)) = W3 at *
  rw [hoz] at OF hgs
  clear hoz
  have NO : Hid ((Value.slice Ao l.length co).ownBlock ≠ some gout) := fun e => absurd (D1.out _ e) (by omega)
  have AP : Hid (Apart (.slice Ao l.length co) (.slice (some ⟨gout + 1, 0, none⟩) ([] : List Fr4).length 0)) := by intro k hk e; have h1 := D1.out _ hk; have e' : gout + 1 = k := (by injection e); omega
  clear D1
  go_loopg [5, 6, 7, 8] r.size (fun gk lv xv fv ov wr => ∃ (b0 : Int) (r0 : ByteArray) (l0 : List Int) (acc : List Fr4) (f : Nat) (Ao : Option Addr) (co : Nat) (Al : Option Addr) (cl : Nat), gk = r0.size ∧ Hid (tkRun a f b0 r0 l0 acc = ((bF, rF, lF), fF)) ∧ r0.size < f ∧ r0.size ≤ 1048576 ∧ l0.length ≤ 1048576 ∧ acc.length ≤ 2000000 - r0.size ∧ lv = .slice Al acc.length cl ∧ Hid (Box wr (w.heap.size + 1) [.int .i64 0, .int .i64 0, .string ⟨#[]⟩, .slice none 0 0]) ∧ Hid (Box wr gout [.int .i64 a, .int .i64 b0, .string r0, .slice Ao l0.length co]) ∧ Hid (wr.ownsRow (w.heap.size + 1 + 1) 3 1 (.slice Ao l0.length co) l0.length (Is l0)) ∧ Hid ((Value.slice Ao l0.length co).ownBlock ≠ some gout) ∧ Hid (wr.ownsRow (gout + 1) 41 4 (.slice Al acc.length cl) acc.length (Frs acc)) ∧ Hid (Apart (.slice Ao l0.length co) (.slice Al acc.length cl)) ∧ Hid (Below w.heap.size w wr) ∧ gout + 1 ≤ wr.heap.size)
  case atStart => exact ⟨b, r, l, [], _, Ao, co, some ⟨gout + 1, 0, none⟩, 0, rfl, HRUN, Nat.lt_succ_self _, hr, by omega, by first | omega | (simp; done) | (simp; omega), rfl, RP, OBX, OI, NO, OF, AP, HB, hgs⟩
  case round =>
    clear HRUN RP OBX OI NO OF AP HB hgs
    obtain ⟨b0, r0, l0, acc, f, Ao, co, Al, cl, rfl, HRUN, hf, hr0, hl0, hacc, rfl, RP, OBX, OI, NO, OF, AP, HB, hgs⟩ := hrel
    have hgwr : gout + 1 ≤ wr.heap.size := hgs
    obtain ⟨b', r', l', fa, fb, ff, fd, ok, hP, hF, hO⟩ := tk_forms a b0 r0 l0
    have HT := hide (And.intro hP (And.intro hF hO))
    clear hP hF hO
    have q0 := OBX.out.c 0 rfl
    have q1 := OBX.out.c 1 rfl
    have q2 := OBX.out.c 2 rfl
    have q3 := OBX.out.c 3 rfl
    go_wp2_with fail
    refine (s_Take_is _ _ _ _ _ _ l0 _ _ _ _ _ _ _ _ _ (RI.of_own OI.out) (own_nilc OI.out) (by omega) (by omega) HT.out.1 HT.out.2.1 HT.out.2.2).mono ?_
    rintro e w7 ⟨v, rfl, ho, hb⟩
    obtain ⟨A3, c3, rfl⟩ := own_form ho
    clear q0 q1 q2 q3
    have hz7 := hb.size
    have OI7 := hide (own_below OI.out hb)
    have OF7 := hide (own_below OF.out hb)
    replace hgs := Nat.le_trans hgs hb.size
    replace HB := hide (HB.out.trans (hb.mono HB.out.size))
    replace RP := hide (RP.out.below hb)
    replace OBX := hide (OBX.out.below hb)
    have hol : gout < w7.heap.size := OBX.out.1
    have hon : ¬ gout = w7.heap.size := by omega
    have hon2 : ¬ gout = w7.heap.size + 1 := by omega
    have hrl : w.heap.size + 1 < w7.heap.size := RP.out.1
    have hrn : ¬ w.heap.size + 1 = w7.heap.size := by omega
    have hrn2 : ¬ w.heap.size + 1 = w7.heap.size + 1 := by omega
    cases ok with
    | true =>
      obtain ⟨hz1, hz2⟩ := tk_less HT.out.2.2 HT.out.1
      cases f with
      | zero => exact absurd hf (by omega)
      | succ f =>
        replace HRUN := hide ((tkRun_go HT.out.2.2 HT.out.1 HT.out.2.1).symm.trans HRUN.out)
        clear HT
        have N3 : Hid ((Value.slice A3 l'.length c3).ownBlock ≠ some gout) := fun e => absurd (ho.lt _ e).1 (by omega)
        have AP3 : Hid (Apart (.slice A3 l'.length c3) (.slice Al acc.length cl)) := by intro k hk e; have h1 := (ho.lt _ hk).1; have h2 := (OF.out.lt k e).2; omega
        have O3 := hide (own_mono ho (show (w.heap.size + 1 + 1) ≤ wr.heap.size by omega))
        clear ho hb OI OF OI7 AP NO
        have q0 := OBX.out.c 0 rfl
        have q1 := OBX.out.c 1 rfl
        have q2 := OBX.out.c 2 rfl
        have q3 := OBX.out.c 3 rfl
        have qf0 := OBX.out.f 0 (by simp)
        have qf1 := OBX.out.f 1 (by simp)
        have qf2 := OBX.out.f 2 (by simp)
        have qf3 := OBX.out.f 3 (by simp)
        go_upto_region 6 with fail
        obtain ⟨hA, xb, fb'⟩ := entry2 w7 #[.int .i64 a, .int .i64 b', .string r', .slice A3 l'.length c3] #[.int .i64 fa, .int .i64 fb, .int .i64 ff, .string fd] 27 41
        have XB : Hid (Box ((w7.alloc (.cells #[.int .i64 a, .int .i64 b', .string r', .slice A3 l'.length c3] 27)).alloc (.cells #[.int .i64 fa, .int .i64 fb, .int .i64 ff, .string fd] 41)) w7.heap.size [.int .i64 a, .int .i64 b', .string r', .slice A3 l'.length c3]) := xb
        have FB : Hid (Box ((w7.alloc (.cells #[.int .i64 a, .int .i64 b', .string r', .slice A3 l'.length c3] 27)).alloc (.cells #[.int .i64 fa, .int .i64 fb, .int .i64 ff, .string fd] 41)) (w7.heap.size + 1) [.int .i64 fa, .int .i64 fb, .int .i64 ff, .string fd]) := fb'
        clear xb fb'
        clear q0 q1 q2 q3 qf0 qf1 qf2 qf3
        replace hgs := Nat.le_trans hgs hA.size
        replace HB := hide (HB.out.trans (hA.mono HB.out.size))
        replace RP := hide (RP.out.below hA)
        replace OBX := hide (OBX.out.below hA)
        replace O3 := hide (own_below O3.out hA)
        replace OF7 := hide (own_below OF7.out hA)
        clear hA hon hon2 hrl hrn hrn2
        generalize ((w7.alloc (.cells #[.int .i64 a, .int .i64 b', .string r', .slice A3 l'.length c3] 27)).alloc (.cells #[.int .i64 fa, .int .i64 fb, .int .i64 ff, .string fd] 41)) = W8 at *
        generalize hgx : w7.heap.size = gx at *
        have q0 := OBX.out.c 0 rfl
        have q1 := OBX.out.c 1 rfl
        have q2 := OBX.out.c 2 rfl
        have q3 := OBX.out.c 3 rfl
        have qf0 := OBX.out.f 0 (by simp)
        have qf1 := OBX.out.f 1 (by simp)
        have qf2 := OBX.out.f 2 (by simp)
        have qf3 := OBX.out.f 3 (by simp)
        have x0 := XB.out.c 0 rfl
        have x1 := XB.out.c 1 rfl
        have x2 := XB.out.c 2 rfl
        have x3 := XB.out.c 3 rfl
        have f0 := FB.out.c 0 rfl
        have f1 := FB.out.c 1 rfl
        have f2 := FB.out.c 2 rfl
        have f3 := FB.out.c 3 rfl
        have n1 : ¬ gout = gx := by omega
        have n2 : ¬ gx = gout := by omega
        have n3 : ¬ gout = gx + 1 := by omega
        have n4 : ¬ gx + 1 = gout := by omega
        go_upto_region 7 with fail
        replace RP := hide (RP.out.oth4 (show gout ≠ w.heap.size + 1 by omega) (.int .i64 a) (.int .i64 b') (.string r') (.slice A3 l'.length c3))
        replace OBX := hide (OBX.out.set4 (.int .i64 a) (.int .i64 b') (.string r') (.slice A3 l'.length c3))
        replace FB := hide (FB.out.oth4 (show gout ≠ gx + 1 by omega) (.int .i64 a) (.int .i64 b') (.string r') (.slice A3 l'.length c3))
        replace O3 := hide (own_oth4 O3.out N3.out (.int .i64 a) (.int .i64 b') (.string r') (.slice A3 l'.length c3))
        replace OF7 := hide (own_oth4 OF7.out (show (Value.slice Al acc.length cl).ownBlock ≠ some gout from fun e => absurd (OF7.out.lt _ e).1 (by omega)) (.int .i64 a) (.int .i64 b') (.string r') (.slice A3 l'.length c3))
        replace HB := hide (below_set4 HB.out (show w.heap.size ≤ gout by omega) (.int .i64 a) (.int .i64 b') (.string r') (.slice A3 l'.length c3))
        replace hgs : gout + 1 ≤ ((((W8.setCell ⟨gout, 0, none⟩ (.int .i64 a)).setCell ⟨gout, 1, none⟩ (.int .i64 b')).setCell ⟨gout, 2, none⟩ (.string r')).setCell ⟨gout, 3, none⟩ (.slice A3 l'.length c3)).heap.size := by simp [World.setCell]; omega
        clear q0 q1 q2 q3 qf0 qf1 qf2 qf3
        clear x0 x1 x2 x3
        clear f0 f1 f2 f3
        clear XB
        generalize ((((W8.setCell ⟨gout, 0, none⟩ (.int .i64 a)).setCell ⟨gout, 1, none⟩ (.int .i64 b')).setCell ⟨gout, 2, none⟩ (.string r')).setCell ⟨gout, 3, none⟩ (.slice A3 l'.length c3)) = W9 at *
        have f0 := FB.out.c 0 rfl
        have f1 := FB.out.c 1 rfl
        have f2 := FB.out.c 2 rfl
        have f3 := FB.out.c 3 rfl
        go_wp2_with (at_builtin; go_loud (refine wpList_appWH W9.heap.size rfl 45 41 (.agg #[.int .i64 0, .int .i64 0, .int .i64 0, .string ⟨#[]⟩]) 4 40 Try.underlying45 infoF rfl (by decide) (by decide) rfl _ _ rfl (gout + 1) _ acc.length 1 (Frs acc) [.int .i64 fa, .int .i64 fb, .int .i64 ff, .string fd] rfl OF7.out rfl rfl rfl (one_fr _ _ _ _) (by omega) hgs ?_; intro v' w6 ho' hb' hs' hl'; obtain ⟨A2, c2, rfl⟩ := own_form ho'; have hz6 := hb'.size; have hx1 : w.heap.size + 1 < gout + 1 := (by omega); replace RP := hide (RP.out.belowM hx1 hb'); replace OBX := hide (OBX.out.belowM (Nat.lt_succ_self gout) hb'); replace HB := hide (HB.out.trans (hb'.mono (by omega))); have AP2 := hide (apart_lies O3.out AP3.out hl'); replace O3 := hide (own_apart O3.out hs' AP3.out); replace hgs := Nat.le_trans hgs hz6; replace OF7 := hide ho'; clear ho' hb' hs' hl' f0 f1 f2 f3 AP3 FB))
        rw [show Frs acc ++ [.int .i64 fa, .int .i64 fb, .int .i64 ff, .string fd] = Frs (acc ++ [(fa, fb, ff, fd)]) from (Frs_snoc acc (fa, fb, ff, fd)).symm, show acc.length + 1 = (acc ++ [(fa, fb, ff, fd)]).length by simp] at OF7
        go_roundg r'.size
        case measure => omega
        case rel => exact ⟨b', r', l', acc ++ [(fa, fb, ff, fd)], f, A3, c3, A2, c2, rfl, HRUN, by omega, by omega, by omega, by first | omega | (simp; done) | (simp; omega), by first | rfl | simp, RP, OBX, O3, N3, OF7, by first | exact AP2 | simpa using AP2, HB, hgs⟩
    | false =>
      have hfe := (tkRun_stop HT.out.2.2).symm.trans HRUN.out
      injection hfe with e1 e2
      injection e1 with e0 e1
      injection e1 with e1 e3
      subst e0
      subst e1
      subst e2
      subst e3
      clear HRUN HT ho hb
      go_upto_region 5 with fail
      obtain ⟨hA, xb, fb'⟩ := entry2 w7 #[.int .i64 a, .int .i64 b', .string r', .slice A3 l'.length c3] #[.int .i64 fa, .int .i64 fb, .int .i64 ff, .string fd] 27 41
      clear xb fb'
      replace HB := hide (HB.out.trans (hA.mono HB.out.size))
      replace RP := hide (RP.out.below hA)
      replace OBX := hide (OBX.out.below hA)
      replace OI7 := hide (own_below OI7.out hA)
      replace OF7 := hide (own_below OF7.out hA)
      clear hA
      generalize ((w7.alloc (.cells #[.int .i64 a, .int .i64 b', .string r', .slice A3 l'.length c3] 27)).alloc (.cells #[.int .i64 fa, .int .i64 fb, .int .i64 ff, .string fd] 41)) = W8 at *
      have q0 := OBX.out.c 0 rfl
      have q1 := OBX.out.c 1 rfl
      have q2 := OBX.out.c 2 rfl
      have q3 := OBX.out.c 3 rfl
      have r0_ := RP.out.c 0 rfl
      have r1 := RP.out.c 1 rfl
      have r2 := RP.out.c 2 rfl
      have r3 := RP.out.c 3 rfl
      have rf0 := RP.out.f 0 (by simp)
      have rf1 := RP.out.f 1 (by simp)
      have rf2 := RP.out.f 2 (by simp)
      have rf3 := RP.out.f 3 (by simp)
      have n1 : ¬ gout = w.heap.size + 1 := by omega
      have n2 : ¬ w.heap.size + 1 = gout := by omega
      go_wp2_with fail
      refine bodyPost_ret (v := .tuple #[.agg #[.int .i64 a, .int .i64 b0, .string r0, .slice Ao l0.length co], .slice Al acc.length cl]) (by simp [results, Try.results24, go_sem, r0_, r1, r2, r3]) rfl ⟨_, _, rfl, ?_, ?_, AP.out, ?_⟩
      · have hoo := OI7.out
        refine own_mono ?_ (show w.heap.size ≤ (w.heap.size + 1 + 1) by omega)
        repeat (first | with_reducible exact hoo | with_reducible refine World.ownsRow.drew ?_ | with_reducible refine World.ownsRow.alloc ?_ _ | with_reducible refine own_set ?_ (by show w.heap.size + 1 < (w.heap.size + 1 + 1); omega) _)
      · have hoo := OF7.out
        refine own_mono ?_ (show w.heap.size ≤ gout + 1 by omega)
        repeat (first | with_reducible exact hoo | with_reducible refine World.ownsRow.drew ?_ | with_reducible refine World.ownsRow.alloc ?_ _ | with_reducible refine own_set ?_ (by show w.heap.size + 1 < gout + 1; omega) _)
      · have hbb := HB.out
        repeat (first | with_reducible exact hbb | with_reducible refine Below.drew ?_ | with_reducible refine below_drewN ?_ _ | with_reducible refine Below.setCell ?_ (by first | exact Nat.le_refl _ | exact Nat.le_succ _ | (simp; done) | omega | (simp; omega)) _ | with_reducible refine Below.alloc ?_ (by first | omega | (simp; omega)) _)
end Go.Proofs.Ytnelfadmcpacbaa
