/- What TakeFrame returns in the reference. -/
import Derived.Test.YtnelfadmcpacbaaPckD
import Derived.Deep.AppendLies
import Derived.Deep.RegionLaw
namespace Go.Proofs.Ytnelfadmcpacbaa
open Go.RowKit Sat
set_option linter.unusedVariables false
set_option linter.unusedSimpArgs false
attribute [local go_sem ↓] Go.wp_at_zero Go.wp_at_succ

theorem Box.set41 {w : World} {g : Nat} {a0 a1 a2 a3 v : Value} (h : Box w g [a0, a1, a2, a3]) : Box (w.setCell ⟨g, 1, none⟩ v) g [a0, v, a2, a3] := by
  have c0 := h.c 0 rfl
  have c1 := h.c 1 rfl
  have c2 := h.c 2 rfl
  have c3 := h.c 3 rfl
  have f0 := h.f 0 (by simp)
  have f1 := h.f 1 (by simp)
  have f2 := h.f 2 (by simp)
  have f3 := h.f 3 (by simp)
  refine ⟨by simp [World.setCell]; exact h.1, ?_, ?_⟩
  · intro j hj
    match j, hj with
    | 0, _ => simp [go_sem, c0]
    | 1, _ => simp [go_sem, c1]
    | 2, _ => simp [go_sem, c2]
    | 3, _ => simp [go_sem, c3]
  · intro j hj
    match j, hj with
    | 0, _ => simp [go_sem, f0]
    | 1, _ => simp [go_sem, f1]
    | 2, _ => simp [go_sem, f2]
    | 3, _ => simp [go_sem, f3]
theorem Box.other {w : World} {g : Nat} {vs : List Value} (h : Box w g vs) (p : Addr) (hp : p.block ≠ g) (u : Value) : Box (w.setCell p u) g vs :=
  ⟨by simp [World.setCell]; exact h.1, fun j hj => by rw [World.cell?_setCell_far w p ⟨g, j, none⟩ u hp]; exact h.2.1 j hj, fun j hj => by have := h.2.2 j hj; simp [go_sem, this]⟩
theorem s_PackerOk_is (a b : Int) (r : ByteArray) (A : Option Addr) (n c : Nat) (l : List Int) (ok : Bool) (w : World) (h : RI w A n l) (hn : n ≤ 1048576) (hr : r.size ≤ 1099511627776) (hk : pkOk a b r l = ok) :
    Calls Try.prog 11 #[.agg #[.int .i64 a, .int .i64 b, .string r, .slice A n c]] w fun e w' => e = .returned (.bool ok) ∧ Below w.heap.size w w' := by
  subst hk; exact s_PackerOk a b r A n c l w h hn hr
set_option maxHeartbeats 1600000 in
theorem s_TakeFrame_no (a b : Int) (r : ByteArray) (A : Option Addr) (n c : Nat) (l : List Int) (w : World) (h : RI w A n l) (hc : A = none → c = 0) (hn : n ≤ 1048576) (hr : r.size ≤ 1099511627776) (hk : tkOk a b r l = false) :
    Calls Try.prog 21 #[.agg #[.int .i64 a, .int .i64 b, .string r, .slice A n c]] w (MadeTake a b r l w) := by
  have HK := hide hk
  have H := hide h
  have HL := hide h.1
  have HCN := hide hc
  obtain ⟨ok, hok⟩ : ∃ ok, pkOk a b r l = ok := ⟨_, rfl⟩
  have HP := hide hok
  have hd : ok = true → r.size < 24 := by
    intro e
    unfold tkOk at hk
    rw [hok, e] at hk
    have := of_decide_eq_false (show decide (24 ≤ r.size) = false from hk)
    omega
  have HD := hide hd
  clear h hk hok hc hd
  go_enter Try.func21, Try.ntmps21
  go_wp2_with fail
  obtain ⟨hbW, pb, rp, rf⟩ := take_entry w a b r A n c
  generalize (((w.alloc (.cells #[.int .i64 a, .int .i64 b, .string r, .slice A n c] 27)).alloc (.cells #[.int .i64 0, .int .i64 0, .string ⟨#[]⟩, .slice none 0 0] 27)).alloc (.cells #[.int .i64 0, .int .i64 0, .int .i64 0, .string ⟨#[]⟩] 41)) = W at *
  have HW := hide hbW
  have PB := hide pb
  have RP := hide rp
  have RF := hide rf
  have HR := hide (H.out.below hbW)
  clear hbW pb rp rf H
  refine (s_l03Copy _ _ _ _ _ _ l _ HR.out HCN.out hn).mono ?_
  rintro e w1 ⟨v1, rfl, ho, hb⟩
  obtain ⟨A1, c1, rfl⟩ := own_form ho
  have HB1 := hide (HW.out.trans (hb.mono HW.out.size))
  have PB1 := hide (PB.out.below hb)
  have RP1 := hide (RP.out.below hb)
  have RF1 := hide (RF.out.below hb)
  have HR1 := hide (HR.out.below hb)
  have O1 := hide ho
  have HGW := hide (And.intro RP.out.1 (And.intro RF.out.1 HW.out.size))
  clear hb ho HR PB RP RF HW
  have hpl : w.heap.size < w1.heap.size := PB1.out.1
  have hpn : ¬ w.heap.size = w1.heap.size := by omega
  have p0 := PB1.out.c 0 rfl
  have p1 := PB1.out.c 1 rfl
  have p2 := PB1.out.c 2 rfl
  have p3 := PB1.out.c 3 rfl
  go_wp2_with fail
  have hA : Below w1.heap.size w1 (w1.alloc (.cells #[.int .i64 a, .int .i64 b, .string r, .slice A1 n c1] 27)) := (Below.refl _ _).alloc (Nat.le_refl _) _
  have ob : Box (w1.alloc (.cells #[.int .i64 a, .int .i64 b, .string r, .slice A1 n c1] 27)) w1.heap.size [.int .i64 a, .int .i64 b, .string r, .slice A1 n c1] := by simpa using Box.new w1 #[.int .i64 a, .int .i64 b, .string r, .slice A1 n c1] 27
  have BWo := hide hA
  have OBo := hide ob
  have Oo := hide (own_below O1.out hA)
  clear hA ob p0 p1 p2 p3 O1
  generalize (w1.alloc (.cells #[.int .i64 a, .int .i64 b, .string r, .slice A1 n c1] 27)) = Wo at *
  have p0 := (PB1.out.below BWo.out).c 0 rfl
  have p1 := (PB1.out.below BWo.out).c 1 rfl
  have p2 := (PB1.out.below BWo.out).c 2 rfl
  have p3 := (PB1.out.below BWo.out).c 3 rfl
  refine (s_PackerOk_is _ _ _ _ _ _ l _ _ (HR1.out.below BWo.out) hn hr HP.out).mono ?_
  rintro e w2 ⟨rfl, hb⟩
  have BW2 := hide (BWo.out.trans (hb.mono BWo.out.size))
  have OB2 := hide (OBo.out.below hb)
  have O2 := hide (own_below Oo.out hb)
  clear hb BWo OBo Oo p0 p1 p2 p3
  have p0 := (PB1.out.below BW2.out).c 0 rfl
  have p1 := (PB1.out.below BW2.out).c 1 rfl
  have p2 := (PB1.out.below BW2.out).c 2 rfl
  have p3 := (PB1.out.below BW2.out).c 3 rfl
  have rp := RP1.out.below BW2.out
  have rf := RF1.out.below BW2.out
  have hg1 : w.heap.size + 1 < w1.heap.size := RP1.out.1
  have hg2 : w.heap.size + 1 + 1 < w1.heap.size := RF1.out.1
  have HB := hide (HB1.out.trans (BW2.out.mono HB1.out.size))
  have HG := hide (And.intro hg1 (And.intro hg2 HB1.out.size))
  have r0 := rp.c 0 rfl
  have r1 := rp.c 1 rfl
  have r2 := rp.c 2 rfl
  have r3 := rp.c 3 rfl
  have q0 := rp.f 0 (by simp)
  have q1 := rp.f 1 (by simp)
  have q2 := rp.f 2 (by simp)
  have q3 := rp.f 3 (by simp)
  have f0 := rf.c 0 rfl
  have f1 := rf.c 1 rfl
  have f2 := rf.c 2 rfl
  have f3 := rf.c 3 rfl
  have z0 := rf.f 0 (by simp)
  have z1 := rf.f 1 (by simp)
  have z2 := rf.f 2 (by simp)
  have z3 := rf.f 3 (by simp)
  have o0 := OB2.out.c 0 rfl
  have o1 := OB2.out.c 1 rfl
  have o2 := OB2.out.c 2 rfl
  have o3 := OB2.out.c 3 rfl
  clear rp rf hg1 hg2
  cases ok with
  | false =>
    go_wp2_with fail
    refine bodyPost_ret (v := .tuple #[.agg #[.int .i64 a, .int .i64 b, .string r, .slice A1 n c1], .agg #[.int .i64 0, .int .i64 0, .int .i64 0, .string ⟨#[]⟩], .bool false]) (by simp [results, Try.results21, go_sem, r0, r1, r2, r3, f0, f1, f2, f3]) rfl (made_take_no HK.out ?_ ?_)
    · obtain ⟨hg1, hg2, hg3⟩ := HGW.out
      have hoo := O2.out
      rw [HL.out]
      refine own_mono ?_ hg3
      repeat (first | with_reducible exact hoo | with_reducible refine World.ownsRow.drew ?_ | with_reducible refine own_set ?_ (by first | exact hg1 | exact hg2) _)
    · have hbb := HB.out
      repeat (first | with_reducible exact hbb | with_reducible refine Below.drew ?_ | with_reducible refine below_drewN ?_ _ | with_reducible refine Below.setCell ?_ (by first | exact Nat.le_refl _ | exact Nat.le_succ _ | (simp; done) | omega | (simp; omega)) _)
  | true =>
    have hlt := HD.out rfl
    go_wp2_with fail
    refine bodyPost_ret (v := .tuple #[.agg #[.int .i64 a, .int .i64 b, .string r, .slice A1 n c1], .agg #[.int .i64 0, .int .i64 0, .int .i64 0, .string ⟨#[]⟩], .bool false]) (by simp [results, Try.results21, go_sem, r0, r1, r2, r3, f0, f1, f2, f3]) rfl (made_take_no HK.out ?_ ?_)
    · obtain ⟨hg1, hg2, hg3⟩ := HGW.out
      have hoo := O2.out
      rw [HL.out]
      refine own_mono ?_ hg3
      repeat (first | with_reducible exact hoo | with_reducible refine World.ownsRow.drew ?_ | with_reducible refine own_set ?_ (by first | exact hg1 | exact hg2) _)
    · have hbb := HB.out
      repeat (first | with_reducible exact hbb | with_reducible refine Below.drew ?_ | with_reducible refine below_drewN ?_ _ | with_reducible refine Below.setCell ?_ (by first | exact Nat.le_refl _ | exact Nat.le_succ _ | (simp; done) | omega | (simp; omega)) _)
set_option maxHeartbeats 3200000 in
theorem s_TakeFrame_yes (a b : Int) (r : ByteArray) (A : Option Addr) (n c : Nat) (l : List Int) (w : World) (h : RI w A n l) (hc : A = none → c = 0) (hn : n ≤ 1048576) (hr : r.size ≤ 1099511627776) (hk : tkOk a b r l = true) :
    Calls Try.prog 21 #[.agg #[.int .i64 a, .int .i64 b, .string r, .slice A n c]] w (MadeTake a b r l w) := by
  have HK := hide hk
  have H := hide h
  have HL := hide h.1
  have HCN := hide hc
  unfold tkOk at hk
  rw [Bool.and_eq_true, decide_eq_true_eq] at hk
  have hp := hk.1
  have hge := hk.2
  have hb0 : 0 ≤ b ∧ b ≤ 255 := by
    unfold pkOk at hp
    simp only [Bool.and_eq_true] at hp
    exact of_inR hp.1.1.2
  have hb1 := hb0.1
  have hb2 := hb0.2
  have HX := hide (show ∀ k, k < n → 0 ≤ l.getD k 0 ∧ l.getD k 0 ≤ 5000 by
    intro k hkn
    unfold pkOk at hp
    simp only [Bool.and_eq_true, decide_eq_true_eq] at hp
    have := stTo_in l.length hp.2 k (by rw [HL.out]; exact hkn)
    omega)
  have HP := hide hp
  clear h hk hp hb0 hc
  have hF : (0 < n ∧ l.getD 0 0 < 24) ∨ (0 < n ∧ ¬ l.getD 0 0 < 24) ∨ n = 0 := by omega
  have HFF := hide (show tkF l = if 0 < n ∧ l.getD 0 0 < 24 then l.getD 0 0 else 255 by unfold tkF; rw [HL.out])
  go_enter Try.func21, Try.ntmps21
  go_wp2_with fail
  obtain ⟨hbW, pb, rp, rf⟩ := take_entry w a b r A n c
  generalize (((w.alloc (.cells #[.int .i64 a, .int .i64 b, .string r, .slice A n c] 27)).alloc (.cells #[.int .i64 0, .int .i64 0, .string ⟨#[]⟩, .slice none 0 0] 27)).alloc (.cells #[.int .i64 0, .int .i64 0, .int .i64 0, .string ⟨#[]⟩] 41)) = W at *
  have HW := hide hbW
  have PB := hide pb
  have RP := hide rp
  have RF := hide rf
  have HR := hide (H.out.below hbW)
  clear hbW pb rp rf H
  refine (s_l03Copy _ _ _ _ _ _ l _ HR.out HCN.out hn).mono ?_
  rintro e w1 ⟨v1, rfl, ho, hb⟩
  obtain ⟨A1, c1, rfl⟩ := own_form ho
  have HB1 := hide (HW.out.trans (hb.mono HW.out.size))
  have PB1 := hide (PB.out.below hb)
  have RP1 := hide (RP.out.below hb)
  have RF1 := hide (RF.out.below hb)
  have HR1 := hide (HR.out.below hb)
  have O1 := hide ho
  have HGW := hide (And.intro RP.out.1 (And.intro RF.out.1 HW.out.size))
  clear hb ho HR PB RP RF HW
  have hpl : w.heap.size < w1.heap.size := PB1.out.1
  have hpn : ¬ w.heap.size = w1.heap.size := by omega
  have p0 := PB1.out.c 0 rfl
  have p1 := PB1.out.c 1 rfl
  have p2 := PB1.out.c 2 rfl
  have p3 := PB1.out.c 3 rfl
  go_wp2_with fail
  have hA : Below w1.heap.size w1 (w1.alloc (.cells #[.int .i64 a, .int .i64 b, .string r, .slice A1 n c1] 27)) := (Below.refl _ _).alloc (Nat.le_refl _) _
  have ob : Box (w1.alloc (.cells #[.int .i64 a, .int .i64 b, .string r, .slice A1 n c1] 27)) w1.heap.size [.int .i64 a, .int .i64 b, .string r, .slice A1 n c1] := by simpa using Box.new w1 #[.int .i64 a, .int .i64 b, .string r, .slice A1 n c1] 27
  have BWo := hide hA
  have OBo := hide ob
  have Oo := hide (own_below O1.out hA)
  clear hA ob p0 p1 p2 p3 O1
  generalize (w1.alloc (.cells #[.int .i64 a, .int .i64 b, .string r, .slice A1 n c1] 27)) = Wo at *
  have p0 := (PB1.out.below BWo.out).c 0 rfl
  have p1 := (PB1.out.below BWo.out).c 1 rfl
  have p2 := (PB1.out.below BWo.out).c 2 rfl
  have p3 := (PB1.out.below BWo.out).c 3 rfl
  refine (s_PackerOk_is _ _ _ _ _ _ l _ _ (HR1.out.below BWo.out) hn hr HP.out).mono ?_
  rintro e w2 ⟨rfl, hb⟩
  have BW2 := hide (BWo.out.trans (hb.mono BWo.out.size))
  have OB2 := hide (OBo.out.below hb)
  have O2 := hide (own_below Oo.out hb)
  clear hb BWo OBo Oo p0 p1 p2 p3
  have p0 := (PB1.out.below BW2.out).c 0 rfl
  have p1 := (PB1.out.below BW2.out).c 1 rfl
  have p2 := (PB1.out.below BW2.out).c 2 rfl
  have p3 := (PB1.out.below BW2.out).c 3 rfl
  have i24 : (24 : Int) ≤ (r.size : Int) := by omega
  go_wp2_with fail
  go_region_held3 (fun w' => w'.cell? ⟨w.heap.size, 0, none⟩ = some (.int .i64 a) ∧ w'.cell? ⟨w.heap.size, 1, none⟩ = some (.int .i64 b) ∧ w'.cell? ⟨w.heap.size, 2, none⟩ = some (.string r)) (go_keep) (fail)
  have hA : Below w2.heap.size w2 (w2.alloc (.cells #[.int .i64 a, .int .i64 b, .int .i64 255, .string (r.extract 0 24)] 41)).drew := ((Below.refl _ _).alloc (Nat.le_refl _) _).drew
  have fb : Box (w2.alloc (.cells #[.int .i64 a, .int .i64 b, .int .i64 255, .string (r.extract 0 24)] 41)).drew w2.heap.size [.int .i64 a, .int .i64 b, .int .i64 255, .string (r.extract 0 24)] := by
    have := (Box.new w2 #[.int .i64 a, .int .i64 b, .int .i64 255, .string (r.extract 0 24)] 41).drew
    simpa using this
  have BW3 := hide (BW2.out.trans (hA.mono BW2.out.size))
  have FB3 := hide fb
  have OB3 := hide (OB2.out.below hA)
  have hgo : w1.heap.size < w2.heap.size := OB2.out.1
  clear hA fb p0 p1 p2 p3 OB2 O2 BW2
  generalize (w2.alloc (.cells #[.int .i64 a, .int .i64 b, .int .i64 255, .string (r.extract 0 24)] 41)).drew = W3 at *
  generalize w2.heap.size = gf at *
  have p0 := (PB1.out.below BW3.out).c 0 rfl
  have p1 := (PB1.out.below BW3.out).c 1 rfl
  have p2 := (PB1.out.below BW3.out).c 2 rfl
  have p3 := (PB1.out.below BW3.out).c 3 rfl
  have s2 := FB3.out.c 2 rfl
  have z2 := FB3.out.f 2 (by simp)
  have o0 := OB3.out.c 0 rfl
  have o1 := OB3.out.c 1 rfl
  have o2 := OB3.out.c 2 rfl
  have o3 := OB3.out.c 3 rfl
  have y2 := OB3.out.f 2 (by simp)
  have y3 := OB3.out.f 3 (by simp)
  have hne1 : ¬ w1.heap.size = gf := by omega
  have hne2 : ¬ gf = w1.heap.size := by omega
  have hne3 : ¬ w.heap.size = gf := by omega
  have hne4 : ¬ gf = w.heap.size := by omega
  have hpm : ¬ w1.heap.size = w.heap.size := by omega
  have hlt5 : w1.heap.size < W3.heap.size := OB3.out.1
  have hne5 : ¬ w1.heap.size = W3.heap.size := by omega
  rcases hF with ⟨hn0, hF⟩ | ⟨hn0, hF⟩ | hn0
  · obtain ⟨g, off, rfl, hg, hc⟩ := (HR1.out.below BW3.out).2 hn0
    have k0 := hc 0 hn0
    rw [Nat.add_zero] at k0
    have HT := hide (show tkF l = l.getD 0 0 by rw [HFF.out, if_pos ⟨hn0, hF⟩])
    clear hc HFF
    generalize l.getD 0 0 = x at *
    go_wp2_with fail
    clear k0 hF hn0 hg
    generalize hA0 : some (⟨g, off, none⟩ : Addr) = A at *
    clear hA0
    have W5s : ((((W3.setCell ⟨gf, 2, none⟩ (.int .i64 x)).setCell ⟨w1.heap.size, 2, none⟩ (.string (r.extract 24 r.size))).setCell ⟨w1.heap.size, 3, none⟩ (.slice (some ⟨W3.heap.size, 0, none⟩) 0 0))).heap.size = W3.heap.size := by simp [World.setCell]
    have BW5 := hide (show Below w1.heap.size w1 ((((W3.setCell ⟨gf, 2, none⟩ (.int .i64 x)).setCell ⟨w1.heap.size, 2, none⟩ (.string (r.extract 24 r.size))).setCell ⟨w1.heap.size, 3, none⟩ (.slice (some ⟨W3.heap.size, 0, none⟩) 0 0)).alloc (.cells #[] 3)) from (((BW3.out.setCell (by show w1.heap.size ≤ gf; omega) _).setCell (Nat.le_refl _) _).setCell (Nat.le_refl _) _).alloc (by rw [W5s]; omega) _)
    have FB5 := hide (show Box ((((W3.setCell ⟨gf, 2, none⟩ (.int .i64 x)).setCell ⟨w1.heap.size, 2, none⟩ (.string (r.extract 24 r.size))).setCell ⟨w1.heap.size, 3, none⟩ (.slice (some ⟨W3.heap.size, 0, none⟩) 0 0)).alloc (.cells #[] 3)) gf [.int .i64 a, .int .i64 b, .int .i64 x, .string (r.extract 0 24)] from (((FB3.out.set42).other ⟨w1.heap.size, 2, none⟩ hne1 _).other ⟨w1.heap.size, 3, none⟩ hne1 _).alloc _)
    have OB5 := hide (show Box ((((W3.setCell ⟨gf, 2, none⟩ (.int .i64 x)).setCell ⟨w1.heap.size, 2, none⟩ (.string (r.extract 24 r.size))).setCell ⟨w1.heap.size, 3, none⟩ (.slice (some ⟨W3.heap.size, 0, none⟩) 0 0)).alloc (.cells #[] 3)) w1.heap.size [.int .i64 a, .int .i64 b, .string (r.extract 24 r.size), .slice (some ⟨W3.heap.size, 0, none⟩) 0 0] from ((OB3.out.other ⟨gf, 2, none⟩ hne2 _).set42.set43).alloc _)
    have RO5 := hide (show ((((W3.setCell ⟨gf, 2, none⟩ (.int .i64 x)).setCell ⟨w1.heap.size, 2, none⟩ (.string (r.extract 24 r.size))).setCell ⟨w1.heap.size, 3, none⟩ (.slice (some ⟨W3.heap.size, 0, none⟩) 0 0)).alloc (.cells #[] 3)).ownsRow W3.heap.size 3 1 (.slice (some ⟨W3.heap.size, 0, none⟩) 0 0) 0 [] by have := own_lit ((((W3.setCell ⟨gf, 2, none⟩ (.int .i64 x)).setCell ⟨w1.heap.size, 2, none⟩ (.string (r.extract 24 r.size))).setCell ⟨w1.heap.size, 3, none⟩ (.slice (some ⟨W3.heap.size, 0, none⟩) 0 0))) 3 1; rw [W5s] at this; exact this)
    have hgr : gf < W3.heap.size := FB3.out.1
    clear W5s BW3 FB3 OB3 s2 z2 o0 o1 o2 o3 y2 y3 p0 p1 p2 p3
    generalize ((((W3.setCell ⟨gf, 2, none⟩ (.int .i64 x)).setCell ⟨w1.heap.size, 2, none⟩ (.string (r.extract 24 r.size))).setCell ⟨w1.heap.size, 3, none⟩ (.slice (some ⟨W3.heap.size, 0, none⟩) 0 0)).alloc (.cells #[] 3)) = W5 at *
    generalize W3.heap.size = gr at *
    clear hne1 hne2 hne3 hne4 hpm hlt5 hne5
    go_loopw [7] (fun iv wr => ∃ (k : Nat) (A' : Option Addr) (c' : Nat), k ≤ n ∧ iv = .int .i64 k ∧ Hid (Box wr w1.heap.size [.int .i64 a, .int .i64 b, .string (r.extract 24 r.size), .slice A' (tkTo l k).length c']) ∧ wr.ownsRow gr 3 1 (.slice A' (tkTo l k).length c') (tkTo l k).length (Is (tkTo l k)) ∧ Hid (Box wr gf [.int .i64 a, .int .i64 b, .int .i64 x, .string (r.extract 0 24)]) ∧ Hid (Below w1.heap.size w1 wr) ∧ gr ≤ wr.heap.size) (fun iv _ => n - (intOf iv).toNat)
    case atStart => exact ⟨0, some ⟨gr, 0, none⟩, 0, Nat.zero_le _, rfl, OB5.out, RO5.out, FB5.out, BW5.out, Nat.le_of_lt ((RO5.out.lt gr rfl).2)⟩
    case round =>
      clear OB5 RO5 FB5 BW5
      obtain ⟨k, A', c', hk, rfl, hqb, hown, hfb, hbw, hgs⟩ := hrel
      have HO := hide hown
      have pb := PB1.out.below hbw.out
      have p0 := pb.c 0 rfl
      have p1 := pb.c 1 rfl
      have p3 := pb.c 3 rfl
      clear hown pb
      by_cases hlt : k < n
      · obtain ⟨g', off', hA', hg', hc'⟩ := (HR1.out.below hbw.out).2 (by omega)
        subst hA'
        have hg1' : g' < w1.heap.size := by
          obtain ⟨g2, off2, e2, h2, _⟩ := HR1.out.2 (by omega)
          have := Option.some.inj e2
          injection this with e3
          omega
        have k1 := hc' k hlt
        have hxr := HX.out k hlt
        have hx0 := hxr.1
        have hx1 := hxr.2
        have hkl : k < l.length := by rw [HL.out]; exact hlt
        have htl := tkTo_len l k
        clear hc' hxr
        by_cases hx : 24 ≤ l.getD k 0
        · have TY := hide (tkTo_yes l k hkl hx)
          have q3 := hqb.out.c 3 rfl
          have qf3 := hqb.out.f 3 (by simp)
          obtain ⟨y, hy⟩ : ∃ y, y = l.getD k 0 := ⟨_, rfl⟩
          rw [← hy] at k1 hx hx0 hx1 TY
          clear hy
          obtain ⟨i0, hi, hz0, hz1, hz2⟩ := info_parts infoI
          have HI := hide (And.intro hi (And.intro hz0 (And.intro hz1 hz2)))
          clear hi hz0 hz1 hz2
          have i1 : (0 : Int) ≤ (k : Int) := by omega
          have i2 : (k : Int) < (n : Int) := by omega
          have jw : IntKind.i64.wrap (y - 24) = y - 24 := by rw [IntKind.wrap_i64]; omega
          have hml : (tkTo l k).length + 1 ≤ 1048577 := by omega
          go_wp2_with fail
          have m1 : ¬ w1.heap.size = wr.heap.size := by omega
          have m2 : ¬ w.heap.size = wr.heap.size := by omega
          have m3 : ¬ g' = wr.heap.size := by omega
          have m4 : w1.heap.size < wr.heap.size := by omega
          have m5 : w.heap.size < wr.heap.size := by omega
          have m6 : g' < wr.heap.size := by omega
          go_region_law ((refine step_append_lies _ (by rfl) _ _ _ (by rfl) gr 3 i0 (.int .i64 0) 1 8 Try.underlying22 HI.out.1 HI.out.2.1 HI.out.2.2.1 HI.out.2.2.2 rfl (by omega) (.slice A' (tkTo l k).length c') (tkTo l k).length (Is (tkTo l k)) (by rfl) ((HO.out.alloc _).drew) ⟨wr.heap.size, 0, none⟩ 1 1 [.int .i64 (y - 24)] (by rfl) (by rfl) (World.news_of_block (cs := #[.int .i64 (y - 24)]) (t := 3) (fr := (0, 0)) (heap_alloc_new wr _)) (one_int _) (by omega) (by unfold maxLen; omega) (by omega) (by simp; omega) (wr.heap.size + 1) (by simp) ?_; intro gg cap w' ho' hgrow hat hltg; have hb' : Below gr wr w' := Below.grown (((Below.refl gr wr).alloc hgs _).drew) hgrow (by simp; omega) (fun k hk => (HO.out.lt k hk).1); have QB' := hide (hqb.out.belowM (by omega) hb'); have t3 := QB'.out.c 3 rfl; have f3 := QB'.out.f 3 (by simp); clear hgrow))
          all_goals
            have FB' := hide (hfb.out.belowM hgr hb')
            have BW' := hide (hbw.out.trans (hb'.mono (by omega)))
            have OW' := hide ho'
            clear ho' hb' jw q3 qf3 hqb hfb hbw HO HI
            go_wp2_with fail
            go_roundw
            case rel =>
              refine ⟨k + 1, some ⟨gg, 0, none⟩, cap, by omega, by go_num, ?_, ?_, ?_, ?_, ?_⟩
              · rw [TY.out, List.length_append]; exact QB'.out.set43
              · rw [TY.out, List.length_append, Is_snoc]; exact own_set OW'.out (by show w1.heap.size < gr; omega) _
              · exact FB'.out.other ⟨w1.heap.size, 3, none⟩ (by show w1.heap.size ≠ gf; omega) _
              · exact BW'.out.setCell (Nat.le_refl _) _
              · have h1 := (OW'.out.lt gg rfl); simp [World.setCell]; omega
            case measure => simp [intOf]; omega
        · have TN := hide (tkTo_no l k hkl hx)
          obtain ⟨y, hy⟩ : ∃ y, y = l.getD k 0 := ⟨_, rfl⟩
          rw [← hy] at k1 hx hx0 hx1
          clear hy
          go_wp2_with fail
          go_roundw
          case rel => exact ⟨k + 1, A', c', by omega, by go_num, by rw [TN.out]; exact hqb.out, by rw [TN.out]; exact HO.out, hfb.out, hbw.out, hgs⟩
          case measure => simp [intOf]; omega
      · obtain rfl : k = n := by omega
        have u1 := hqb.out.c 1 rfl
        have v1 := hqb.out.f 1 (by simp)
        go_wp2_with fail
        have OBv := hide (show Box (wr.setCell ⟨w1.heap.size, 1, none⟩ (.int .i64 ((b + 1) % 256))) w1.heap.size [.int .i64 a, .int .i64 ((b + 1) % 256), .string (r.extract 24 r.size), .slice A' (tkTo l k).length c'] from hqb.out.set41)
        have FBv := hide (show Box (wr.setCell ⟨w1.heap.size, 1, none⟩ (.int .i64 ((b + 1) % 256))) gf [.int .i64 a, .int .i64 b, .int .i64 x, .string (r.extract 0 24)] from hfb.out.other ⟨w1.heap.size, 1, none⟩ (by show w1.heap.size ≠ gf; omega) _)
        have BWv := hide (show Below w1.heap.size w1 (wr.setCell ⟨w1.heap.size, 1, none⟩ (.int .i64 ((b + 1) % 256))) from hbw.out.setCell (Nat.le_refl _) _)
        have Ov := hide (show (wr.setCell ⟨w1.heap.size, 1, none⟩ (.int .i64 ((b + 1) % 256))).ownsRow gr 3 1 (.slice A' (tkTo l k).length c') (tkTo l k).length (Is (tkTo l k)) from own_set HO.out (by show w1.heap.size < gr; omega) _)
        clear u1 v1 p0 p1 p3 hqb hfb hbw HO hgs
        generalize wr.setCell ⟨w1.heap.size, 1, none⟩ (.int .i64 ((b + 1) % 256)) = V at *
        have rp := RP1.out.below BWv.out
        have rf := RF1.out.below BWv.out
        have r0 := rp.c 0 rfl
        have r1 := rp.c 1 rfl
        have r2 := rp.c 2 rfl
        have r3 := rp.c 3 rfl
        have q0 := rp.f 0 (by simp)
        have q1 := rp.f 1 (by simp)
        have q2 := rp.f 2 (by simp)
        have q3 := rp.f 3 (by simp)
        have f0 := rf.c 0 rfl
        have f1 := rf.c 1 rfl
        have f2 := rf.c 2 rfl
        have f3 := rf.c 3 rfl
        have z0 := rf.f 0 (by simp)
        have z1 := rf.f 1 (by simp)
        have z2 := rf.f 2 (by simp)
        have z3 := rf.f 3 (by simp)
        have u0 := OBv.out.c 0 rfl
        have u1 := OBv.out.c 1 rfl
        have u2 := OBv.out.c 2 rfl
        have u3 := OBv.out.c 3 rfl
        have e0 := FBv.out.c 0 rfl
        have e1 := FBv.out.c 1 rfl
        have e2 := FBv.out.c 2 rfl
        have e3 := FBv.out.c 3 rfl
        clear rp rf
        have hg1 : w.heap.size + 1 < w1.heap.size := RP1.out.1
        have hg2 : w.heap.size + 1 + 1 < w1.heap.size := RF1.out.1
        have n1 : ¬ gf = w.heap.size + 1 := by omega
        have n2 : ¬ gf = w.heap.size + 1 + 1 := by omega
        have n3 : ¬ w1.heap.size = w.heap.size + 1 := by omega
        have n4 : ¬ w1.heap.size = w.heap.size + 1 + 1 := by omega
        have n5 : ¬ w.heap.size + 1 = gf := by omega
        have n6 : ¬ w.heap.size + 1 + 1 = gf := by omega
        have n7 : ¬ w.heap.size + 1 = w1.heap.size := by omega
        have n8 : ¬ w.heap.size + 1 + 1 = w1.heap.size := by omega
        have HBW := hide (HB1.out.trans (BWv.out.mono HB1.out.size))
        have HGQ := hide (show w.heap.size + 1 + 1 < gr by omega)
        clear hg1 hg2 OBv FBv BWv
        go_region_held3 (fun w' => w'.cell? ⟨w1.heap.size, 0, none⟩ = some (.int .i64 a) ∧ w'.cell? ⟨w1.heap.size, 1, none⟩ = some (.int .i64 ((b + 1) % 256)) ∧ w'.cell? ⟨w1.heap.size, 2, none⟩ = some (.string (r.extract 24 r.size)) ∧ w'.cell? ⟨w1.heap.size, 3, none⟩ = some (.slice A' (tkTo l k).length c') ∧ w'.cell? ⟨gf, 0, none⟩ = some (.int .i64 a) ∧ w'.cell? ⟨gf, 1, none⟩ = some (.int .i64 b) ∧ w'.cell? ⟨gf, 2, none⟩ = some (.int .i64 x) ∧ w'.cell? ⟨gf, 3, none⟩ = some (.string (r.extract 0 24))) (go_keep) (fail)
        all_goals
          go_wp2_with fail
          refine bodyPost_ret (v := .tuple #[.agg #[.int .i64 a, .int .i64 ((b + 1) % 256), .string (r.extract 24 r.size), .slice A' (tkTo l k).length c'], .agg #[.int .i64 a, .int .i64 b, .int .i64 x, .string (r.extract 0 24)], .bool true]) (by simp [results, Try.results21, go_sem, r0, r1, r2, r3, f0, f1, f2, f3]) rfl ?_
          rw [← HT.out]
          refine made_take_yes HK.out ?_ ?_
          · have hoo := Ov.out
            rw [HL.out]
            refine own_mono ?_ (show w.heap.size ≤ gr by have := HGQ.out; omega)
            repeat (first | with_reducible exact hoo | with_reducible refine World.ownsRow.drew ?_ | with_reducible refine own_set ?_ (by have := HGQ.out; first | (show w.heap.size + 1 < gr; omega) | (show w.heap.size + 1 + 1 < gr; omega)) _)
          · have hbb := HBW.out
            repeat (first | with_reducible exact hbb | with_reducible refine Below.drew ?_ | with_reducible refine below_drewN ?_ _ | with_reducible refine Below.setCell ?_ (by first | exact Nat.le_refl _ | exact Nat.le_succ _ | (simp; done) | omega | (simp; omega)) _)
  · obtain ⟨g, off, rfl, hg, hc⟩ := (HR1.out.below BW3.out).2 hn0
    have k0 := hc 0 hn0
    rw [Nat.add_zero] at k0
    have HT := hide (show tkF l = 255 by rw [HFF.out, if_neg (fun h => absurd h.2 (by omega))])
    clear hc HFF
    generalize l.getD 0 0 = x at *
    go_wp2_with fail
    clear k0 hF hn0 hg
    generalize hA0 : some (⟨g, off, none⟩ : Addr) = A at *
    clear hA0
    have W5s : (((W3.setCell ⟨w1.heap.size, 2, none⟩ (.string (r.extract 24 r.size))).setCell ⟨w1.heap.size, 3, none⟩ (.slice (some ⟨W3.heap.size, 0, none⟩) 0 0))).heap.size = W3.heap.size := by simp [World.setCell]
    have BW5 := hide (show Below w1.heap.size w1 (((W3.setCell ⟨w1.heap.size, 2, none⟩ (.string (r.extract 24 r.size))).setCell ⟨w1.heap.size, 3, none⟩ (.slice (some ⟨W3.heap.size, 0, none⟩) 0 0)).alloc (.cells #[] 3)) from ((BW3.out.setCell (Nat.le_refl _) _).setCell (Nat.le_refl _) _).alloc (by rw [W5s]; omega) _)
    have FB5 := hide (show Box (((W3.setCell ⟨w1.heap.size, 2, none⟩ (.string (r.extract 24 r.size))).setCell ⟨w1.heap.size, 3, none⟩ (.slice (some ⟨W3.heap.size, 0, none⟩) 0 0)).alloc (.cells #[] 3)) gf [.int .i64 a, .int .i64 b, .int .i64 255, .string (r.extract 0 24)] from (((FB3.out).other ⟨w1.heap.size, 2, none⟩ hne1 _).other ⟨w1.heap.size, 3, none⟩ hne1 _).alloc _)
    have OB5 := hide (show Box (((W3.setCell ⟨w1.heap.size, 2, none⟩ (.string (r.extract 24 r.size))).setCell ⟨w1.heap.size, 3, none⟩ (.slice (some ⟨W3.heap.size, 0, none⟩) 0 0)).alloc (.cells #[] 3)) w1.heap.size [.int .i64 a, .int .i64 b, .string (r.extract 24 r.size), .slice (some ⟨W3.heap.size, 0, none⟩) 0 0] from ((OB3.out).set42.set43).alloc _)
    have RO5 := hide (show (((W3.setCell ⟨w1.heap.size, 2, none⟩ (.string (r.extract 24 r.size))).setCell ⟨w1.heap.size, 3, none⟩ (.slice (some ⟨W3.heap.size, 0, none⟩) 0 0)).alloc (.cells #[] 3)).ownsRow W3.heap.size 3 1 (.slice (some ⟨W3.heap.size, 0, none⟩) 0 0) 0 [] by have := own_lit (((W3.setCell ⟨w1.heap.size, 2, none⟩ (.string (r.extract 24 r.size))).setCell ⟨w1.heap.size, 3, none⟩ (.slice (some ⟨W3.heap.size, 0, none⟩) 0 0))) 3 1; rw [W5s] at this; exact this)
    have hgr : gf < W3.heap.size := FB3.out.1
    clear W5s BW3 FB3 OB3 s2 z2 o0 o1 o2 o3 y2 y3 p0 p1 p2 p3
    generalize (((W3.setCell ⟨w1.heap.size, 2, none⟩ (.string (r.extract 24 r.size))).setCell ⟨w1.heap.size, 3, none⟩ (.slice (some ⟨W3.heap.size, 0, none⟩) 0 0)).alloc (.cells #[] 3)) = W5 at *
    generalize W3.heap.size = gr at *
    clear hne1 hne2 hne3 hne4 hpm hlt5 hne5
    go_loopw [7] (fun iv wr => ∃ (k : Nat) (A' : Option Addr) (c' : Nat), k ≤ n ∧ iv = .int .i64 k ∧ Hid (Box wr w1.heap.size [.int .i64 a, .int .i64 b, .string (r.extract 24 r.size), .slice A' (tkTo l k).length c']) ∧ wr.ownsRow gr 3 1 (.slice A' (tkTo l k).length c') (tkTo l k).length (Is (tkTo l k)) ∧ Hid (Box wr gf [.int .i64 a, .int .i64 b, .int .i64 255, .string (r.extract 0 24)]) ∧ Hid (Below w1.heap.size w1 wr) ∧ gr ≤ wr.heap.size) (fun iv _ => n - (intOf iv).toNat)
    case atStart => exact ⟨0, some ⟨gr, 0, none⟩, 0, Nat.zero_le _, rfl, OB5.out, RO5.out, FB5.out, BW5.out, Nat.le_of_lt ((RO5.out.lt gr rfl).2)⟩
    case round =>
      clear OB5 RO5 FB5 BW5
      obtain ⟨k, A', c', hk, rfl, hqb, hown, hfb, hbw, hgs⟩ := hrel
      have HO := hide hown
      have pb := PB1.out.below hbw.out
      have p0 := pb.c 0 rfl
      have p1 := pb.c 1 rfl
      have p3 := pb.c 3 rfl
      clear hown pb
      by_cases hlt : k < n
      · obtain ⟨g', off', hA', hg', hc'⟩ := (HR1.out.below hbw.out).2 (by omega)
        subst hA'
        have hg1' : g' < w1.heap.size := by
          obtain ⟨g2, off2, e2, h2, _⟩ := HR1.out.2 (by omega)
          have := Option.some.inj e2
          injection this with e3
          omega
        have k1 := hc' k hlt
        have hxr := HX.out k hlt
        have hx0 := hxr.1
        have hx1 := hxr.2
        have hkl : k < l.length := by rw [HL.out]; exact hlt
        have htl := tkTo_len l k
        clear hc' hxr
        by_cases hx : 24 ≤ l.getD k 0
        · have TY := hide (tkTo_yes l k hkl hx)
          have q3 := hqb.out.c 3 rfl
          have qf3 := hqb.out.f 3 (by simp)
          obtain ⟨y, hy⟩ : ∃ y, y = l.getD k 0 := ⟨_, rfl⟩
          rw [← hy] at k1 hx hx0 hx1 TY
          clear hy
          obtain ⟨i0, hi, hz0, hz1, hz2⟩ := info_parts infoI
          have HI := hide (And.intro hi (And.intro hz0 (And.intro hz1 hz2)))
          clear hi hz0 hz1 hz2
          have i1 : (0 : Int) ≤ (k : Int) := by omega
          have i2 : (k : Int) < (n : Int) := by omega
          have jw : IntKind.i64.wrap (y - 24) = y - 24 := by rw [IntKind.wrap_i64]; omega
          have hml : (tkTo l k).length + 1 ≤ 1048577 := by omega
          go_wp2_with fail
          have m1 : ¬ w1.heap.size = wr.heap.size := by omega
          have m2 : ¬ w.heap.size = wr.heap.size := by omega
          have m3 : ¬ g' = wr.heap.size := by omega
          have m4 : w1.heap.size < wr.heap.size := by omega
          have m5 : w.heap.size < wr.heap.size := by omega
          have m6 : g' < wr.heap.size := by omega
          go_region_law ((refine step_append_lies _ (by rfl) _ _ _ (by rfl) gr 3 i0 (.int .i64 0) 1 8 Try.underlying22 HI.out.1 HI.out.2.1 HI.out.2.2.1 HI.out.2.2.2 rfl (by omega) (.slice A' (tkTo l k).length c') (tkTo l k).length (Is (tkTo l k)) (by rfl) ((HO.out.alloc _).drew) ⟨wr.heap.size, 0, none⟩ 1 1 [.int .i64 (y - 24)] (by rfl) (by rfl) (World.news_of_block (cs := #[.int .i64 (y - 24)]) (t := 3) (fr := (0, 0)) (heap_alloc_new wr _)) (one_int _) (by omega) (by unfold maxLen; omega) (by omega) (by simp; omega) (wr.heap.size + 1) (by simp) ?_; intro gg cap w' ho' hgrow hat hltg; have hb' : Below gr wr w' := Below.grown (((Below.refl gr wr).alloc hgs _).drew) hgrow (by simp; omega) (fun k hk => (HO.out.lt k hk).1); have QB' := hide (hqb.out.belowM (by omega) hb'); have t3 := QB'.out.c 3 rfl; have f3 := QB'.out.f 3 (by simp); clear hgrow))
          all_goals
            have FB' := hide (hfb.out.belowM hgr hb')
            have BW' := hide (hbw.out.trans (hb'.mono (by omega)))
            have OW' := hide ho'
            clear ho' hb' jw q3 qf3 hqb hfb hbw HO HI
            go_wp2_with fail
            go_roundw
            case rel =>
              refine ⟨k + 1, some ⟨gg, 0, none⟩, cap, by omega, by go_num, ?_, ?_, ?_, ?_, ?_⟩
              · rw [TY.out, List.length_append]; exact QB'.out.set43
              · rw [TY.out, List.length_append, Is_snoc]; exact own_set OW'.out (by show w1.heap.size < gr; omega) _
              · exact FB'.out.other ⟨w1.heap.size, 3, none⟩ (by show w1.heap.size ≠ gf; omega) _
              · exact BW'.out.setCell (Nat.le_refl _) _
              · have h1 := (OW'.out.lt gg rfl); simp [World.setCell]; omega
            case measure => simp [intOf]; omega
        · have TN := hide (tkTo_no l k hkl hx)
          obtain ⟨y, hy⟩ : ∃ y, y = l.getD k 0 := ⟨_, rfl⟩
          rw [← hy] at k1 hx hx0 hx1
          clear hy
          go_wp2_with fail
          go_roundw
          case rel => exact ⟨k + 1, A', c', by omega, by go_num, by rw [TN.out]; exact hqb.out, by rw [TN.out]; exact HO.out, hfb.out, hbw.out, hgs⟩
          case measure => simp [intOf]; omega
      · obtain rfl : k = n := by omega
        have u1 := hqb.out.c 1 rfl
        have v1 := hqb.out.f 1 (by simp)
        go_wp2_with fail
        have OBv := hide (show Box (wr.setCell ⟨w1.heap.size, 1, none⟩ (.int .i64 ((b + 1) % 256))) w1.heap.size [.int .i64 a, .int .i64 ((b + 1) % 256), .string (r.extract 24 r.size), .slice A' (tkTo l k).length c'] from hqb.out.set41)
        have FBv := hide (show Box (wr.setCell ⟨w1.heap.size, 1, none⟩ (.int .i64 ((b + 1) % 256))) gf [.int .i64 a, .int .i64 b, .int .i64 255, .string (r.extract 0 24)] from hfb.out.other ⟨w1.heap.size, 1, none⟩ (by show w1.heap.size ≠ gf; omega) _)
        have BWv := hide (show Below w1.heap.size w1 (wr.setCell ⟨w1.heap.size, 1, none⟩ (.int .i64 ((b + 1) % 256))) from hbw.out.setCell (Nat.le_refl _) _)
        have Ov := hide (show (wr.setCell ⟨w1.heap.size, 1, none⟩ (.int .i64 ((b + 1) % 256))).ownsRow gr 3 1 (.slice A' (tkTo l k).length c') (tkTo l k).length (Is (tkTo l k)) from own_set HO.out (by show w1.heap.size < gr; omega) _)
        clear u1 v1 p0 p1 p3 hqb hfb hbw HO hgs
        generalize wr.setCell ⟨w1.heap.size, 1, none⟩ (.int .i64 ((b + 1) % 256)) = V at *
        have rp := RP1.out.below BWv.out
        have rf := RF1.out.below BWv.out
        have r0 := rp.c 0 rfl
        have r1 := rp.c 1 rfl
        have r2 := rp.c 2 rfl
        have r3 := rp.c 3 rfl
        have q0 := rp.f 0 (by simp)
        have q1 := rp.f 1 (by simp)
        have q2 := rp.f 2 (by simp)
        have q3 := rp.f 3 (by simp)
        have f0 := rf.c 0 rfl
        have f1 := rf.c 1 rfl
        have f2 := rf.c 2 rfl
        have f3 := rf.c 3 rfl
        have z0 := rf.f 0 (by simp)
        have z1 := rf.f 1 (by simp)
        have z2 := rf.f 2 (by simp)
        have z3 := rf.f 3 (by simp)
        have u0 := OBv.out.c 0 rfl
        have u1 := OBv.out.c 1 rfl
        have u2 := OBv.out.c 2 rfl
        have u3 := OBv.out.c 3 rfl
        have e0 := FBv.out.c 0 rfl
        have e1 := FBv.out.c 1 rfl
        have e2 := FBv.out.c 2 rfl
        have e3 := FBv.out.c 3 rfl
        clear rp rf
        have hg1 : w.heap.size + 1 < w1.heap.size := RP1.out.1
        have hg2 : w.heap.size + 1 + 1 < w1.heap.size := RF1.out.1
        have n1 : ¬ gf = w.heap.size + 1 := by omega
        have n2 : ¬ gf = w.heap.size + 1 + 1 := by omega
        have n3 : ¬ w1.heap.size = w.heap.size + 1 := by omega
        have n4 : ¬ w1.heap.size = w.heap.size + 1 + 1 := by omega
        have n5 : ¬ w.heap.size + 1 = gf := by omega
        have n6 : ¬ w.heap.size + 1 + 1 = gf := by omega
        have n7 : ¬ w.heap.size + 1 = w1.heap.size := by omega
        have n8 : ¬ w.heap.size + 1 + 1 = w1.heap.size := by omega
        have HBW := hide (HB1.out.trans (BWv.out.mono HB1.out.size))
        have HGQ := hide (show w.heap.size + 1 + 1 < gr by omega)
        clear hg1 hg2 OBv FBv BWv
        go_region_held3 (fun w' => w'.cell? ⟨w1.heap.size, 0, none⟩ = some (.int .i64 a) ∧ w'.cell? ⟨w1.heap.size, 1, none⟩ = some (.int .i64 ((b + 1) % 256)) ∧ w'.cell? ⟨w1.heap.size, 2, none⟩ = some (.string (r.extract 24 r.size)) ∧ w'.cell? ⟨w1.heap.size, 3, none⟩ = some (.slice A' (tkTo l k).length c') ∧ w'.cell? ⟨gf, 0, none⟩ = some (.int .i64 a) ∧ w'.cell? ⟨gf, 1, none⟩ = some (.int .i64 b) ∧ w'.cell? ⟨gf, 2, none⟩ = some (.int .i64 255) ∧ w'.cell? ⟨gf, 3, none⟩ = some (.string (r.extract 0 24))) (go_keep) (fail)
        all_goals
          go_wp2_with fail
          refine bodyPost_ret (v := .tuple #[.agg #[.int .i64 a, .int .i64 ((b + 1) % 256), .string (r.extract 24 r.size), .slice A' (tkTo l k).length c'], .agg #[.int .i64 a, .int .i64 b, .int .i64 255, .string (r.extract 0 24)], .bool true]) (by simp [results, Try.results21, go_sem, r0, r1, r2, r3, f0, f1, f2, f3]) rfl ?_
          rw [← HT.out]
          refine made_take_yes HK.out ?_ ?_
          · have hoo := Ov.out
            rw [HL.out]
            refine own_mono ?_ (show w.heap.size ≤ gr by have := HGQ.out; omega)
            repeat (first | with_reducible exact hoo | with_reducible refine World.ownsRow.drew ?_ | with_reducible refine own_set ?_ (by have := HGQ.out; first | (show w.heap.size + 1 < gr; omega) | (show w.heap.size + 1 + 1 < gr; omega)) _)
          · have hbb := HBW.out
            repeat (first | with_reducible exact hbb | with_reducible refine Below.drew ?_ | with_reducible refine below_drewN ?_ _ | with_reducible refine Below.setCell ?_ (by first | exact Nat.le_refl _ | exact Nat.le_succ _ | (simp; done) | omega | (simp; omega)) _)
  · have dn1 : decide ((0 : Int) < (n : Int)) = false := decide_eq_false (by omega)
    have dn2 : n ≤ 0 := by omega
    have HT := hide (show tkF l = 255 by rw [HFF.out, if_neg (by omega)])
    clear HFF hn0
    go_wp2_with fail
    have W5s : (((W3.setCell ⟨w1.heap.size, 2, none⟩ (.string (r.extract 24 r.size))).setCell ⟨w1.heap.size, 3, none⟩ (.slice (some ⟨W3.heap.size, 0, none⟩) 0 0))).heap.size = W3.heap.size := by simp [World.setCell]
    have BW5 := hide (show Below w1.heap.size w1 (((W3.setCell ⟨w1.heap.size, 2, none⟩ (.string (r.extract 24 r.size))).setCell ⟨w1.heap.size, 3, none⟩ (.slice (some ⟨W3.heap.size, 0, none⟩) 0 0)).alloc (.cells #[] 3)) from ((BW3.out.setCell (Nat.le_refl _) _).setCell (Nat.le_refl _) _).alloc (by rw [W5s]; omega) _)
    have FB5 := hide (show Box (((W3.setCell ⟨w1.heap.size, 2, none⟩ (.string (r.extract 24 r.size))).setCell ⟨w1.heap.size, 3, none⟩ (.slice (some ⟨W3.heap.size, 0, none⟩) 0 0)).alloc (.cells #[] 3)) gf [.int .i64 a, .int .i64 b, .int .i64 255, .string (r.extract 0 24)] from (((FB3.out).other ⟨w1.heap.size, 2, none⟩ hne1 _).other ⟨w1.heap.size, 3, none⟩ hne1 _).alloc _)
    have OB5 := hide (show Box (((W3.setCell ⟨w1.heap.size, 2, none⟩ (.string (r.extract 24 r.size))).setCell ⟨w1.heap.size, 3, none⟩ (.slice (some ⟨W3.heap.size, 0, none⟩) 0 0)).alloc (.cells #[] 3)) w1.heap.size [.int .i64 a, .int .i64 b, .string (r.extract 24 r.size), .slice (some ⟨W3.heap.size, 0, none⟩) 0 0] from ((OB3.out).set42.set43).alloc _)
    have RO5 := hide (show (((W3.setCell ⟨w1.heap.size, 2, none⟩ (.string (r.extract 24 r.size))).setCell ⟨w1.heap.size, 3, none⟩ (.slice (some ⟨W3.heap.size, 0, none⟩) 0 0)).alloc (.cells #[] 3)).ownsRow W3.heap.size 3 1 (.slice (some ⟨W3.heap.size, 0, none⟩) 0 0) 0 [] by have := own_lit (((W3.setCell ⟨w1.heap.size, 2, none⟩ (.string (r.extract 24 r.size))).setCell ⟨w1.heap.size, 3, none⟩ (.slice (some ⟨W3.heap.size, 0, none⟩) 0 0))) 3 1; rw [W5s] at this; exact this)
    have hgr : gf < W3.heap.size := FB3.out.1
    clear W5s BW3 FB3 OB3 s2 z2 o0 o1 o2 o3 y2 y3 p0 p1 p2 p3
    generalize (((W3.setCell ⟨w1.heap.size, 2, none⟩ (.string (r.extract 24 r.size))).setCell ⟨w1.heap.size, 3, none⟩ (.slice (some ⟨W3.heap.size, 0, none⟩) 0 0)).alloc (.cells #[] 3)) = W5 at *
    generalize W3.heap.size = gr at *
    clear hne1 hne2 hne3 hne4 hpm hlt5 hne5
    go_loopw [7] (fun iv wr => ∃ (k : Nat) (A' : Option Addr) (c' : Nat), k ≤ n ∧ iv = .int .i64 k ∧ Hid (Box wr w1.heap.size [.int .i64 a, .int .i64 b, .string (r.extract 24 r.size), .slice A' (tkTo l k).length c']) ∧ wr.ownsRow gr 3 1 (.slice A' (tkTo l k).length c') (tkTo l k).length (Is (tkTo l k)) ∧ Hid (Box wr gf [.int .i64 a, .int .i64 b, .int .i64 255, .string (r.extract 0 24)]) ∧ Hid (Below w1.heap.size w1 wr) ∧ gr ≤ wr.heap.size) (fun iv _ => n - (intOf iv).toNat)
    case atStart => exact ⟨0, some ⟨gr, 0, none⟩, 0, Nat.zero_le _, rfl, OB5.out, RO5.out, FB5.out, BW5.out, Nat.le_of_lt ((RO5.out.lt gr rfl).2)⟩
    case round =>
      clear OB5 RO5 FB5 BW5
      obtain ⟨k, A', c', hk, rfl, hqb, hown, hfb, hbw, hgs⟩ := hrel
      have HO := hide hown
      have pb := PB1.out.below hbw.out
      have p0 := pb.c 0 rfl
      have p1 := pb.c 1 rfl
      have p3 := pb.c 3 rfl
      clear hown pb
      by_cases hlt : k < n
      · exact absurd hlt (by omega)
      · obtain rfl : k = n := by omega
        have u1 := hqb.out.c 1 rfl
        have v1 := hqb.out.f 1 (by simp)
        go_wp2_with fail
        have OBv := hide (show Box (wr.setCell ⟨w1.heap.size, 1, none⟩ (.int .i64 ((b + 1) % 256))) w1.heap.size [.int .i64 a, .int .i64 ((b + 1) % 256), .string (r.extract 24 r.size), .slice A' (tkTo l k).length c'] from hqb.out.set41)
        have FBv := hide (show Box (wr.setCell ⟨w1.heap.size, 1, none⟩ (.int .i64 ((b + 1) % 256))) gf [.int .i64 a, .int .i64 b, .int .i64 255, .string (r.extract 0 24)] from hfb.out.other ⟨w1.heap.size, 1, none⟩ (by show w1.heap.size ≠ gf; omega) _)
        have BWv := hide (show Below w1.heap.size w1 (wr.setCell ⟨w1.heap.size, 1, none⟩ (.int .i64 ((b + 1) % 256))) from hbw.out.setCell (Nat.le_refl _) _)
        have Ov := hide (show (wr.setCell ⟨w1.heap.size, 1, none⟩ (.int .i64 ((b + 1) % 256))).ownsRow gr 3 1 (.slice A' (tkTo l k).length c') (tkTo l k).length (Is (tkTo l k)) from own_set HO.out (by show w1.heap.size < gr; omega) _)
        clear u1 v1 p0 p1 p3 hqb hfb hbw HO hgs
        generalize wr.setCell ⟨w1.heap.size, 1, none⟩ (.int .i64 ((b + 1) % 256)) = V at *
        have rp := RP1.out.below BWv.out
        have rf := RF1.out.below BWv.out
        have r0 := rp.c 0 rfl
        have r1 := rp.c 1 rfl
        have r2 := rp.c 2 rfl
        have r3 := rp.c 3 rfl
        have q0 := rp.f 0 (by simp)
        have q1 := rp.f 1 (by simp)
        have q2 := rp.f 2 (by simp)
        have q3 := rp.f 3 (by simp)
        have f0 := rf.c 0 rfl
        have f1 := rf.c 1 rfl
        have f2 := rf.c 2 rfl
        have f3 := rf.c 3 rfl
        have z0 := rf.f 0 (by simp)
        have z1 := rf.f 1 (by simp)
        have z2 := rf.f 2 (by simp)
        have z3 := rf.f 3 (by simp)
        have u0 := OBv.out.c 0 rfl
        have u1 := OBv.out.c 1 rfl
        have u2 := OBv.out.c 2 rfl
        have u3 := OBv.out.c 3 rfl
        have e0 := FBv.out.c 0 rfl
        have e1 := FBv.out.c 1 rfl
        have e2 := FBv.out.c 2 rfl
        have e3 := FBv.out.c 3 rfl
        clear rp rf
        have hg1 : w.heap.size + 1 < w1.heap.size := RP1.out.1
        have hg2 : w.heap.size + 1 + 1 < w1.heap.size := RF1.out.1
        have n1 : ¬ gf = w.heap.size + 1 := by omega
        have n2 : ¬ gf = w.heap.size + 1 + 1 := by omega
        have n3 : ¬ w1.heap.size = w.heap.size + 1 := by omega
        have n4 : ¬ w1.heap.size = w.heap.size + 1 + 1 := by omega
        have n5 : ¬ w.heap.size + 1 = gf := by omega
        have n6 : ¬ w.heap.size + 1 + 1 = gf := by omega
        have n7 : ¬ w.heap.size + 1 = w1.heap.size := by omega
        have n8 : ¬ w.heap.size + 1 + 1 = w1.heap.size := by omega
        have HBW := hide (HB1.out.trans (BWv.out.mono HB1.out.size))
        have HGQ := hide (show w.heap.size + 1 + 1 < gr by omega)
        clear hg1 hg2 OBv FBv BWv
        go_region_held3 (fun w' => w'.cell? ⟨w1.heap.size, 0, none⟩ = some (.int .i64 a) ∧ w'.cell? ⟨w1.heap.size, 1, none⟩ = some (.int .i64 ((b + 1) % 256)) ∧ w'.cell? ⟨w1.heap.size, 2, none⟩ = some (.string (r.extract 24 r.size)) ∧ w'.cell? ⟨w1.heap.size, 3, none⟩ = some (.slice A' (tkTo l k).length c') ∧ w'.cell? ⟨gf, 0, none⟩ = some (.int .i64 a) ∧ w'.cell? ⟨gf, 1, none⟩ = some (.int .i64 b) ∧ w'.cell? ⟨gf, 2, none⟩ = some (.int .i64 255) ∧ w'.cell? ⟨gf, 3, none⟩ = some (.string (r.extract 0 24))) (go_keep) (fail)
        all_goals
          go_wp2_with fail
          refine bodyPost_ret (v := .tuple #[.agg #[.int .i64 a, .int .i64 ((b + 1) % 256), .string (r.extract 24 r.size), .slice A' (tkTo l k).length c'], .agg #[.int .i64 a, .int .i64 b, .int .i64 255, .string (r.extract 0 24)], .bool true]) (by simp [results, Try.results21, go_sem, r0, r1, r2, r3, f0, f1, f2, f3]) rfl ?_
          rw [← HT.out]
          refine made_take_yes HK.out ?_ ?_
          · have hoo := Ov.out
            rw [HL.out]
            refine own_mono ?_ (show w.heap.size ≤ gr by have := HGQ.out; omega)
            repeat (first | with_reducible exact hoo | with_reducible refine World.ownsRow.drew ?_ | with_reducible refine own_set ?_ (by have := HGQ.out; first | (show w.heap.size + 1 < gr; omega) | (show w.heap.size + 1 + 1 < gr; omega)) _)
          · have hbb := HBW.out
            repeat (first | with_reducible exact hbb | with_reducible refine Below.drew ?_ | with_reducible refine below_drewN ?_ _ | with_reducible refine Below.setCell ?_ (by first | exact Nat.le_refl _ | exact Nat.le_succ _ | (simp; done) | omega | (simp; omega)) _)
theorem s_TakeFrame (a b : Int) (r : ByteArray) (A : Option Addr) (n c : Nat) (l : List Int) (w : World) (h : RI w A n l) (hc : A = none → c = 0) (hn : n ≤ 1048576) (hr : r.size ≤ 1099511627776) :
    Calls Try.prog 21 #[.agg #[.int .i64 a, .int .i64 b, .string r, .slice A n c]] w (MadeTake a b r l w) := by
  cases hk : tkOk a b r l with
  | true => exact s_TakeFrame_yes a b r A n c l w h hc hn hr hk
  | false => exact s_TakeFrame_no a b r A n c l w h hc hn hr hk
end Go.Proofs.Ytnelfadmcpacbaa
