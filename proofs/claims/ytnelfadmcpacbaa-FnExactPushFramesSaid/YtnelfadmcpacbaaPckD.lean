/- What TakeFrame returns, in the program and in the reference: the packer behind, its starts in memory of their own, the frame, and whether there is one. -/
import Derived.Test.YtnelfadmcpacbaaPckC
namespace Go.Proofs.Ytnelfadmcpacbaa
open Go.RowKit Sat
set_option linter.unusedVariables false
set_option linter.unusedSimpArgs false
attribute [local go_sem ↓] Go.wp_at_zero Go.wp_at_succ

def tkOk (a b : Int) (r : ByteArray) (l : List Int) : Bool := pkOk a b r l && decide (24 ≤ r.size)
def tkF (l : List Int) : Int := if 0 < l.length ∧ l.getD 0 0 < 24 then l.getD 0 0 else 255
def tkTo (l : List Int) (k : Nat) : List Int := ((l.take k).filter fun x => decide (24 ≤ x)).map fun x => x - 24
def tkP (a b : Int) (r : ByteArray) (l : List Int) : Int × ByteArray × List Int := if tkOk a b r l then ((b + 1) % 256, r.extract 24 r.size, tkTo l l.length) else (b, r, l)
def tkFr (a b : Int) (r : ByteArray) (l : List Int) : Int × Int × Int × ByteArray := if tkOk a b r l then (a, b, tkF l, r.extract 0 24) else (0, 0, 0, ⟨#[]⟩)
theorem tkTo_yes (l : List Int) (k : Nat) (h : k < l.length) (hx : 24 ≤ l.getD k 0) : tkTo l (k + 1) = tkTo l k ++ [l.getD k 0 - 24] := by
  have e : l.take (k + 1) = l.take k ++ [l.getD k 0] := by
    rw [List.take_succ_eq_append_getElem h, List.getD_eq_getElem?_getD, List.getElem?_eq_getElem h]; rfl
  unfold tkTo
  rw [e, List.filter_append, List.map_append]
  generalize l.getD k 0 = x at *
  simp [hx]
theorem tkTo_no (l : List Int) (k : Nat) (h : k < l.length) (hx : ¬ 24 ≤ l.getD k 0) : tkTo l (k + 1) = tkTo l k := by
  have e : l.take (k + 1) = l.take k ++ [l.getD k 0] := by
    rw [List.take_succ_eq_append_getElem h, List.getD_eq_getElem?_getD, List.getElem?_eq_getElem h]; rfl
  unfold tkTo
  rw [e, List.filter_append, List.map_append]
  generalize l.getD k 0 = x at *
  simp [hx]
theorem tkTo_len (l : List Int) (k : Nat) : (tkTo l k).length ≤ k := by
  unfold tkTo
  rw [List.length_map]
  have := List.length_filter_le (fun x : Int => decide (24 ≤ x)) (l.take k)
  have := List.length_take_le k l
  omega
def MadeTake (a b : Int) (r : ByteArray) (l : List Int) (w : World) (e : Ending) (w' : World) : Prop := ∃ v, e = .returned (.tuple #[.agg #[.int .i64 a, .int .i64 (tkP a b r l).1, .string (tkP a b r l).2.1, v], .agg #[.int .i64 (tkFr a b r l).1, .int .i64 (tkFr a b r l).2.1, .int .i64 (tkFr a b r l).2.2.1, .string (tkFr a b r l).2.2.2], .bool (tkOk a b r l)]) ∧ w'.ownsRow w.heap.size 3 1 v (tkP a b r l).2.2.length (Is (tkP a b r l).2.2) ∧ Below w.heap.size w w'
theorem made_take_no {a b : Int} {r : ByteArray} {l : List Int} {w w' : World} {v : Value} (h : tkOk a b r l = false) (ho : w'.ownsRow w.heap.size 3 1 v l.length (Is l)) (hb : Below w.heap.size w w') :
    MadeTake a b r l w (.returned (.tuple #[.agg #[.int .i64 a, .int .i64 b, .string r, v], .agg #[.int .i64 0, .int .i64 0, .int .i64 0, .string ⟨#[]⟩], .bool false])) w' := by
  have e1 : tkP a b r l = (b, r, l) := by unfold tkP; rw [h]; rfl
  have e2 : tkFr a b r l = (0, 0, 0, ⟨#[]⟩) := by unfold tkFr; rw [h]; rfl
  exact ⟨v, by rw [e1, e2, h], by rw [e1]; exact ho, hb⟩
theorem made_take_yes {a b : Int} {r : ByteArray} {l : List Int} {w w' : World} {v : Value} (h : tkOk a b r l = true) (ho : w'.ownsRow w.heap.size 3 1 v (tkTo l l.length).length (Is (tkTo l l.length))) (hb : Below w.heap.size w w') :
    MadeTake a b r l w (.returned (.tuple #[.agg #[.int .i64 a, .int .i64 ((b + 1) % 256), .string (r.extract 24 r.size), v], .agg #[.int .i64 a, .int .i64 b, .int .i64 (tkF l), .string (r.extract 0 24)], .bool true])) w' := by
  have e1 : tkP a b r l = ((b + 1) % 256, r.extract 24 r.size, tkTo l l.length) := by unfold tkP; rw [h]; rfl
  have e2 : tkFr a b r l = (a, b, tkF l, r.extract 0 24) := by unfold tkFr; rw [h]; rfl
  exact ⟨v, by rw [e1, e2, h], by rw [e1]; exact ho, hb⟩
theorem Box.set42 {w : World} {g : Nat} {a0 a1 a2 a3 v : Value} (h : Box w g [a0, a1, a2, a3]) : Box (w.setCell ⟨g, 2, none⟩ v) g [a0, a1, v, a3] := by
  have c0 := h.c 0 rfl
  have c1 := h.c 1 rfl
  have c2 := h.c 2 rfl
  have c3 := h.c 3 rfl
  have f0 := h.f 0 (by simp)
  have f1 := h.f 1 (by simp)
  have f2 := h.f 2 (by simp)
  have f3 := h.f 3 (by simp)
  refine ⟨by simp [World.setCell]; exact h.1, ?_, ?_⟩
  · intro j hj
    match j, hj with
    | 0, _ => simp [go_sem, c0]
    | 1, _ => simp [go_sem, c1]
    | 2, _ => simp [go_sem, c2]
    | 3, _ => simp [go_sem, c3]
  · intro j hj
    match j, hj with
    | 0, _ => simp [go_sem, f0]
    | 1, _ => simp [go_sem, f1]
    | 2, _ => simp [go_sem, f2]
    | 3, _ => simp [go_sem, f3]
theorem Box.set43 {w : World} {g : Nat} {a0 a1 a2 a3 v : Value} (h : Box w g [a0, a1, a2, a3]) : Box (w.setCell ⟨g, 3, none⟩ v) g [a0, a1, a2, v] := by
  have c0 := h.c 0 rfl
  have c1 := h.c 1 rfl
  have c2 := h.c 2 rfl
  have c3 := h.c 3 rfl
  have f0 := h.f 0 (by simp)
  have f1 := h.f 1 (by simp)
  have f2 := h.f 2 (by simp)
  have f3 := h.f 3 (by simp)
  refine ⟨by simp [World.setCell]; exact h.1, ?_, ?_⟩
  · intro j hj
    match j, hj with
    | 0, _ => simp [go_sem, c0]
    | 1, _ => simp [go_sem, c1]
    | 2, _ => simp [go_sem, c2]
    | 3, _ => simp [go_sem, c3]
  · intro j hj
    match j, hj with
    | 0, _ => simp [go_sem, f0]
    | 1, _ => simp [go_sem, f1]
    | 2, _ => simp [go_sem, f2]
    | 3, _ => simp [go_sem, f3]
theorem one_int (x : Int) : ∀ u ∈ [Value.int .i64 x], u.oneCell' = true := by
  intro u hu; simp at hu; subst hu; rfl
theorem Is_snoc (t : List Int) (x : Int) : Is (t ++ [x]) = Is t ++ [.int .i64 x] := by simp [Is]
theorem stTo_in {R : Nat} {l : List Int} : ∀ n, stTo R l n = true → ∀ k, k < n → 0 ≤ l.getD k 0 ∧ l.getD k 0 ≤ (R : Int) - 1 := by
  intro n
  induction n with
  | zero => intro _ k hk; omega
  | succ n ih =>
    intro h k hk
    rw [stTo, Bool.and_eq_true, Bool.and_eq_true] at h
    by_cases e : k = n
    · subst e; exact of_inR h.2.1
    · exact ih h.1 k (by omega)
theorem take_entry (w : World) (a b : Int) (r : ByteArray) (A : Option Addr) (n c : Nat) :
    Below w.heap.size w (((w.alloc (.cells #[.int .i64 a, .int .i64 b, .string r, .slice A n c] 27)).alloc (.cells #[.int .i64 0, .int .i64 0, .string ⟨#[]⟩, .slice none 0 0] 27)).alloc (.cells #[.int .i64 0, .int .i64 0, .int .i64 0, .string ⟨#[]⟩] 41)) ∧ Box (((w.alloc (.cells #[.int .i64 a, .int .i64 b, .string r, .slice A n c] 27)).alloc (.cells #[.int .i64 0, .int .i64 0, .string ⟨#[]⟩, .slice none 0 0] 27)).alloc (.cells #[.int .i64 0, .int .i64 0, .int .i64 0, .string ⟨#[]⟩] 41)) w.heap.size [.int .i64 a, .int .i64 b, .string r, .slice A n c] ∧ Box (((w.alloc (.cells #[.int .i64 a, .int .i64 b, .string r, .slice A n c] 27)).alloc (.cells #[.int .i64 0, .int .i64 0, .string ⟨#[]⟩, .slice none 0 0] 27)).alloc (.cells #[.int .i64 0, .int .i64 0, .int .i64 0, .string ⟨#[]⟩] 41)) (w.heap.size + 1) [.int .i64 0, .int .i64 0, .string ⟨#[]⟩, .slice none 0 0] ∧ Box (((w.alloc (.cells #[.int .i64 a, .int .i64 b, .string r, .slice A n c] 27)).alloc (.cells #[.int .i64 0, .int .i64 0, .string ⟨#[]⟩, .slice none 0 0] 27)).alloc (.cells #[.int .i64 0, .int .i64 0, .int .i64 0, .string ⟨#[]⟩] 41)) (w.heap.size + 1 + 1) [.int .i64 0, .int .i64 0, .int .i64 0, .string ⟨#[]⟩] := by
  refine ⟨(((Below.refl w.heap.size w).alloc (Nat.le_refl _) _).alloc (by simp) _).alloc (by simp; omega) _, ?_, ?_, ?_⟩
  · have := ((Box.new w #[.int .i64 a, .int .i64 b, .string r, .slice A n c] 27).alloc (.cells #[.int .i64 0, .int .i64 0, .string ⟨#[]⟩, .slice none 0 0] 27)).alloc (.cells #[.int .i64 0, .int .i64 0, .int .i64 0, .string ⟨#[]⟩] 41)
    simpa using this
  · have := (Box.new (w.alloc (.cells #[.int .i64 a, .int .i64 b, .string r, .slice A n c] 27)) #[.int .i64 0, .int .i64 0, .string ⟨#[]⟩, .slice none 0 0] 27).alloc (.cells #[.int .i64 0, .int .i64 0, .int .i64 0, .string ⟨#[]⟩] 41)
    simpa using this
  · have := Box.new ((w.alloc (.cells #[.int .i64 a, .int .i64 b, .string r, .slice A n c] 27)).alloc (.cells #[.int .i64 0, .int .i64 0, .string ⟨#[]⟩, .slice none 0 0] 27)) #[.int .i64 0, .int .i64 0, .int .i64 0, .string ⟨#[]⟩] 41
    simpa using this
theorem i_PackerOk_is (a b : Int) (r : ByteArray) (A : Option Addr) (n c : Nat) (l : List Int) (ok : Bool) (w : World) (h : RI w A n l) (hn : n ≤ 1048576) (hr : r.size ≤ 1099511627776) (hk : pkOk a b r l = ok) :
    Calls Try.prog 13 #[.agg #[.int .i64 a, .int .i64 b, .string r, .slice A n c]] w fun e w' => e = .returned (.bool ok) ∧ Below w.heap.size w w' := by
  subst hk; exact i_PackerOk a b r A n c l w h hn hr
set_option maxHeartbeats 1600000 in
theorem i_TakeFrame_no (a b : Int) (r : ByteArray) (A : Option Addr) (n c : Nat) (l : List Int) (w : World) (h : RI w A n l) (hn : n ≤ 1048576) (hr : r.size ≤ 1099511627776) (hk : tkOk a b r l = false) :
    Calls Try.prog 22 #[.agg #[.int .i64 a, .int .i64 b, .string r, .slice A n c]] w (MadeTake a b r l w) := by
  have HK := hide hk
  have H := hide h
  have HL := hide h.1
  cases hp : pkOk a b r l with
  | false =>
    have HP := hide hp
    clear h hk hp
    go_enter Try.func22, Try.ntmps22
    go_wp2_with fail
    obtain ⟨hbW, pb, rp, rf⟩ := take_entry w a b r A n c
    generalize (((w.alloc (.cells #[.int .i64 a, .int .i64 b, .string r, .slice A n c] 27)).alloc (.cells #[.int .i64 0, .int .i64 0, .string ⟨#[]⟩, .slice none 0 0] 27)).alloc (.cells #[.int .i64 0, .int .i64 0, .int .i64 0, .string ⟨#[]⟩] 41)) = W at *
    have HW := hide hbW
    have PB := hide pb
    have RP := hide rp
    have RF := hide rf
    have HR := hide (H.out.below hbW)
    clear hbW pb rp rf H
    refine (i_PackerOk_is _ _ _ _ _ _ l _ _ HR.out hn hr HP.out).mono ?_
    rintro e w1 ⟨rfl, hb⟩
    have HB1 := hide (HW.out.trans (hb.mono HW.out.size))
    have hs1 : W.heap.size ≤ w1.heap.size := hb.size
    have PB1 := hide (PB.out.below hb)
    have RP1 := hide (RP.out.below hb)
    have RF1 := hide (RF.out.below hb)
    have HR1 := hide (HR.out.below hb)
    clear hb HR PB RP RF
    have p0 := PB1.out.c 0 rfl
    have p1 := PB1.out.c 1 rfl
    have p2 := PB1.out.c 2 rfl
    have p3 := PB1.out.c 3 rfl
    go_wp2_with fail
    refine (i_clonePacker _ _ _ _ _ _ l _ HR1.out hn).mono ?_
    rintro e w2 ⟨v, rfl, ho, hb⟩
    obtain ⟨A', c', rfl⟩ := own_form ho
    have rp := RP1.out.below hb
    have rf := RF1.out.below hb
    have hg1 : w.heap.size + 1 < w1.heap.size := RP1.out.1
    have hg2 : w.heap.size + 1 + 1 < w1.heap.size := RF1.out.1
    have HO := hide ho
    have HB := hide (HB1.out.trans (hb.mono HB1.out.size))
    have HG := hide (And.intro hg1 (And.intro hg2 HB1.out.size))
    clear p0 p1 p2 p3 ho hb hg1 hg2 RP1 RF1 PB1 HR1 HB1 hs1 HW
    have r0 := rp.c 0 rfl
    have r1 := rp.c 1 rfl
    have r2 := rp.c 2 rfl
    have r3 := rp.c 3 rfl
    have q0 := rp.f 0 (by simp)
    have q1 := rp.f 1 (by simp)
    have q2 := rp.f 2 (by simp)
    have q3 := rp.f 3 (by simp)
    have f0 := rf.c 0 rfl
    have f1 := rf.c 1 rfl
    have f2 := rf.c 2 rfl
    have f3 := rf.c 3 rfl
    have z0 := rf.f 0 (by simp)
    have z1 := rf.f 1 (by simp)
    have z2 := rf.f 2 (by simp)
    have z3 := rf.f 3 (by simp)
    clear rp rf
    go_wp2_with fail
    refine bodyPost_ret (v := .tuple #[.agg #[.int .i64 a, .int .i64 b, .string r, .slice A' n c'], .agg #[.int .i64 0, .int .i64 0, .int .i64 0, .string ⟨#[]⟩], .bool false]) (by simp [results, Try.results22, go_sem, r0, r1, r2, r3, f0, f1, f2, f3]) rfl (made_take_no HK.out ?_ ?_)
    · obtain ⟨hg1, hg2, hg3⟩ := HG.out
      have hoo := HO.out
      rw [HL.out]
      refine own_mono ?_ hg3
      repeat (first | with_reducible exact hoo | with_reducible refine own_set ?_ (by first | exact hg1 | exact hg2) _)
    · have hbb := HB.out
      repeat (first | with_reducible exact hbb | with_reducible refine Below.drew ?_ | with_reducible refine below_drewN ?_ _ | with_reducible refine Below.setCell ?_ (by first | exact Nat.le_refl _ | exact Nat.le_succ _ | (simp; done) | omega | (simp; omega)) _ | refine Below.alloc ?_ (by first | exact Nat.le_refl _ | (simp; done) | omega | (simp; omega)) _)
  | true =>
    have hlt : r.size < 24 := by
      unfold tkOk at hk
      rw [hp] at hk
      have := of_decide_eq_false (show decide (24 ≤ r.size) = false from hk)
      omega
    have HP := hide hp
    clear h hk hp
    go_enter Try.func22, Try.ntmps22
    go_wp2_with fail
    obtain ⟨hbW, pb, rp, rf⟩ := take_entry w a b r A n c
    generalize (((w.alloc (.cells #[.int .i64 a, .int .i64 b, .string r, .slice A n c] 27)).alloc (.cells #[.int .i64 0, .int .i64 0, .string ⟨#[]⟩, .slice none 0 0] 27)).alloc (.cells #[.int .i64 0, .int .i64 0, .int .i64 0, .string ⟨#[]⟩] 41)) = W at *
    have HW := hide hbW
    have PB := hide pb
    have RP := hide rp
    have RF := hide rf
    have HR := hide (H.out.below hbW)
    clear hbW pb rp rf H
    refine (i_PackerOk_is _ _ _ _ _ _ l _ _ HR.out hn hr HP.out).mono ?_
    rintro e w1 ⟨rfl, hb⟩
    have HB1 := hide (HW.out.trans (hb.mono HW.out.size))
    have hs1 : W.heap.size ≤ w1.heap.size := hb.size
    have PB1 := hide (PB.out.below hb)
    have RP1 := hide (RP.out.below hb)
    have RF1 := hide (RF.out.below hb)
    have HR1 := hide (HR.out.below hb)
    clear hb HR PB RP RF
    have p0 := PB1.out.c 0 rfl
    have p1 := PB1.out.c 1 rfl
    have p2 := PB1.out.c 2 rfl
    have p3 := PB1.out.c 3 rfl
    go_wp2_with fail
    refine (i_clonePacker _ _ _ _ _ _ l _ HR1.out hn).mono ?_
    rintro e w2 ⟨v, rfl, ho, hb⟩
    obtain ⟨A', c', rfl⟩ := own_form ho
    have rp := RP1.out.below hb
    have rf := RF1.out.below hb
    have hg1 : w.heap.size + 1 < w1.heap.size := RP1.out.1
    have hg2 : w.heap.size + 1 + 1 < w1.heap.size := RF1.out.1
    have HO := hide ho
    have HB := hide (HB1.out.trans (hb.mono HB1.out.size))
    have HG := hide (And.intro hg1 (And.intro hg2 HB1.out.size))
    clear p0 p1 p2 p3 ho hb hg1 hg2 RP1 RF1 PB1 HR1 HB1 hs1 HW
    have r0 := rp.c 0 rfl
    have r1 := rp.c 1 rfl
    have r2 := rp.c 2 rfl
    have r3 := rp.c 3 rfl
    have q0 := rp.f 0 (by simp)
    have q1 := rp.f 1 (by simp)
    have q2 := rp.f 2 (by simp)
    have q3 := rp.f 3 (by simp)
    have f0 := rf.c 0 rfl
    have f1 := rf.c 1 rfl
    have f2 := rf.c 2 rfl
    have f3 := rf.c 3 rfl
    have z0 := rf.f 0 (by simp)
    have z1 := rf.f 1 (by simp)
    have z2 := rf.f 2 (by simp)
    have z3 := rf.f 3 (by simp)
    clear rp rf
    go_wp2_with fail
    refine bodyPost_ret (v := .tuple #[.agg #[.int .i64 a, .int .i64 b, .string r, .slice A' n c'], .agg #[.int .i64 0, .int .i64 0, .int .i64 0, .string ⟨#[]⟩], .bool false]) (by simp [results, Try.results22, go_sem, r0, r1, r2, r3, f0, f1, f2, f3]) rfl (made_take_no HK.out ?_ ?_)
    · obtain ⟨hg1, hg2, hg3⟩ := HG.out
      have hoo := HO.out
      rw [HL.out]
      refine own_mono ?_ hg3
      repeat (first | with_reducible exact hoo | with_reducible refine own_set ?_ (by first | exact hg1 | exact hg2) _)
    · have hbb := HB.out
      repeat (first | with_reducible exact hbb | with_reducible refine Below.drew ?_ | with_reducible refine below_drewN ?_ _ | with_reducible refine Below.setCell ?_ (by first | exact Nat.le_refl _ | exact Nat.le_succ _ | (simp; done) | omega | (simp; omega)) _ | refine Below.alloc ?_ (by first | exact Nat.le_refl _ | (simp; done) | omega | (simp; omega)) _)
set_option maxHeartbeats 3200000 in
theorem i_TakeFrame_yes (a b : Int) (r : ByteArray) (A : Option Addr) (n c : Nat) (l : List Int) (w : World) (h : RI w A n l) (hn : n ≤ 1048576) (hr : r.size ≤ 1099511627776) (hk : tkOk a b r l = true) :
    Calls Try.prog 22 #[.agg #[.int .i64 a, .int .i64 b, .string r, .slice A n c]] w (MadeTake a b r l w) := by
  have HK := hide hk
  have H := hide h
  have HL := hide h.1
  unfold tkOk at hk
  rw [Bool.and_eq_true, decide_eq_true_eq] at hk
  have hp := hk.1
  have hge := hk.2
  have hb0 : 0 ≤ b ∧ b ≤ 255 := by
    unfold pkOk at hp
    simp only [Bool.and_eq_true] at hp
    exact of_inR hp.1.1.2
  have hb1 := hb0.1
  have hb2 := hb0.2
  have HX := hide (show ∀ k, k < n → 0 ≤ l.getD k 0 ∧ l.getD k 0 ≤ 5000 by
    intro k hkn
    unfold pkOk at hp
    simp only [Bool.and_eq_true, decide_eq_true_eq] at hp
    have := stTo_in l.length hp.2 k (by rw [HL.out]; exact hkn)
    omega)
  have HP := hide hp
  clear h hk hp hb0
  have hF : (0 < n ∧ l.getD 0 0 < 24) ∨ (0 < n ∧ ¬ l.getD 0 0 < 24) ∨ n = 0 := by omega
  have HFF := hide (show tkF l = if 0 < n ∧ l.getD 0 0 < 24 then l.getD 0 0 else 255 by unfold tkF; rw [HL.out])
  go_enter Try.func22, Try.ntmps22
  go_wp2_with fail
  obtain ⟨hbW, pb, rp, rf⟩ := take_entry w a b r A n c
  generalize (((w.alloc (.cells #[.int .i64 a, .int .i64 b, .string r, .slice A n c] 27)).alloc (.cells #[.int .i64 0, .int .i64 0, .string ⟨#[]⟩, .slice none 0 0] 27)).alloc (.cells #[.int .i64 0, .int .i64 0, .int .i64 0, .string ⟨#[]⟩] 41)) = W at *
  have HW := hide hbW
  have PB := hide pb
  have RP := hide rp
  have RF := hide rf
  have HR := hide (H.out.below hbW)
  clear hbW pb rp rf H
  refine (i_PackerOk_is _ _ _ _ _ _ l _ _ HR.out hn hr HP.out).mono ?_
  rintro e w1 ⟨rfl, hb⟩
  have HB1 := hide (HW.out.trans (hb.mono HW.out.size))
  have hs1 : W.heap.size ≤ w1.heap.size := hb.size
  have PB1 := hide (PB.out.below hb)
  have RP1 := hide (RP.out.below hb)
  have RF1 := hide (RF.out.below hb)
  have HR1 := hide (HR.out.below hb)
  clear hb HR PB RP RF
  have p0 := PB1.out.c 0 rfl
  have p1 := PB1.out.c 1 rfl
  have p2 := PB1.out.c 2 rfl
  have p3 := PB1.out.c 3 rfl
  have i24 : (24 : Int) ≤ (r.size : Int) := by omega
  go_wp2_with fail
  go_region_held3 (fun w' => w'.cell? ⟨w.heap.size, 0, none⟩ = some (.int .i64 a) ∧ w'.cell? ⟨w.heap.size, 1, none⟩ = some (.int .i64 b) ∧ w'.cell? ⟨w.heap.size, 2, none⟩ = some (.string r)) (go_keep) (fail)
  have hA : Below w1.heap.size w1 (w1.alloc (.cells #[.int .i64 a, .int .i64 b, .int .i64 255, .string (r.extract 0 24)] 41)).drew := ((Below.refl _ _).alloc (Nat.le_refl _) _).drew
  have fb : Box (w1.alloc (.cells #[.int .i64 a, .int .i64 b, .int .i64 255, .string (r.extract 0 24)] 41)).drew w1.heap.size [.int .i64 a, .int .i64 b, .int .i64 255, .string (r.extract 0 24)] := by
    have := (Box.new w1 #[.int .i64 a, .int .i64 b, .int .i64 255, .string (r.extract 0 24)] 41).drew
    simpa using this
  have BW2 := hide hA
  have FB2 := hide fb
  clear hA fb p0 p1 p2 p3
  generalize (w1.alloc (.cells #[.int .i64 a, .int .i64 b, .int .i64 255, .string (r.extract 0 24)] 41)).drew = W2 at *
  have p0 := (PB1.out.below BW2.out).c 0 rfl
  have p1 := (PB1.out.below BW2.out).c 1 rfl
  have p2 := (PB1.out.below BW2.out).c 2 rfl
  have p3 := (PB1.out.below BW2.out).c 3 rfl
  have s2 := FB2.out.c 2 rfl
  have z2 := FB2.out.f 2 (by simp)
  rcases hF with ⟨hn0, hF⟩ | ⟨hn0, hF⟩ | hn0
  · obtain ⟨g, off, rfl, hg, hc⟩ := (HR1.out.below BW2.out).2 hn0
    have k0 := hc 0 hn0
    rw [Nat.add_zero] at k0
    have HT := hide (show tkF l = l.getD 0 0 by rw [HFF.out, if_pos ⟨hn0, hF⟩])
    clear hc HFF
    generalize l.getD 0 0 = x at *
    go_wp2_with fail
    have BW3 := hide (show Below w1.heap.size w1 (W2.setCell ⟨w1.heap.size, 2, none⟩ (.int .i64 x)) from BW2.out.setCell (Nat.le_refl _) _)
    have FB3 := hide (show Box (W2.setCell ⟨w1.heap.size, 2, none⟩ (.int .i64 x)) w1.heap.size [.int .i64 a, .int .i64 b, .int .i64 x, .string (r.extract 0 24)] from FB2.out.set42)
    clear k0 s2 z2 BW2 FB2 hF hn0 hg
    generalize W2.setCell ⟨w1.heap.size, 2, none⟩ (.int .i64 x) = W3 at *
    generalize hA0 : some (⟨g, off, none⟩ : Addr) = A at *
    clear hA0
    clear p0 p1 p2 p3
    have p0 := (PB1.out.below BW3.out).c 0 rfl
    have p1 := (PB1.out.below BW3.out).c 1 rfl
    have p2 := (PB1.out.below BW3.out).c 2 rfl
    have p3 := (PB1.out.below BW3.out).c 3 rfl
    have jb : IntKind.i64.wrap (b + 1) = b + 1 := by rw [IntKind.wrap_i64]; omega
    go_region_held3 (fun w' => w'.cell? ⟨w.heap.size, 0, none⟩ = some (.int .i64 a) ∧ w'.cell? ⟨w.heap.size, 1, none⟩ = some (.int .i64 b) ∧ w'.cell? ⟨w.heap.size, 2, none⟩ = some (.string r)) (go_keep) (fail)
    rw [show (b + 1).tmod 256 = (b + 1) % 256 from Int.tmod_eq_emod_of_nonneg (by omega)]
    have hA : Below W3.heap.size W3 (W3.alloc (.cells #[.int .i64 a, .int .i64 ((b + 1) % 256), .string (r.extract 24 r.size), .slice none 0 0] 27)).drew := ((Below.refl _ _).alloc (Nat.le_refl _) _).drew
    have qb : Box (W3.alloc (.cells #[.int .i64 a, .int .i64 ((b + 1) % 256), .string (r.extract 24 r.size), .slice none 0 0] 27)).drew W3.heap.size [.int .i64 a, .int .i64 ((b + 1) % 256), .string (r.extract 24 r.size), .slice none 0 0] := by
      have := (Box.new W3 #[.int .i64 a, .int .i64 ((b + 1) % 256), .string (r.extract 24 r.size), .slice none 0 0] 27).drew
      simpa using this
    have BW4 := hide (BW3.out.trans (hA.mono BW3.out.size))
    have FB4 := hide (FB3.out.below hA)
    have QB4 := hide qb
    have hgq := FB3.out.1
    clear hA qb BW3 FB3 p0 p1 p2 p3 jb
    generalize (W3.alloc (.cells #[.int .i64 a, .int .i64 ((b + 1) % 256), .string (r.extract 24 r.size), .slice none 0 0] 27)).drew = W4 at *
    generalize W3.heap.size = gq at *
    have p0 := (PB1.out.below BW4.out).c 0 rfl
    have p1 := (PB1.out.below BW4.out).c 1 rfl
    have p2 := (PB1.out.below BW4.out).c 2 rfl
    have p3 := (PB1.out.below BW4.out).c 3 rfl
    go_wp2_with fail
    clear p0 p1 p2 p3
    have B4s : gq + 1 ≤ W4.heap.size := QB4.out.1
    go_loopw [58] (fun iv wr => ∃ (k : Nat) (A' : Option Addr) (c' : Nat), k ≤ n ∧ iv = .int .i64 k ∧ Hid (Box wr gq [.int .i64 a, .int .i64 ((b + 1) % 256), .string (r.extract 24 r.size), .slice A' (tkTo l k).length c']) ∧ wr.ownsRow (gq + 1) 3 1 (.slice A' (tkTo l k).length c') (tkTo l k).length (Is (tkTo l k)) ∧ Hid (Box wr w1.heap.size [.int .i64 a, .int .i64 b, .int .i64 x, .string (r.extract 0 24)]) ∧ Hid (Below w1.heap.size w1 wr)) (fun iv _ => n - (intOf iv).toNat)
    case atStart => exact ⟨0, none, 0, Nat.zero_le _, rfl, QB4.out, World.ownsRow_nil _ _ _ _, FB4.out, BW4.out⟩
    case round =>
      clear QB4 FB4 BW4 B4s
      obtain ⟨k, A', c', hk, rfl, hqb, hown, hfb, hbw⟩ := hrel
      have hgs : gq + 1 ≤ wr.heap.size := hqb.out.1
      have HO := hide hown
      clear hown
      by_cases hlt : k < n
      · obtain ⟨g', off', hA', hg', hc'⟩ := (HR1.out.below hbw.out).2 (by omega)
        subst hA'
        have k1 := hc' k hlt
        have hxr := HX.out k hlt
        have hx0 := hxr.1
        have hx1 := hxr.2
        have hkl : k < l.length := by rw [HL.out]; exact hlt
        have htl := tkTo_len l k
        clear hc' hxr
        by_cases hx : 24 ≤ l.getD k 0
        · have TY := hide (tkTo_yes l k hkl hx)
          have q3 := hqb.out.c 3 rfl
          obtain ⟨y, hy⟩ : ∃ y, y = l.getD k 0 := ⟨_, rfl⟩
          rw [← hy] at k1 hx hx0 hx1 TY
          clear hy
          go_wp2_with (at_builtin; refine wpList_appV 22 3 (.int .i64 0) 1 8 Try.underlying22 infoI rfl (by decide) (by decide) rfl _ _ rfl (gq + 1) _ (tkTo l k).length 1 (Is (tkTo l k)) [.int .i64 (y - 24)] rfl HO.out rfl rfl rfl (one_int _) (by omega) hgs ?_; intro v' w' ho' hb'; obtain ⟨A2, c2, rfl⟩ := own_form ho'; have QB' := hide (hqb.out.belowM (Nat.lt_succ_self gq) hb'); have FB' := hide (hfb.out.belowM (by omega) hb'); have BW' := hide (hbw.out.trans (hb'.mono (by omega))); have t3 := QB'.out.c 3 rfl; have f3 := QB'.out.f 3 (by simp); have OW' := hide ho'; clear ho' hb')
          go_roundw
          case rel =>
            refine ⟨k + 1, A2, c2, by omega, by go_num, ?_, ?_, ?_, ?_⟩
            · rw [TY.out, List.length_append]; exact QB'.out.set43
            · rw [TY.out, List.length_append, Is_snoc]; exact own_set OW'.out (Nat.lt_succ_self gq) _
            · exact FB'.out.belowM (M := gq) hgq ((Below.refl gq w').setCell (Nat.le_refl _) _)
            · exact BW'.out.setCell (Nat.le_of_lt hgq) _
          case measure => simp [intOf]; omega
        · have TN := hide (tkTo_no l k hkl hx)
          obtain ⟨y, hy⟩ : ∃ y, y = l.getD k 0 := ⟨_, rfl⟩
          rw [← hy] at k1 hx hx0 hx1
          clear hy
          go_wp2_with fail
          go_roundw
          case rel => exact ⟨k + 1, A', c', by omega, by go_num, by rw [TN.out]; exact hqb.out, by rw [TN.out]; exact HO.out, hfb.out, hbw.out⟩
          case measure => simp [intOf]; omega
      · obtain rfl : k = n := by omega
        have rp := RP1.out.below hbw.out
        have rf := RF1.out.below hbw.out
        have r0 := rp.c 0 rfl
        have r1 := rp.c 1 rfl
        have r2 := rp.c 2 rfl
        have r3 := rp.c 3 rfl
        have q0 := rp.f 0 (by simp)
        have q1 := rp.f 1 (by simp)
        have q2 := rp.f 2 (by simp)
        have q3 := rp.f 3 (by simp)
        have f0 := rf.c 0 rfl
        have f1 := rf.c 1 rfl
        have f2 := rf.c 2 rfl
        have f3 := rf.c 3 rfl
        have z0 := rf.f 0 (by simp)
        have z1 := rf.f 1 (by simp)
        have z2 := rf.f 2 (by simp)
        have z3 := rf.f 3 (by simp)
        have u0 := hqb.out.c 0 rfl
        have u1 := hqb.out.c 1 rfl
        have u2 := hqb.out.c 2 rfl
        have u3 := hqb.out.c 3 rfl
        have e0 := hfb.out.c 0 rfl
        have e1 := hfb.out.c 1 rfl
        have e2 := hfb.out.c 2 rfl
        have e3 := hfb.out.c 3 rfl
        clear rp rf
        have hg1 : w.heap.size + 1 < w1.heap.size := RP1.out.1
        have hg2 : w.heap.size + 1 + 1 < w1.heap.size := RF1.out.1
        have n1 : ¬ gq = w.heap.size + 1 := by omega
        have n2 : ¬ gq = w.heap.size + 1 + 1 := by omega
        have n3 : ¬ w1.heap.size = w.heap.size + 1 := by omega
        have n4 : ¬ w1.heap.size = w.heap.size + 1 + 1 := by omega
        have n5 : ¬ w.heap.size + 1 = gq := by omega
        have n6 : ¬ w.heap.size + 1 + 1 = gq := by omega
        have n7 : ¬ w.heap.size + 1 = w1.heap.size := by omega
        have n8 : ¬ w.heap.size + 1 + 1 = w1.heap.size := by omega
        have HG := hide (And.intro hg1 (And.intro hg2 HB1.out.size))
        have HBW := hide (HB1.out.trans (hbw.out.mono HB1.out.size))
        have HGQ := hide hgq
        clear hg1 hg2 hgs hqb hfb hbw
        go_wp2_with fail
        go_region_held3 (fun w' => w'.cell? ⟨gq, 0, none⟩ = some (.int .i64 a) ∧ w'.cell? ⟨gq, 1, none⟩ = some (.int .i64 ((b + 1) % 256)) ∧ w'.cell? ⟨gq, 2, none⟩ = some (.string (r.extract 24 r.size)) ∧ w'.cell? ⟨gq, 3, none⟩ = some (.slice A' (tkTo l k).length c') ∧ w'.cell? ⟨w1.heap.size, 0, none⟩ = some (.int .i64 a) ∧ w'.cell? ⟨w1.heap.size, 1, none⟩ = some (.int .i64 b) ∧ w'.cell? ⟨w1.heap.size, 2, none⟩ = some (.int .i64 x) ∧ w'.cell? ⟨w1.heap.size, 3, none⟩ = some (.string (r.extract 0 24))) (go_keep) (fail)
        all_goals
          go_wp2_with fail
          refine bodyPost_ret (v := .tuple #[.agg #[.int .i64 a, .int .i64 ((b + 1) % 256), .string (r.extract 24 r.size), .slice A' (tkTo l k).length c'], .agg #[.int .i64 a, .int .i64 b, .int .i64 x, .string (r.extract 0 24)], .bool true]) (by simp [results, Try.results22, go_sem, r0, r1, r2, r3, f0, f1, f2, f3]) rfl ?_
          rw [← HT.out]
          refine made_take_yes HK.out ?_ ?_
          · obtain ⟨hg1, hg2, hg3⟩ := HG.out
            have hoo := HO.out
            rw [HL.out]
            refine own_mono ?_ (show w.heap.size ≤ gq + 1 by have := HGQ.out; omega)
            repeat (first | with_reducible exact hoo | with_reducible refine World.ownsRow.drew ?_ | with_reducible refine own_set ?_ (by have := HGQ.out; first | (show w.heap.size + 1 < gq + 1; omega) | (show w.heap.size + 1 + 1 < gq + 1; omega)) _)
          · have hbb := HBW.out
            repeat (first | with_reducible exact hbb | with_reducible refine Below.drew ?_ | with_reducible refine below_drewN ?_ _ | with_reducible refine Below.setCell ?_ (by first | exact Nat.le_refl _ | exact Nat.le_succ _ | (simp; done) | omega | (simp; omega)) _)
  · obtain ⟨g, off, rfl, hg, hc⟩ := (HR1.out.below BW2.out).2 hn0
    have k0 := hc 0 hn0
    rw [Nat.add_zero] at k0
    have HT := hide (show tkF l = 255 by rw [HFF.out, if_neg (fun h => absurd h.2 (by omega))])
    clear hc HFF
    generalize l.getD 0 0 = x at *
    go_wp2_with fail
    have BW3 := hide BW2.out
    have FB3 := hide FB2.out
    clear k0 s2 z2 BW2 FB2 hF hn0 hg
    generalize W2 = W3 at *
    generalize hA0 : some (⟨g, off, none⟩ : Addr) = A at *
    clear hA0
    clear p0 p1 p2 p3
    have p0 := (PB1.out.below BW3.out).c 0 rfl
    have p1 := (PB1.out.below BW3.out).c 1 rfl
    have p2 := (PB1.out.below BW3.out).c 2 rfl
    have p3 := (PB1.out.below BW3.out).c 3 rfl
    have jb : IntKind.i64.wrap (b + 1) = b + 1 := by rw [IntKind.wrap_i64]; omega
    go_region_held3 (fun w' => w'.cell? ⟨w.heap.size, 0, none⟩ = some (.int .i64 a) ∧ w'.cell? ⟨w.heap.size, 1, none⟩ = some (.int .i64 b) ∧ w'.cell? ⟨w.heap.size, 2, none⟩ = some (.string r)) (go_keep) (fail)
    rw [show (b + 1).tmod 256 = (b + 1) % 256 from Int.tmod_eq_emod_of_nonneg (by omega)]
    have hA : Below W3.heap.size W3 (W3.alloc (.cells #[.int .i64 a, .int .i64 ((b + 1) % 256), .string (r.extract 24 r.size), .slice none 0 0] 27)).drew := ((Below.refl _ _).alloc (Nat.le_refl _) _).drew
    have qb : Box (W3.alloc (.cells #[.int .i64 a, .int .i64 ((b + 1) % 256), .string (r.extract 24 r.size), .slice none 0 0] 27)).drew W3.heap.size [.int .i64 a, .int .i64 ((b + 1) % 256), .string (r.extract 24 r.size), .slice none 0 0] := by
      have := (Box.new W3 #[.int .i64 a, .int .i64 ((b + 1) % 256), .string (r.extract 24 r.size), .slice none 0 0] 27).drew
      simpa using this
    have BW4 := hide (BW3.out.trans (hA.mono BW3.out.size))
    have FB4 := hide (FB3.out.below hA)
    have QB4 := hide qb
    have hgq := FB3.out.1
    clear hA qb BW3 FB3 p0 p1 p2 p3 jb
    generalize (W3.alloc (.cells #[.int .i64 a, .int .i64 ((b + 1) % 256), .string (r.extract 24 r.size), .slice none 0 0] 27)).drew = W4 at *
    generalize W3.heap.size = gq at *
    have p0 := (PB1.out.below BW4.out).c 0 rfl
    have p1 := (PB1.out.below BW4.out).c 1 rfl
    have p2 := (PB1.out.below BW4.out).c 2 rfl
    have p3 := (PB1.out.below BW4.out).c 3 rfl
    go_wp2_with fail
    clear p0 p1 p2 p3
    have B4s : gq + 1 ≤ W4.heap.size := QB4.out.1
    go_loopw [58] (fun iv wr => ∃ (k : Nat) (A' : Option Addr) (c' : Nat), k ≤ n ∧ iv = .int .i64 k ∧ Hid (Box wr gq [.int .i64 a, .int .i64 ((b + 1) % 256), .string (r.extract 24 r.size), .slice A' (tkTo l k).length c']) ∧ wr.ownsRow (gq + 1) 3 1 (.slice A' (tkTo l k).length c') (tkTo l k).length (Is (tkTo l k)) ∧ Hid (Box wr w1.heap.size [.int .i64 a, .int .i64 b, .int .i64 255, .string (r.extract 0 24)]) ∧ Hid (Below w1.heap.size w1 wr)) (fun iv _ => n - (intOf iv).toNat)
    case atStart => exact ⟨0, none, 0, Nat.zero_le _, rfl, QB4.out, World.ownsRow_nil _ _ _ _, FB4.out, BW4.out⟩
    case round =>
      clear QB4 FB4 BW4 B4s
      obtain ⟨k, A', c', hk, rfl, hqb, hown, hfb, hbw⟩ := hrel
      have hgs : gq + 1 ≤ wr.heap.size := hqb.out.1
      have HO := hide hown
      clear hown
      by_cases hlt : k < n
      · obtain ⟨g', off', hA', hg', hc'⟩ := (HR1.out.below hbw.out).2 (by omega)
        subst hA'
        have k1 := hc' k hlt
        have hxr := HX.out k hlt
        have hx0 := hxr.1
        have hx1 := hxr.2
        have hkl : k < l.length := by rw [HL.out]; exact hlt
        have htl := tkTo_len l k
        clear hc' hxr
        by_cases hx : 24 ≤ l.getD k 0
        · have TY := hide (tkTo_yes l k hkl hx)
          have q3 := hqb.out.c 3 rfl
          obtain ⟨y, hy⟩ : ∃ y, y = l.getD k 0 := ⟨_, rfl⟩
          rw [← hy] at k1 hx hx0 hx1 TY
          clear hy
          go_wp2_with (at_builtin; refine wpList_appV 22 3 (.int .i64 0) 1 8 Try.underlying22 infoI rfl (by decide) (by decide) rfl _ _ rfl (gq + 1) _ (tkTo l k).length 1 (Is (tkTo l k)) [.int .i64 (y - 24)] rfl HO.out rfl rfl rfl (one_int _) (by omega) hgs ?_; intro v' w' ho' hb'; obtain ⟨A2, c2, rfl⟩ := own_form ho'; have QB' := hide (hqb.out.belowM (Nat.lt_succ_self gq) hb'); have FB' := hide (hfb.out.belowM (by omega) hb'); have BW' := hide (hbw.out.trans (hb'.mono (by omega))); have t3 := QB'.out.c 3 rfl; have f3 := QB'.out.f 3 (by simp); have OW' := hide ho'; clear ho' hb')
          go_roundw
          case rel =>
            refine ⟨k + 1, A2, c2, by omega, by go_num, ?_, ?_, ?_, ?_⟩
            · rw [TY.out, List.length_append]; exact QB'.out.set43
            · rw [TY.out, List.length_append, Is_snoc]; exact own_set OW'.out (Nat.lt_succ_self gq) _
            · exact FB'.out.belowM (M := gq) hgq ((Below.refl gq w').setCell (Nat.le_refl _) _)
            · exact BW'.out.setCell (Nat.le_of_lt hgq) _
          case measure => simp [intOf]; omega
        · have TN := hide (tkTo_no l k hkl hx)
          obtain ⟨y, hy⟩ : ∃ y, y = l.getD k 0 := ⟨_, rfl⟩
          rw [← hy] at k1 hx hx0 hx1
          clear hy
          go_wp2_with fail
          go_roundw
          case rel => exact ⟨k + 1, A', c', by omega, by go_num, by rw [TN.out]; exact hqb.out, by rw [TN.out]; exact HO.out, hfb.out, hbw.out⟩
          case measure => simp [intOf]; omega
      · obtain rfl : k = n := by omega
        have rp := RP1.out.below hbw.out
        have rf := RF1.out.below hbw.out
        have r0 := rp.c 0 rfl
        have r1 := rp.c 1 rfl
        have r2 := rp.c 2 rfl
        have r3 := rp.c 3 rfl
        have q0 := rp.f 0 (by simp)
        have q1 := rp.f 1 (by simp)
        have q2 := rp.f 2 (by simp)
        have q3 := rp.f 3 (by simp)
        have f0 := rf.c 0 rfl
        have f1 := rf.c 1 rfl
        have f2 := rf.c 2 rfl
        have f3 := rf.c 3 rfl
        have z0 := rf.f 0 (by simp)
        have z1 := rf.f 1 (by simp)
        have z2 := rf.f 2 (by simp)
        have z3 := rf.f 3 (by simp)
        have u0 := hqb.out.c 0 rfl
        have u1 := hqb.out.c 1 rfl
        have u2 := hqb.out.c 2 rfl
        have u3 := hqb.out.c 3 rfl
        have e0 := hfb.out.c 0 rfl
        have e1 := hfb.out.c 1 rfl
        have e2 := hfb.out.c 2 rfl
        have e3 := hfb.out.c 3 rfl
        clear rp rf
        have hg1 : w.heap.size + 1 < w1.heap.size := RP1.out.1
        have hg2 : w.heap.size + 1 + 1 < w1.heap.size := RF1.out.1
        have n1 : ¬ gq = w.heap.size + 1 := by omega
        have n2 : ¬ gq = w.heap.size + 1 + 1 := by omega
        have n3 : ¬ w1.heap.size = w.heap.size + 1 := by omega
        have n4 : ¬ w1.heap.size = w.heap.size + 1 + 1 := by omega
        have n5 : ¬ w.heap.size + 1 = gq := by omega
        have n6 : ¬ w.heap.size + 1 + 1 = gq := by omega
        have n7 : ¬ w.heap.size + 1 = w1.heap.size := by omega
        have n8 : ¬ w.heap.size + 1 + 1 = w1.heap.size := by omega
        have HG := hide (And.intro hg1 (And.intro hg2 HB1.out.size))
        have HBW := hide (HB1.out.trans (hbw.out.mono HB1.out.size))
        have HGQ := hide hgq
        clear hg1 hg2 hgs hqb hfb hbw
        go_wp2_with fail
        go_region_held3 (fun w' => w'.cell? ⟨gq, 0, none⟩ = some (.int .i64 a) ∧ w'.cell? ⟨gq, 1, none⟩ = some (.int .i64 ((b + 1) % 256)) ∧ w'.cell? ⟨gq, 2, none⟩ = some (.string (r.extract 24 r.size)) ∧ w'.cell? ⟨gq, 3, none⟩ = some (.slice A' (tkTo l k).length c') ∧ w'.cell? ⟨w1.heap.size, 0, none⟩ = some (.int .i64 a) ∧ w'.cell? ⟨w1.heap.size, 1, none⟩ = some (.int .i64 b) ∧ w'.cell? ⟨w1.heap.size, 2, none⟩ = some (.int .i64 255) ∧ w'.cell? ⟨w1.heap.size, 3, none⟩ = some (.string (r.extract 0 24))) (go_keep) (fail)
        all_goals
          go_wp2_with fail
          refine bodyPost_ret (v := .tuple #[.agg #[.int .i64 a, .int .i64 ((b + 1) % 256), .string (r.extract 24 r.size), .slice A' (tkTo l k).length c'], .agg #[.int .i64 a, .int .i64 b, .int .i64 255, .string (r.extract 0 24)], .bool true]) (by simp [results, Try.results22, go_sem, r0, r1, r2, r3, f0, f1, f2, f3]) rfl ?_
          rw [← HT.out]
          refine made_take_yes HK.out ?_ ?_
          · obtain ⟨hg1, hg2, hg3⟩ := HG.out
            have hoo := HO.out
            rw [HL.out]
            refine own_mono ?_ (show w.heap.size ≤ gq + 1 by have := HGQ.out; omega)
            repeat (first | with_reducible exact hoo | with_reducible refine World.ownsRow.drew ?_ | with_reducible refine own_set ?_ (by have := HGQ.out; first | (show w.heap.size + 1 < gq + 1; omega) | (show w.heap.size + 1 + 1 < gq + 1; omega)) _)
          · have hbb := HBW.out
            repeat (first | with_reducible exact hbb | with_reducible refine Below.drew ?_ | with_reducible refine below_drewN ?_ _ | with_reducible refine Below.setCell ?_ (by first | exact Nat.le_refl _ | exact Nat.le_succ _ | (simp; done) | omega | (simp; omega)) _)
  · have dn1 : decide ((0 : Int) < (n : Int)) = false := decide_eq_false (by omega)
    have dn2 : n ≤ 0 := by omega
    have HT := hide (show tkF l = 255 by rw [HFF.out, if_neg (by omega)])
    clear HFF hn0
    go_wp2_with fail
    have BW3 := hide BW2.out
    have FB3 := hide FB2.out
    clear s2 z2 BW2 FB2
    generalize W2 = W3 at *
    clear p0 p1 p2 p3
    have p0 := (PB1.out.below BW3.out).c 0 rfl
    have p1 := (PB1.out.below BW3.out).c 1 rfl
    have p2 := (PB1.out.below BW3.out).c 2 rfl
    have p3 := (PB1.out.below BW3.out).c 3 rfl
    have jb : IntKind.i64.wrap (b + 1) = b + 1 := by rw [IntKind.wrap_i64]; omega
    go_region_held3 (fun w' => w'.cell? ⟨w.heap.size, 0, none⟩ = some (.int .i64 a) ∧ w'.cell? ⟨w.heap.size, 1, none⟩ = some (.int .i64 b) ∧ w'.cell? ⟨w.heap.size, 2, none⟩ = some (.string r)) (go_keep) (fail)
    rw [show (b + 1).tmod 256 = (b + 1) % 256 from Int.tmod_eq_emod_of_nonneg (by omega)]
    have hA : Below W3.heap.size W3 (W3.alloc (.cells #[.int .i64 a, .int .i64 ((b + 1) % 256), .string (r.extract 24 r.size), .slice none 0 0] 27)).drew := ((Below.refl _ _).alloc (Nat.le_refl _) _).drew
    have qb : Box (W3.alloc (.cells #[.int .i64 a, .int .i64 ((b + 1) % 256), .string (r.extract 24 r.size), .slice none 0 0] 27)).drew W3.heap.size [.int .i64 a, .int .i64 ((b + 1) % 256), .string (r.extract 24 r.size), .slice none 0 0] := by
      have := (Box.new W3 #[.int .i64 a, .int .i64 ((b + 1) % 256), .string (r.extract 24 r.size), .slice none 0 0] 27).drew
      simpa using this
    have BW4 := hide (BW3.out.trans (hA.mono BW3.out.size))
    have FB4 := hide (FB3.out.below hA)
    have QB4 := hide qb
    have hgq := FB3.out.1
    clear hA qb BW3 FB3 p0 p1 p2 p3 jb
    generalize (W3.alloc (.cells #[.int .i64 a, .int .i64 ((b + 1) % 256), .string (r.extract 24 r.size), .slice none 0 0] 27)).drew = W4 at *
    generalize W3.heap.size = gq at *
    have p0 := (PB1.out.below BW4.out).c 0 rfl
    have p1 := (PB1.out.below BW4.out).c 1 rfl
    have p2 := (PB1.out.below BW4.out).c 2 rfl
    have p3 := (PB1.out.below BW4.out).c 3 rfl
    go_wp2_with fail
    clear p0 p1 p2 p3
    have B4s : gq + 1 ≤ W4.heap.size := QB4.out.1
    go_loopw [58] (fun iv wr => ∃ (k : Nat) (A' : Option Addr) (c' : Nat), k ≤ n ∧ iv = .int .i64 k ∧ Hid (Box wr gq [.int .i64 a, .int .i64 ((b + 1) % 256), .string (r.extract 24 r.size), .slice A' (tkTo l k).length c']) ∧ wr.ownsRow (gq + 1) 3 1 (.slice A' (tkTo l k).length c') (tkTo l k).length (Is (tkTo l k)) ∧ Hid (Box wr w1.heap.size [.int .i64 a, .int .i64 b, .int .i64 255, .string (r.extract 0 24)]) ∧ Hid (Below w1.heap.size w1 wr)) (fun iv _ => n - (intOf iv).toNat)
    case atStart => exact ⟨0, none, 0, Nat.zero_le _, rfl, QB4.out, World.ownsRow_nil _ _ _ _, FB4.out, BW4.out⟩
    case round =>
      clear QB4 FB4 BW4 B4s
      obtain ⟨k, A', c', hk, rfl, hqb, hown, hfb, hbw⟩ := hrel
      have hgs : gq + 1 ≤ wr.heap.size := hqb.out.1
      have HO := hide hown
      clear hown
      by_cases hlt : k < n
      · exact absurd hlt (by omega)
      · obtain rfl : k = n := by omega
        have rp := RP1.out.below hbw.out
        have rf := RF1.out.below hbw.out
        have r0 := rp.c 0 rfl
        have r1 := rp.c 1 rfl
        have r2 := rp.c 2 rfl
        have r3 := rp.c 3 rfl
        have q0 := rp.f 0 (by simp)
        have q1 := rp.f 1 (by simp)
        have q2 := rp.f 2 (by simp)
        have q3 := rp.f 3 (by simp)
        have f0 := rf.c 0 rfl
        have f1 := rf.c 1 rfl
        have f2 := rf.c 2 rfl
        have f3 := rf.c 3 rfl
        have z0 := rf.f 0 (by simp)
        have z1 := rf.f 1 (by simp)
        have z2 := rf.f 2 (by simp)
        have z3 := rf.f 3 (by simp)
        have u0 := hqb.out.c 0 rfl
        have u1 := hqb.out.c 1 rfl
        have u2 := hqb.out.c 2 rfl
        have u3 := hqb.out.c 3 rfl
        have e0 := hfb.out.c 0 rfl
        have e1 := hfb.out.c 1 rfl
        have e2 := hfb.out.c 2 rfl
        have e3 := hfb.out.c 3 rfl
        clear rp rf
        have hg1 : w.heap.size + 1 < w1.heap.size := RP1.out.1
        have hg2 : w.heap.size + 1 + 1 < w1.heap.size := RF1.out.1
        have n1 : ¬ gq = w.heap.size + 1 := by omega
        have n2 : ¬ gq = w.heap.size + 1 + 1 := by omega
        have n3 : ¬ w1.heap.size = w.heap.size + 1 := by omega
        have n4 : ¬ w1.heap.size = w.heap.size + 1 + 1 := by omega
        have n5 : ¬ w.heap.size + 1 = gq := by omega
        have n6 : ¬ w.heap.size + 1 + 1 = gq := by omega
        have n7 : ¬ w.heap.size + 1 = w1.heap.size := by omega
        have n8 : ¬ w.heap.size + 1 + 1 = w1.heap.size := by omega
        have HG := hide (And.intro hg1 (And.intro hg2 HB1.out.size))
        have HBW := hide (HB1.out.trans (hbw.out.mono HB1.out.size))
        have HGQ := hide hgq
        clear hg1 hg2 hgs hqb hfb hbw
        go_wp2_with fail
        go_region_held3 (fun w' => w'.cell? ⟨gq, 0, none⟩ = some (.int .i64 a) ∧ w'.cell? ⟨gq, 1, none⟩ = some (.int .i64 ((b + 1) % 256)) ∧ w'.cell? ⟨gq, 2, none⟩ = some (.string (r.extract 24 r.size)) ∧ w'.cell? ⟨gq, 3, none⟩ = some (.slice A' (tkTo l k).length c') ∧ w'.cell? ⟨w1.heap.size, 0, none⟩ = some (.int .i64 a) ∧ w'.cell? ⟨w1.heap.size, 1, none⟩ = some (.int .i64 b) ∧ w'.cell? ⟨w1.heap.size, 2, none⟩ = some (.int .i64 255) ∧ w'.cell? ⟨w1.heap.size, 3, none⟩ = some (.string (r.extract 0 24))) (go_keep) (fail)
        all_goals
          go_wp2_with fail
          refine bodyPost_ret (v := .tuple #[.agg #[.int .i64 a, .int .i64 ((b + 1) % 256), .string (r.extract 24 r.size), .slice A' (tkTo l k).length c'], .agg #[.int .i64 a, .int .i64 b, .int .i64 255, .string (r.extract 0 24)], .bool true]) (by simp [results, Try.results22, go_sem, r0, r1, r2, r3, f0, f1, f2, f3]) rfl ?_
          rw [← HT.out]
          refine made_take_yes HK.out ?_ ?_
          · obtain ⟨hg1, hg2, hg3⟩ := HG.out
            have hoo := HO.out
            rw [HL.out]
            refine own_mono ?_ (show w.heap.size ≤ gq + 1 by have := HGQ.out; omega)
            repeat (first | with_reducible exact hoo | with_reducible refine World.ownsRow.drew ?_ | with_reducible refine own_set ?_ (by have := HGQ.out; first | (show w.heap.size + 1 < gq + 1; omega) | (show w.heap.size + 1 + 1 < gq + 1; omega)) _)
          · have hbb := HBW.out
            repeat (first | with_reducible exact hbb | with_reducible refine Below.drew ?_ | with_reducible refine below_drewN ?_ _ | with_reducible refine Below.setCell ?_ (by first | exact Nat.le_refl _ | exact Nat.le_succ _ | (simp; done) | omega | (simp; omega)) _)
theorem i_TakeFrame (a b : Int) (r : ByteArray) (A : Option Addr) (n c : Nat) (l : List Int) (w : World) (h : RI w A n l) (hn : n ≤ 1048576) (hr : r.size ≤ 1099511627776) :
    Calls Try.prog 22 #[.agg #[.int .i64 a, .int .i64 b, .string r, .slice A n c]] w (MadeTake a b r l w) := by
  cases hk : tkOk a b r l with
  | true => exact i_TakeFrame_yes a b r A n c l w h hn hr hk
  | false => exact i_TakeFrame_no a b r A n c l w h hn hr hk
end Go.Proofs.Ytnelfadmcpacbaa
