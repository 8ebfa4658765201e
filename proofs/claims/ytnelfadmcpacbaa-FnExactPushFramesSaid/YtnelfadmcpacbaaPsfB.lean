/- What PushFrames returns: the unpacker behind, and the packets in memory of their own. -/
import Derived.Test.YtnelfadmcpacbaaPsfA
import Derived.Test.YtnelfadmcpacbaaPckC
import Derived.Deep.DeepCutAuto
import Derived.Deep.CutRange
namespace Go.Proofs.Ytnelfadmcpacbaa
open Go.RowKit Sat
set_option linter.unusedVariables false
set_option linter.unusedSimpArgs false
attribute [local go_sem ↓] Go.wp_at_zero Go.wp_at_succ

theorem Pks_append (l1 l2 : List Pk3) : Pks l1 ++ Pks l2 = Pks (l1 ++ l2) := by simp [Pks]
theorem one_pks (l : List Pk3) : ∀ u ∈ Pks l, u.oneCell' = true := by
  intro u hu
  simp only [Pks, List.mem_flatMap, List.mem_cons, List.not_mem_nil, or_false] at hu
  obtain ⟨p, _, rfl | rfl | rfl⟩ := hu <;> rfl
/-- append(v, x...), x a row of packets in memory of its own -/
theorem wpList_appP {ops : Array Oper} {rest : List Oper} {o : Oper} {a : Act} {Q : Exit → Act → World → Prop} {wr : World} (hgd : o.guard = none) (s x : Operand) (ho : o.op = .call { callee := .builtin .append, args := #[s, x], argTypes := #[56, 56] })
    (B B2 : Nat) (v : Value) (A2 : Option Addr) (c2 : Nat) (l1 l2 : List Pk3) (hs : a.eval s = v) (hown : wr.ownsRow B 36 3 v l1.length (Pks l1)) (hx : a.eval x = .slice A2 l2.length c2) (hox : wr.ownsRow B2 36 3 (.slice A2 l2.length c2) l2.length (Pks l2))
    (hle : l1.length + l2.length ≤ 1000000000) (hB : B ≤ wr.heap.size)
    (h : ∀ A' c' w', w'.ownsRow B 36 3 (.slice A' (l1 ++ l2).length c') (l1 ++ l2).length (Pks (l1 ++ l2)) → Below B wr w' → wpList Try.prog ops Q rest (a.put o.dst (.slice A' (l1 ++ l2).length c')) w') : wpList Try.prog ops Q (o :: rest) a wr := by
  obtain ⟨i0, hi, hz0, hz1, hz2⟩ := info_parts infoP
  cases A2 with
  | none =>
    have hn0 : l2.length = 0 := by
      rcases Nat.eq_zero_or_pos l2.length with h0 | h0
      · exact h0
      · obtain ⟨g, e, _⟩ := own_cells hox h0; cases e
    have hl : l2 = [] := List.eq_nil_of_length_eq_zero hn0
    subst hl
    have := own_nilc hox rfl
    subst this
    obtain ⟨A1, c1, rfl⟩ := own_form hown
    refine wpList_append_own_none hgd s x 56 ho B 36 i0 3 Try.underlying56 hi _ _ _ hs hown hx ?_
    have := h A1 c1 wr (by simpa using hown) (Below.refl _ _)
    simpa using this
  | some ad =>
    refine wpList_append_own _ hgd s x 56 ho B 36 i0 (.agg #[.int .i64 0, .int .i64 0, .string ⟨#[]⟩]) 3 32 Try.underlying56 hi hz0 hz1 hz2 rfl (by decide) v l1.length (Pks l1) hs hown ad l2.length c2 (Pks l2) hx (Pks_length l2) ?_ (one_pks l2) (by unfold maxLen; omega) (by omega) hB ?_
    · intro j u hj
      have hlt : j < (Pks l2).length := (List.getElem?_eq_some_iff.1 hj).1
      rw [Pks_length] at hlt
      obtain ⟨g, e, hc, _⟩ := own_cells hox (by omega)
      obtain rfl := Option.some.inj e
      have e' : (⟨g, 0, none⟩ : Addr).add j = ⟨g, j, none⟩ := by unfold Addr.add; split <;> simp_all
      rw [e', hc j hlt, hj]
    · intro v' w' hown' hg _
      rw [Pks_append, ← List.length_append] at hown'
      obtain ⟨A', c', rfl⟩ := own_form hown'
      refine h A' c' w' hown' ?_
      refine Below.grown (Below.refl B wr) hg hB ?_
      intro k hk
      exact (hown.lt k hk).1
theorem RF.at {w : World} {A : Option Addr} {m : Nat} {l : List Fr4} (h : RF w A m l) {k : Nat} (hk : k < m) : ∃ g, A = some ⟨g, 0, none⟩ ∧ w.cell? ⟨g, k * 4, none⟩ = some (.int .i64 (l.getD k (0, 0, 0, ⟨#[]⟩)).1) ∧ w.cell? ⟨g, k * 4 + 1, none⟩ = some (.int .i64 (l.getD k (0, 0, 0, ⟨#[]⟩)).2.1) ∧ w.cell? ⟨g, k * 4 + 2, none⟩ = some (.int .i64 (l.getD k (0, 0, 0, ⟨#[]⟩)).2.2.1) ∧ w.cell? ⟨g, k * 4 + 3, none⟩ = some (.string (l.getD k (0, 0, 0, ⟨#[]⟩)).2.2.2) := by
  obtain ⟨g, e, _, hc⟩ := h.2 (by omega)
  obtain ⟨p0, p1, p2, p3⟩ := Frs_at l k (by rw [h.1]; exact hk)
  exact ⟨g, e, (hc _ (by omega)).trans p0, (hc _ (by omega)).trans p1, (hc _ (by omega)).trans p2, (hc _ (by omega)).trans p3⟩
theorem getD_size {l : List Fr4} (hd : ∀ (j : Nat) (x : Fr4), l[j]? = some x → x.2.2.2.size ≤ 1048576) (k : Nat) : (l.getD k (0, 0, 0, ⟨#[]⟩)).2.2.2.size ≤ 1048576 := by
  rw [List.getD_eq_getElem?_getD]
  cases e : l[k]? with
  | none => exact Nat.zero_le _
  | some x => exact hd k x e
def Fin (w2 : World) (c n' : Int) (y' : Bool) (r' : ByteArray) (o' : Int) (pk : List Pk3) (p q : Value) (wx : World) : Prop := ∃ (g : Nat) (A5 : Option Addr) (c5 : Nat), p = .pointer (some ⟨g, 0, none⟩) ∧ q = .slice A5 pk.length c5 ∧ Hid (Box wx g [.int .i64 c, .int .i64 n', .bool y', .string r', .int .i64 o']) ∧ Hid (wx.ownsRow w2.heap.size 36 3 (.slice A5 pk.length c5) pk.length (Pks pk)) ∧ Hid (Below w2.heap.size w2 wx) ∧ w2.heap.size ≤ g ∧ Hid ((Value.slice A5 pk.length c5).ownBlock ≠ some g)
theorem zp_new {w w' : World} {o0 o1 o2 o3 o4 : Value} {t : TypeId} (hb : Below (w.alloc (.cells #[o0, o1, o2, o3, o4] t)).heap.size (w.alloc (.cells #[o0, o1, o2, o3, o4] t)) w') : Box w' w.heap.size [o0, o1, o2, o3, o4] ∧ w.heap.size < (w.alloc (.cells #[o0, o1, o2, o3, o4] t)).heap.size := ⟨Box.below (Box.new w #[o0, o1, o2, o3, o4] t) hb, by simp⟩
theorem zp_newd {w w' : World} {o0 o1 o2 o3 o4 : Value} {t : TypeId} (hb : Below (w.alloc (.cells #[o0, o1, o2, o3, o4] t)).drew.heap.size (w.alloc (.cells #[o0, o1, o2, o3, o4] t)).drew w') : Box w' w.heap.size [o0, o1, o2, o3, o4] ∧ w.heap.size < (w.alloc (.cells #[o0, o1, o2, o3, o4] t)).drew.heap.size := zp_new (below_undrew (w := w.alloc (.cells #[o0, o1, o2, o3, o4] t)) hb)
theorem zp_old {w w' : World} {g : Nat} {vs : List Value} (zb : Box w g vs) (hb : Below w.heap.size w w') : Box w' g vs ∧ g < w.heap.size := ⟨zb.below hb, zb.1⟩
theorem zp_oldd {w w' : World} {g : Nat} {vs : List Value} (zb : Box w g vs) (hb : Below w.drew.heap.size w.drew w') : Box w' g vs ∧ g < w.drew.heap.size := zp_old (w := w) zb (below_undrew (w := w) hb)
theorem zne_of {w : World} {B e size g : Nat} {v : Value} {n : Nat} {xs : List Value} (h : w.ownsRow B e size v n xs) (hg : g < B) : v.ownBlock ≠ some g := fun e => by have := (h.lt _ e).1; omega
theorem size_of {w Y : World} (h : Below w.heap.size w Y) : w.heap.size ≤ Y.heap.size := h.size
theorem fin_new {w2 w5 : World} {c n' : Int} {y' : Bool} {r' : ByteArray} {o' : Int} {pk : List Pk3} {A5 : Option Addr} {c5 : Nat} (ho : w5.ownsRow w2.heap.size 36 3 (.slice A5 pk.length c5) pk.length (Pks pk)) (hb : Below w2.heap.size w2 w5) :
    Fin w2 c n' y' r' o' pk (.pointer (some ⟨w5.heap.size, 0, none⟩)) (.slice A5 pk.length c5) (w5.alloc (.cells #[.int .i64 c, .int .i64 n', .bool y', .string r', .int .i64 o'] 55)) := by
  obtain ⟨hA, b1⟩ := entry1 w5 #[.int .i64 c, .int .i64 n', .bool y', .string r', .int .i64 o'] 55
  exact ⟨_, A5, c5, rfl, rfl, b1, own_below ho hA, hb.trans (hA.mono hb.size), hb.size, fun e => by have := (ho.lt _ e).2; omega⟩
theorem fin_set {w2 w5 : World} {c n' : Int} {y' : Bool} {r' : ByteArray} {o' : Int} {pk : List Pk3} {A5 : Option Addr} {c5 g : Nat} {z0 z1 z2 z3 z4 : Value} (hz : Box w5 g [z0, z1, z2, z3, z4]) (hne : (Value.slice A5 pk.length c5).ownBlock ≠ some g) (ho : w5.ownsRow w2.heap.size 36 3 (.slice A5 pk.length c5) pk.length (Pks pk)) (hb : Below w2.heap.size w2 w5) (hg : w2.heap.size ≤ g) :
    Fin w2 c n' y' r' o' pk (.pointer (some ⟨g, 0, none⟩)) (.slice A5 pk.length c5) (((((w5.setCell ⟨g, 0, none⟩ (.int .i64 c)).setCell ⟨g, 1, none⟩ (.int .i64 n')).setCell ⟨g, 2, none⟩ (.bool y')).setCell ⟨g, 3, none⟩ (.string r')).setCell ⟨g, 4, none⟩ (.int .i64 o')) := by
  refine ⟨g, A5, c5, rfl, rfl, ?_, ?_, ?_, hg, hne⟩
  · exact ((((hz.setC 0 (by simp) _).setC 1 (by simp) _).setC 2 (by simp) _).setC 3 (by simp) _).setC 4 (by simp) _
  · exact own_set2 (own_set2 (own_set2 (own_set2 (own_set2 ho (p := ⟨g, 0, none⟩) hne _) (p := ⟨g, 1, none⟩) hne _) (p := ⟨g, 2, none⟩) hne _) (p := ⟨g, 3, none⟩) hne _) (p := ⟨g, 4, none⟩) hne _
  · exact ((((hb.setCell (p := ⟨g, 0, none⟩) hg _).setCell (p := ⟨g, 1, none⟩) hg _).setCell (p := ⟨g, 2, none⟩) hg _).setCell (p := ⟨g, 3, none⟩) hg _).setCell (p := ⟨g, 4, none⟩) hg _
theorem keep5x {w w' : World} {g h j : Nat} {a0 a1 a2 a3 a4 b0 b1 b2 b3 : Value} (x : Box w g [a0, a1, a2, a3, a4]) (y0 : w.cell? ⟨h, j, none⟩ = some b0) (y1 : w.cell? ⟨h, j + 1, none⟩ = some b1) (y2 : w.cell? ⟨h, j + 2, none⟩ = some b2) (y3 : w.cell? ⟨h, j + 3, none⟩ = some b3) (hh : h < w.heap.size) (hb : Below w.heap.size w w') :
    w'.cell? ⟨g, 0, none⟩ = some a0 ∧ w'.cell? ⟨g, 1, none⟩ = some a1 ∧ w'.cell? ⟨g, 2, none⟩ = some a2 ∧ w'.cell? ⟨g, 3, none⟩ = some a3 ∧ w'.cell? ⟨g, 4, none⟩ = some a4 ∧ w'.cell? ⟨h, j, none⟩ = some b0 ∧ w'.cell? ⟨h, j + 1, none⟩ = some b1 ∧ w'.cell? ⟨h, j + 2, none⟩ = some b2 ∧ w'.cell? ⟨h, j + 3, none⟩ = some b3 :=
  ⟨(x.below hb).c 0 rfl, (x.below hb).c 1 rfl, (x.below hb).c 2 rfl, (x.below hb).c 3 rfl, (x.below hb).c 4 rfl, (hb.cell (p := ⟨h, j, none⟩) hh).trans y0, (hb.cell (p := ⟨h, j + 1, none⟩) hh).trans y1, (hb.cell (p := ⟨h, j + 2, none⟩) hh).trans y2, (hb.cell (p := ⟨h, j + 3, none⟩) hh).trans y3⟩
theorem Box.set5 {w : World} {g : Nat} {a0 a1 a2 a3 a4 : Value} (h : Box w g [a0, a1, a2, a3, a4]) (b0 b1 b2 b3 b4 : Value) : Box (((((w.setCell ⟨g, 0, none⟩ b0).setCell ⟨g, 1, none⟩ b1).setCell ⟨g, 2, none⟩ b2).setCell ⟨g, 3, none⟩ b3).setCell ⟨g, 4, none⟩ b4) g [b0, b1, b2, b3, b4] :=
  ((((h.setC 0 (by simp) b0).setC 1 (by simp) b1).setC 2 (by simp) b2).setC 3 (by simp) b3).setC 4 (by simp) b4
theorem Box.oth5 {w : World} {g h : Nat} {vs : List Value} (x : Box w g vs) (hne : h ≠ g) (b0 b1 b2 b3 b4 : Value) : Box (((((w.setCell ⟨h, 0, none⟩ b0).setCell ⟨h, 1, none⟩ b1).setCell ⟨h, 2, none⟩ b2).setCell ⟨h, 3, none⟩ b3).setCell ⟨h, 4, none⟩ b4) g vs :=
  ((((x.other ⟨h, 0, none⟩ hne b0).other ⟨h, 1, none⟩ hne b1).other ⟨h, 2, none⟩ hne b2).other ⟨h, 3, none⟩ hne b3).other ⟨h, 4, none⟩ hne b4
theorem own_oth5 {w : World} {B e size h : Nat} {v : Value} {n : Nat} {xs : List Value} (x : w.ownsRow B e size v n xs) (hne : v.ownBlock ≠ some h) (b0 b1 b2 b3 b4 : Value) : (((((w.setCell ⟨h, 0, none⟩ b0).setCell ⟨h, 1, none⟩ b1).setCell ⟨h, 2, none⟩ b2).setCell ⟨h, 3, none⟩ b3).setCell ⟨h, 4, none⟩ b4).ownsRow B e size v n xs :=
  own_set2 (own_oth4 x hne b0 b1 b2 b3) (p := ⟨h, 4, none⟩) hne b4
theorem below_set5 {a w : World} {M h : Nat} (x : Below M a w) (hm : M ≤ h) (b0 b1 b2 b3 b4 : Value) : Below M a (((((w.setCell ⟨h, 0, none⟩ b0).setCell ⟨h, 1, none⟩ b1).setCell ⟨h, 2, none⟩ b2).setCell ⟨h, 3, none⟩ b3).setCell ⟨h, 4, none⟩ b4) :=
  (below_set4 x hm b0 b1 b2 b3).setCell (p := ⟨h, 4, none⟩) hm b4
set_option maxRecDepth 100000 in
set_option maxHeartbeats 20000000 in
theorem s_PushFrames (c n : Int) (y : Bool) (r : ByteArray) (o : Int) (A : Option Addr) (m cp : Nat) (l : List Fr4) (nF : Int) (yF : Bool) (rF : ByteArray) (oF : Int) (pF : List Pk3) (w : World) (h : RF w A m l) (hm : m ≤ 1048576) (hr : r.size ≤ 1048576) (hd : ∀ (j : Nat) (x : Fr4), l[j]? = some x → x.2.2.2.size ≤ 1048576) (hF : pfS c (n, y, r, o) l m = ((nF, yF, rF, oF), pF)) :
    Calls Try.prog 40 #[.agg #[.int .i64 c, .int .i64 n, .bool y, .string r, .int .i64 o], .slice A m cp] w (MadePushes c nF yF rF oF pF w) := by
  have HFIN := hide hF
  have HD := hide hd
  have H := hide h
  clear h hF hd
  go_enter Try.func40, Try.ntmps40
  go_wp2_with fail
  obtain ⟨hbW, ub, rp⟩ := entry2 w #[.int .i64 c, .int .i64 n, .bool y, .string r, .int .i64 o] #[.int .i64 0, .int .i64 0, .bool false, .string ⟨#[]⟩, .int .i64 0] 55 55
  have hWz : ((w.alloc (.cells #[.int .i64 c, .int .i64 n, .bool y, .string r, .int .i64 o] 55)).alloc (.cells #[.int .i64 0, .int .i64 0, .bool false, .string ⟨#[]⟩, .int .i64 0] 55)).heap.size = w.heap.size + 1 + 1 := by simp
  generalize ((w.alloc (.cells #[.int .i64 c, .int .i64 n, .bool y, .string r, .int .i64 o] 55)).alloc (.cells #[.int .i64 0, .int .i64 0, .bool false, .string ⟨#[]⟩, .int .i64 0] 55)) = W at *
  have HB := hide hbW
  have UB : Hid (Box W w.heap.size [.int .i64 c, .int .i64 n, .bool y, .string r, .int .i64 o]) := ub
  have RP : Hid (Box W (w.heap.size + 1) [.int .i64 0, .int .i64 0, .bool false, .string ⟨#[]⟩, .int .i64 0]) := rp
  clear hbW ub rp
  have OL := hide (own_lit W 36 3)
  have hA : Below W.heap.size W (W.alloc (.cells #[] 36)) := (Below.refl _ _).alloc (Nat.le_refl _) _
  have hgs : W.heap.size ≤ (W.alloc (.cells #[] 36)).heap.size := hA.size
  replace HB := hide (HB.out.trans (hA.mono HB.out.size))
  replace UB := hide (UB.out.below hA)
  replace RP := hide (RP.out.below hA)
  clear hA
  generalize (W.alloc (.cells #[] 36)) = Wl at *
  rw [hWz] at OL hgs
  clear hWz
  go_loopg [6, 7] m (fun gk lv kv wr => ∃ (k : Nat) (n0 : Int) (y0 : Bool) (r0 : ByteArray) (o0 : Int) (acc : List Pk3) (Al : Option Addr) (cl : Nat), gk = m - k ∧ k ≤ m ∧ kv = .int .i64 k ∧ Hid (pfS c (n, y, r, o) l k = ((n0, y0, r0, o0), acc)) ∧ r0.size ≤ 1048576 ∧ acc.length ≤ 100 * k ∧ lv = .slice Al acc.length cl ∧ Hid (Box wr w.heap.size [.int .i64 c, .int .i64 n0, .bool y0, .string r0, .int .i64 o0]) ∧ Hid (Box wr (w.heap.size + 1) [.int .i64 0, .int .i64 0, .bool false, .string ⟨#[]⟩, .int .i64 0]) ∧ Hid (wr.ownsRow (w.heap.size + 1 + 1) 36 3 (.slice Al acc.length cl) acc.length (Pks acc)) ∧ Hid (Below w.heap.size w wr) ∧ w.heap.size + 1 + 1 ≤ wr.heap.size)
  case atStart => exact ⟨0, n, y, r, o, [], some ⟨w.heap.size + 1 + 1, 0, none⟩, 0, rfl, Nat.zero_le _, rfl, rfl, hr, Nat.zero_le _, rfl, UB, RP, OL, HB, hgs⟩
  case round =>
    clear UB RP OL HB hgs
    obtain ⟨k, n0, y0, r0, o0, acc, Al, cl, rfl, hk, rfl, HRUN, hr0, hacc, rfl, UB, RP, OL, HB, hgs⟩ := hrel
    have hgw : Hid (w.heap.size ≤ w.heap.size + 1 + 1) := (by omega : w.heap.size ≤ w.heap.size + 1 + 1)
    by_cases hlt : k < m
    · obtain ⟨g, rfl, x0, x1, x2, x3⟩ := (H.out.below HB.out).at hlt
      have hgl : Hid (g < w.heap.size) := by obtain ⟨g', e, hl', _⟩ := H.out.2 (by omega); injection e with e; injection e with e; subst e; exact hl'
      have hgr : Hid (g < wr.heap.size) := Nat.lt_of_lt_of_le hgl.out HB.out.size
      have hdz := getD_size HD.out k
      obtain ⟨⟨fk, fm, ft, fd⟩, hfe⟩ : ∃ x, l.getD k (0, 0, 0, ⟨#[]⟩) = x := ⟨_, rfl⟩
      have HFE := hide hfe
      rw [hfe] at x0 x1 x2 x3 hdz
      clear hfe
      dsimp only at x0 x1 x2 x3 hdz
      obtain ⟨n1, o1, y1, r1, pk, hU, hP, hpl⟩ := ps_forms c n0 y0 r0 o0 fk fm ft fd
      have hr1 := psU_size hU hr0
      have HT := hide (And.intro hU hP)
      have HR2 := hide (pfS_succ HRUN.out HFE.out hU hP)
      clear hU hP
      have u0 := UB.out.c 0 rfl
      have u1 := UB.out.c 1 rfl
      have u2 := UB.out.c 2 rfl
      have u3 := UB.out.c 3 rfl
      have u4 := UB.out.c 4 rfl
      go_upto_region 5 with fail
      go_cut [8, 9] from 11 to 29 (fun q1 q2 wx => Fin wr c n1 y1 r1 o1 pk q1 q2 wx)
      case first =>
        go_region_held3 (fun w' => w'.cell? ⟨w.heap.size, 0, none⟩ = some (.int .i64 c) ∧ w'.cell? ⟨w.heap.size, 1, none⟩ = some (.int .i64 n0) ∧ w'.cell? ⟨w.heap.size, 2, none⟩ = some (.bool y0) ∧ w'.cell? ⟨w.heap.size, 3, none⟩ = some (.string r0) ∧ w'.cell? ⟨w.heap.size, 4, none⟩ = some (.int .i64 o0) ∧ w'.cell? ⟨g, k * 4, none⟩ = some (.int .i64 fk) ∧ w'.cell? ⟨g, k * 4 + 1, none⟩ = some (.int .i64 fm) ∧ w'.cell? ⟨g, k * 4 + 2, none⟩ = some (.int .i64 ft) ∧ w'.cell? ⟨g, k * 4 + 3, none⟩ = some (.string fd)) (exact keep5x UB.out x0 x1 x2 x3 hgr.out (by repeat (first | with_reducible exact hb5 | exact Below.refl _ _ | with_reducible refine Below.drew ?_ | with_reducible refine Below.alloc ?_ (by first | exact Nat.le_refl _ | omega | (simp; done) | (simp; omega)) _ | with_reducible refine Below.setCell ?_ (by first | omega | (simp; done) | (simp; omega)) _))) (first | (go_at_call 31; refine (s_Push_is _ _ _ _ _ _ _ _ _ _ _ _ _ _ _ hr0 hdz HT.out.1 HT.out.2).mono ?_; rintro e w5 ⟨v5, rfl, ho5, hbr⟩; obtain ⟨A5, c5, rfl⟩ := own_form ho5; have hb5 : Below wr.heap.size wr w5 := below_trans (by repeat (first | exact Below.refl _ _ | with_reducible refine Below.drew ?_ | with_reducible refine Below.alloc ?_ (by first | exact Nat.le_refl _ | omega | (simp; done) | (simp; omega)) _ | with_reducible refine Below.setCell ?_ (by first | omega | (simp; done) | (simp; omega)) _)) hbr; have hs5 := hb5.size; (first | (have zp := zp_new hbr) | (have zp := zp_newd hbr) | (have zp := zp_old zb.out hbr) | (have zp := zp_oldd zb.out hbr) | skip); (first | (replace zb := hide zp.1) | (have zb := hide zp.1) | skip); (first | (have D5 := hide (zne_of ho5 zp.2)) | skip); (first | (have z0 := zb.out.c 0 rfl; have z1 := zb.out.c 1 rfl; have z2 := zb.out.c 2 rfl; have z3 := zb.out.c 3 rfl; have z4 := zb.out.c 4 rfl; have zf0 := zb.out.f 0 (by simp); have zf1 := zb.out.f 1 (by simp); have zf2 := zb.out.f 2 (by simp); have zf3 := zb.out.f 3 (by simp); have zf4 := zb.out.f 4 (by simp)) | skip); replace ho5 := hide (own_mono ho5 (size_of (w := wr) (by repeat (first | with_reducible exact hb5 | exact Below.refl _ _ | with_reducible refine Below.drew ?_ | with_reducible refine Below.alloc ?_ (by first | exact Nat.le_refl _ | omega | (simp; done) | (simp; omega)) _ | with_reducible refine Below.setCell ?_ (by first | omega | (simp; done) | (simp; omega)) _)))); clear hbr))
        all_goals (go_wp2_with fail; go_meet; first | with_reducible exact fin_new ho5.out hb5 | with_reducible exact fin_set zb.out D5.out ho5.out hb5 (by omega))
      case rest =>
        obtain ⟨gx, A3, c3, hp, hq, XB, O3, HB2, hge, HNE⟩ := hcut
        subst hp
        subst hq
        generalize wc = W2 at *
        have hb := HB2.out
        clear HB2 HT HFE u0 u1 u2 u3 u4 x0 x1 x2 x3
        have hxl : gx < W2.heap.size := XB.out.1
        have OL1 := hide (own_below OL.out hb)
        have hwl : w.heap.size + 1 < wr.heap.size := hgs
        have O3l : Hid (∀ k, (Value.slice A3 pk.length c3).ownBlock = some k → wr.heap.size ≤ k) := fun k e => (O3.out.lt _ e).1
        have OLl : Hid (∀ k, (Value.slice Al acc.length cl).ownBlock = some k → w.heap.size + 1 + 1 ≤ k) := fun k e => (OL.out.lt _ e).1
        have hzW : wr.heap.size ≤ W2.heap.size := hb.size
        replace HB := hide (HB.out.trans (hb.mono HB.out.size))
        replace UB := hide (UB.out.below hb)
        replace RP := hide (RP.out.below hb)
        clear hb OL
        generalize hzr : wr.heap.size = zr at *
        have u0 := UB.out.c 0 rfl
        have u1 := UB.out.c 1 rfl
        have u2 := UB.out.c 2 rfl
        have u3 := UB.out.c 3 rfl
        have u4 := UB.out.c 4 rfl
        have uf0 := UB.out.f 0 (by simp)
        have uf1 := UB.out.f 1 (by simp)
        have uf2 := UB.out.f 2 (by simp)
        have uf3 := UB.out.f 3 (by simp)
        have uf4 := UB.out.f 4 (by simp)
        have x0 := XB.out.c 0 rfl
        have x1 := XB.out.c 1 rfl
        have x2 := XB.out.c 2 rfl
        have x3 := XB.out.c 3 rfl
        have x4 := XB.out.c 4 rfl
        have n1_ : ¬ w.heap.size = gx := by omega
        have n2_ : ¬ gx = w.heap.size := by omega
        go_upto_region 7 with fail
        replace RP := hide (RP.out.oth5 (show w.heap.size ≠ w.heap.size + 1 by omega) (.int .i64 c) (.int .i64 n1) (.bool y1) (.string r1) (.int .i64 o1))
        replace UB := hide (UB.out.set5 (.int .i64 c) (.int .i64 n1) (.bool y1) (.string r1) (.int .i64 o1))
        replace O3 := hide (own_oth5 O3.out (show (Value.slice A3 pk.length c3).ownBlock ≠ some w.heap.size from fun e => absurd (O3l.out _ e) (by omega)) (.int .i64 c) (.int .i64 n1) (.bool y1) (.string r1) (.int .i64 o1))
        replace OL1 := hide (own_oth5 OL1.out (show (Value.slice Al acc.length cl).ownBlock ≠ some w.heap.size from fun e => absurd (OLl.out _ e) (by omega)) (.int .i64 c) (.int .i64 n1) (.bool y1) (.string r1) (.int .i64 o1))
        replace HB := hide (below_set5 HB.out (Nat.le_refl _) (.int .i64 c) (.int .i64 n1) (.bool y1) (.string r1) (.int .i64 o1))
        replace hgs : w.heap.size + 1 + 1 ≤ (((((W2.setCell ⟨w.heap.size, 0, none⟩ (.int .i64 c)).setCell ⟨w.heap.size, 1, none⟩ (.int .i64 n1)).setCell ⟨w.heap.size, 2, none⟩ (.bool y1)).setCell ⟨w.heap.size, 3, none⟩ (.string r1)).setCell ⟨w.heap.size, 4, none⟩ (.int .i64 o1)).heap.size := by simp [World.setCell]; omega
        clear u0 u1 u2 u3 u4 uf0 uf1 uf2 uf3 uf4 x0 x1 x2 x3 x4 XB
        generalize (((((W2.setCell ⟨w.heap.size, 0, none⟩ (.int .i64 c)).setCell ⟨w.heap.size, 1, none⟩ (.int .i64 n1)).setCell ⟨w.heap.size, 2, none⟩ (.bool y1)).setCell ⟨w.heap.size, 3, none⟩ (.string r1)).setCell ⟨w.heap.size, 4, none⟩ (.int .i64 o1)) = W3 at *
        go_wp2_with (at_builtin; go_loud (refine wpList_appP rfl _ _ rfl (w.heap.size + 1 + 1) _ _ A3 c3 acc pk rfl OL1.out rfl O3.out (by omega) hgs ?_; intro A4 c4 w4 ho4 hb4; have hz4 := hb4.size; replace OL1 := hide ho4; replace UB := hide (UB.out.belowM (show w.heap.size < w.heap.size + 1 + 1 by omega) hb4); replace RP := hide (RP.out.belowM (show w.heap.size + 1 < w.heap.size + 1 + 1 by omega) hb4); replace HB := hide (HB.out.trans (hb4.mono hgw.out)); replace hgs := Nat.le_trans hgs hz4; clear ho4 hb4 hz4 O3))
        go_roundg (m - (k + 1))
        case measure => omega
        case rel => exact ⟨k + 1, n1, y1, r1, o1, acc ++ pk, A4, c4, rfl, by omega, by go_num, HR2, hr1, (by rw [List.length_append]; omega), (by first | rfl | simp), UB, RP, OL1, HB, hgs⟩
    · obtain rfl : k = m := by omega
      have hfe := HRUN.out.symm.trans HFIN.out
      injection hfe with e1 e2
      injection e1 with e0 e1
      injection e1 with e3 e1
      injection e1 with e4 e5
      subst e0
      subst e2
      subst e3
      subst e4
      subst e5
      clear HRUN HFIN
      have u0 := UB.out.c 0 rfl
      have u1 := UB.out.c 1 rfl
      have u2 := UB.out.c 2 rfl
      have u3 := UB.out.c 3 rfl
      have u4 := UB.out.c 4 rfl
      have r0_ := RP.out.c 0 rfl
      have r1_ := RP.out.c 1 rfl
      have r2_ := RP.out.c 2 rfl
      have r3_ := RP.out.c 3 rfl
      have r4_ := RP.out.c 4 rfl
      have rf0 := RP.out.f 0 (by simp)
      have rf1 := RP.out.f 1 (by simp)
      have rf2 := RP.out.f 2 (by simp)
      have rf3 := RP.out.f 3 (by simp)
      have rf4 := RP.out.f 4 (by simp)
      go_wp2_with fail
      refine bodyPost_ret (v := .tuple #[.agg #[.int .i64 c, .int .i64 n0, .bool y0, .string r0, .int .i64 o0], .slice Al acc.length cl]) (by simp [results, Try.results40, go_sem, r0_, r1_, r2_, r3_, r4_]) rfl ⟨_, rfl, ?_, ?_⟩
      · have hoo := OL.out
        refine own_mono ?_ hgw.out
        repeat (first | with_reducible exact hoo | with_reducible refine World.ownsRow.drew ?_ | with_reducible refine own_set ?_ (by show w.heap.size + 1 < w.heap.size + 1 + 1; omega) _)
      · have hbb := HB.out
        repeat (first | with_reducible exact hbb | with_reducible refine Below.drew ?_ | with_reducible refine below_drewN ?_ _ | with_reducible refine Below.setCell ?_ (by first | exact Nat.le_refl _ | exact Nat.le_succ _ | (simp; done) | omega | (simp; omega)) _)
end Go.Proofs.Ytnelfadmcpacbaa
