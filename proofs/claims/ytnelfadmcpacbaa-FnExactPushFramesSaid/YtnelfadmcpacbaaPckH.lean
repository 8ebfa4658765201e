/- What PackPacket returns in the reference: as in the program. -/
import Derived.Test.YtnelfadmcpacbaaPckG
namespace Go.Proofs.Ytnelfadmcpacbaa
open Go.RowKit Sat
set_option linter.unusedVariables false
set_option linter.unusedSimpArgs false
attribute [local go_sem ↓] Go.wp_at_zero Go.wp_at_succ

theorem lies_ne2 {v v' : Value} {g N : Nat} (h : v.ownBlock ≠ some g) (hl : LiesAt v v' N) (hg : g ≤ N) : v'.ownBlock ≠ some g := by
  rcases hl with e | ⟨k, e, hk⟩
  · rw [e]; exact h
  · rw [e]; intro e'; injection e' with e'; omega
def Packed (a b : Int) (r' : ByteArray) (l' : List Int) (ok : Bool) (w : World) (e : Ending) (w' : World) : Prop := ∃ v, e = .returned (.tuple #[.agg #[.int .i64 a, .int .i64 b, .string r', v], .bool ok]) ∧ w'.ownsRow w.heap.size 3 1 v l'.length (Is l') ∧ Below w.heap.size w w'
theorem packed_of {a b : Int} {r : ByteArray} {l : List Int} {x y : Int} {d r' : ByteArray} {l' : List Int} {ok : Bool} {w w' : World} {e : Ending} (h : MadePack a b r l x y d w e w') (hP : ppP a b r l x y d = (r', l')) (hk : ppOk a b r l x y d = ok) : Packed a b r' l' ok w e w' := by
  obtain ⟨v, h1, h2, h3⟩ := h
  rw [hP, hk] at h1
  rw [hP] at h2
  exact ⟨v, h1, h2, h3⟩
theorem ppP_len (a b : Int) (r : ByteArray) (l : List Int) (x y : Int) (d : ByteArray) (hl : l.length ≤ 1048576) : (ppP a b r l x y d).2.length ≤ 1048576 := by
  unfold ppP
  split
  · rename_i h
    unfold ppOk at h
    rw [Bool.and_eq_true, Bool.and_eq_true] at h
    have := (pk_len h.1.1).1
    show (ppL r l).length ≤ _
    unfold ppL
    rw [List.length_append, List.length_singleton]; omega
  · exact hl
set_option maxHeartbeats 3200000 in
theorem s_PackPacket_no (a b : Int) (r : ByteArray) (A : Option Addr) (n c : Nat) (l : List Int) (x y : Int) (d : ByteArray) (w : World) (h : RI w A n l) (hc : A = none → c = 0) (hn : n ≤ 1048576) (hr : r.size ≤ 1048576) (hd : d.size ≤ 1048576) (hq : (pkOk a b r l && pktOk x y d) = false) (hk : ppOk a b r l x y d = false) :
    Calls Try.prog 16 #[.agg #[.int .i64 a, .int .i64 b, .string r, .slice A n c], .agg #[.int .i64 x, .int .i64 y, .string d]] w (MadePack a b r l x y d w) := by
  have H := hide h
  have HL := hide h.1
  clear h
  have HK := hide hk
  obtain ⟨ok, hok⟩ : ∃ ok, pkOk a b r l = ok := ⟨_, rfl⟩
  obtain ⟨xk, hxk⟩ : ∃ xk, pktOk x y d = xk := ⟨_, rfl⟩
  have HP := hide hok
  have HX := hide hxk
  have hno : ok = true → xk = false := by intro e; rw [e] at hok; rw [hok, hxk] at hq; simpa using hq
  have HN := hide hno
  clear hk hok hxk hq hno
  go_enter Try.func16, Try.ntmps16
  go_wp2_with fail
  obtain ⟨hbW, pb, xb, rp⟩ := entry3 w #[.int .i64 a, .int .i64 b, .string r, .slice A n c] #[.int .i64 x, .int .i64 y, .string d] #[.int .i64 0, .int .i64 0, .string ⟨#[]⟩, .slice none 0 0] 27 36 27
  generalize (((w.alloc (.cells #[.int .i64 a, .int .i64 b, .string r, .slice A n c] 27)).alloc (.cells #[.int .i64 x, .int .i64 y, .string d] 36)).alloc (.cells #[.int .i64 0, .int .i64 0, .string ⟨#[]⟩, .slice none 0 0] 27)) = W at *
  have HB := hide hbW
  have PB : Hid (Box W w.heap.size [.int .i64 a, .int .i64 b, .string r, .slice A n c]) := pb
  have XB : Hid (Box W (w.heap.size + 1) [.int .i64 x, .int .i64 y, .string d]) := xb
  have RP : Hid (Box W (w.heap.size + 1 + 1) [.int .i64 0, .int .i64 0, .string ⟨#[]⟩, .slice none 0 0]) := rp
  have HG := hide (And.intro rp.1 hbW.size)
  clear hbW pb xb rp
  have HCN := hide hc
  clear hc
  have hgr : w.heap.size + 1 + 1 < W.heap.size := RP.out.1
  have hgw := hide HB.out.size
  refine (s_l03Copy _ _ _ _ _ _ l _ (H.out.below HB.out) HCN.out hn).mono ?_
  rintro e w1 ⟨v, rfl, ho, hb⟩
  obtain ⟨A1, c1, rfl⟩ := own_form ho
  replace HB := hide (HB.out.trans (hb.mono HB.out.size))
  replace PB := hide (PB.out.below hb)
  replace XB := hide (XB.out.below hb)
  replace RP := hide (RP.out.below hb)
  have hsz := hb.size
  have O1 := hide ho
  have D1 := hide (fun k hk => ho.lt k hk)
  clear ho hb
  generalize hB1 : W.heap.size = B1 at *
  clear hB1
  have p0 := PB.out.c 0 rfl
  have p1 := PB.out.c 1 rfl
  have p2 := PB.out.c 2 rfl
  have p3 := PB.out.c 3 rfl
  have hpl : w.heap.size < w1.heap.size := PB.out.1
  have hpn : ¬ w.heap.size = w1.heap.size := by omega
  go_wp2_with fail
  obtain ⟨hA, qb⟩ := entry1 w1 #[.int .i64 a, .int .i64 b, .string r, .slice A1 n c1] 27
  have QB : Hid (Box (w1.alloc (.cells #[.int .i64 a, .int .i64 b, .string r, .slice A1 n c1] 27)) w1.heap.size [.int .i64 a, .int .i64 b, .string r, .slice A1 n c1]) := qb
  have HNE : Hid ((Value.slice A1 n c1).ownBlock ≠ some w1.heap.size) := by intro e; have := (D1.out _ e).2; omega
  clear p0 p1 p2 p3
  clear qb hpl hpn
  replace HB := hide (HB.out.trans (hA.mono HB.out.size))
  replace PB := hide (PB.out.below hA)
  replace XB := hide (XB.out.below hA)
  replace RP := hide (RP.out.below hA)
  replace O1 := hide (own_below O1.out hA)
  clear hA
  generalize (w1.alloc (.cells #[.int .i64 a, .int .i64 b, .string r, .slice A1 n c1] 27)) = Wo at *
  have hgq : B1 ≤ w1.heap.size := hsz
  generalize hgqe : w1.heap.size = gq at *
  clear hgqe
  have p0 := PB.out.c 0 rfl
  have p1 := PB.out.c 1 rfl
  have p2 := PB.out.c 2 rfl
  have p3 := PB.out.c 3 rfl
  refine (s_PackerOk_is _ _ _ _ _ _ l _ _ (H.out.below HB.out) hn (by omega) HP.out).mono ?_
  rintro e w2 ⟨rfl, hb⟩
  clear p0 p1 p2 p3
  replace HB := hide (HB.out.trans (hb.mono HB.out.size))
  replace PB := hide (PB.out.below hb)
  replace XB := hide (XB.out.below hb)
  replace RP := hide (RP.out.below hb)
  replace O1 := hide (own_below O1.out hb)
  replace QB := hide (QB.out.below hb)
  clear hb
  cases ok with
  | false =>
    have HG2 := hide (And.intro hgr hgw.out)
    have n1 : ¬ gq = w.heap.size + 1 + 1 := by omega
    have n2 : ¬ w.heap.size + 1 + 1 = gq := by omega
    have q0 := QB.out.c 0 rfl
    have q1 := QB.out.c 1 rfl
    have q2 := QB.out.c 2 rfl
    have q3 := QB.out.c 3 rfl
    have r0 := RP.out.c 0 rfl
    have r1 := RP.out.c 1 rfl
    have r2 := RP.out.c 2 rfl
    have r3 := RP.out.c 3 rfl
    have rf0 := RP.out.f 0 (by simp)
    have rf1 := RP.out.f 1 (by simp)
    have rf2 := RP.out.f 2 (by simp)
    have rf3 := RP.out.f 3 (by simp)
    go_wp2_with fail
    refine bodyPost_ret (v := .tuple #[.agg #[.int .i64 a, .int .i64 b, .string r, .slice A1 n c1], .bool false]) (by simp [results, Try.results16, go_sem, r0, r1, r2, r3]) rfl (made_pack_no HK.out ?_ ?_)
    · have hg1 := HG2.out.1
      have hoo := O1.out
      rw [HL.out]
      refine own_mono ?_ HG2.out.2
      repeat (first | with_reducible exact hoo | with_reducible refine World.ownsRow.drew ?_ | with_reducible refine own_set ?_ (by exact hg1) _)
    · have hbb := HB.out
      repeat (first | with_reducible exact hbb | with_reducible refine Below.drew ?_ | with_reducible refine below_drewN ?_ _ | with_reducible refine Below.setCell ?_ (by first | exact Nat.le_refl _ | exact Nat.le_succ _ | (simp; done) | omega | (simp; omega)) _)
  | true =>
    obtain rfl := HN.out rfl
    have x0 := XB.out.c 0 rfl
    have x1 := XB.out.c 1 rfl
    have x2 := XB.out.c 2 rfl
    go_wp2_with fail
    refine (s_PacketOk_is _ _ _ _ _ (by omega) HX.out).mono ?_
    rintro e w1b ⟨rfl, hb⟩
    clear x0 x1 x2
    replace HB := hide (HB.out.trans (hb.mono HB.out.size))
    replace PB := hide (PB.out.below hb)
    replace XB := hide (XB.out.below hb)
    replace RP := hide (RP.out.below hb)
    replace O1 := hide (own_below O1.out hb)
    replace QB := hide (QB.out.below hb)
    clear hb
    have HG2 := hide (And.intro hgr hgw.out)
    have n1 : ¬ gq = w.heap.size + 1 + 1 := by omega
    have n2 : ¬ w.heap.size + 1 + 1 = gq := by omega
    have q0 := QB.out.c 0 rfl
    have q1 := QB.out.c 1 rfl
    have q2 := QB.out.c 2 rfl
    have q3 := QB.out.c 3 rfl
    have r0 := RP.out.c 0 rfl
    have r1 := RP.out.c 1 rfl
    have r2 := RP.out.c 2 rfl
    have r3 := RP.out.c 3 rfl
    have rf0 := RP.out.f 0 (by simp)
    have rf1 := RP.out.f 1 (by simp)
    have rf2 := RP.out.f 2 (by simp)
    have rf3 := RP.out.f 3 (by simp)
    go_wp2_with fail
    refine bodyPost_ret (v := .tuple #[.agg #[.int .i64 a, .int .i64 b, .string r, .slice A1 n c1], .bool false]) (by simp [results, Try.results16, go_sem, r0, r1, r2, r3]) rfl (made_pack_no HK.out ?_ ?_)
    · have hg1 := HG2.out.1
      have hoo := O1.out
      rw [HL.out]
      refine own_mono ?_ HG2.out.2
      repeat (first | with_reducible exact hoo | with_reducible refine World.ownsRow.drew ?_ | with_reducible refine own_set ?_ (by exact hg1) _)
    · have hbb := HB.out
      repeat (first | with_reducible exact hbb | with_reducible refine Below.drew ?_ | with_reducible refine below_drewN ?_ _ | with_reducible refine Below.setCell ?_ (by first | exact Nat.le_refl _ | exact Nat.le_succ _ | (simp; done) | omega | (simp; omega)) _)
set_option maxHeartbeats 3200000 in
theorem s_PackPacket_x (a b : Int) (r : ByteArray) (A : Option Addr) (n c : Nat) (l : List Int) (x y : Int) (d : ByteArray) (w : World) (h : RI w A n l) (hc : A = none → c = 0) (hn : n ≤ 1048576) (hr : r.size ≤ 1048576) (hd : d.size ≤ 1048576) (hp : pkOk a b r l = true) (hx : pktOk x y d = true) :
    Calls Try.prog 16 #[.agg #[.int .i64 a, .int .i64 b, .string r, .slice A n c], .agg #[.int .i64 x, .int .i64 y, .string d]] w (MadePack a b r l x y d w) := by
  have H := hide h
  have HL := hide h.1
  clear h
  have hdl := pktOk_len hx
  have hln := (pk_len hp).2
  have hll := (pk_len hp).1
  have hzn := HL.out
  have HP := hide hp
  have HX := hide hx
  have HZ := hide (pktE_size x y d)
  clear hp hx
  go_enter Try.func16, Try.ntmps16
  go_wp2_with fail
  obtain ⟨hbW, pb, xb, rp⟩ := entry3 w #[.int .i64 a, .int .i64 b, .string r, .slice A n c] #[.int .i64 x, .int .i64 y, .string d] #[.int .i64 0, .int .i64 0, .string ⟨#[]⟩, .slice none 0 0] 27 36 27
  generalize (((w.alloc (.cells #[.int .i64 a, .int .i64 b, .string r, .slice A n c] 27)).alloc (.cells #[.int .i64 x, .int .i64 y, .string d] 36)).alloc (.cells #[.int .i64 0, .int .i64 0, .string ⟨#[]⟩, .slice none 0 0] 27)) = W at *
  have HB := hide hbW
  have PB : Hid (Box W w.heap.size [.int .i64 a, .int .i64 b, .string r, .slice A n c]) := pb
  have XB : Hid (Box W (w.heap.size + 1) [.int .i64 x, .int .i64 y, .string d]) := xb
  have RP : Hid (Box W (w.heap.size + 1 + 1) [.int .i64 0, .int .i64 0, .string ⟨#[]⟩, .slice none 0 0]) := rp
  have HG := hide (And.intro rp.1 hbW.size)
  clear hbW pb xb rp
  have HCN := hide hc
  clear hc
  have hgr : w.heap.size + 1 + 1 < W.heap.size := RP.out.1
  have hgw := hide HB.out.size
  refine (s_l03Copy _ _ _ _ _ _ l _ (H.out.below HB.out) HCN.out hn).mono ?_
  rintro e w1 ⟨v, rfl, ho, hb⟩
  obtain ⟨A1, c1, rfl⟩ := own_form ho
  replace HB := hide (HB.out.trans (hb.mono HB.out.size))
  replace PB := hide (PB.out.below hb)
  replace XB := hide (XB.out.below hb)
  replace RP := hide (RP.out.below hb)
  have hsz := hb.size
  have O1 := hide ho
  have D1 := hide (fun k hk => ho.lt k hk)
  clear ho hb
  generalize hB1 : W.heap.size = B1 at *
  clear hB1
  have p0 := PB.out.c 0 rfl
  have p1 := PB.out.c 1 rfl
  have p2 := PB.out.c 2 rfl
  have p3 := PB.out.c 3 rfl
  have hpl : w.heap.size < w1.heap.size := PB.out.1
  have hpn : ¬ w.heap.size = w1.heap.size := by omega
  go_wp2_with fail
  obtain ⟨hA, qb⟩ := entry1 w1 #[.int .i64 a, .int .i64 b, .string r, .slice A1 n c1] 27
  have QB : Hid (Box (w1.alloc (.cells #[.int .i64 a, .int .i64 b, .string r, .slice A1 n c1] 27)) w1.heap.size [.int .i64 a, .int .i64 b, .string r, .slice A1 n c1]) := qb
  have HNE : Hid ((Value.slice A1 n c1).ownBlock ≠ some w1.heap.size) := by intro e; have := (D1.out _ e).2; omega
  clear p0 p1 p2 p3
  clear qb hpl hpn
  replace HB := hide (HB.out.trans (hA.mono HB.out.size))
  replace PB := hide (PB.out.below hA)
  replace XB := hide (XB.out.below hA)
  replace RP := hide (RP.out.below hA)
  replace O1 := hide (own_below O1.out hA)
  clear hA
  generalize (w1.alloc (.cells #[.int .i64 a, .int .i64 b, .string r, .slice A1 n c1] 27)) = Wo at *
  have hgq : B1 ≤ w1.heap.size := hsz
  generalize hgqe : w1.heap.size = gq at *
  clear hgqe
  have p0 := PB.out.c 0 rfl
  have p1 := PB.out.c 1 rfl
  have p2 := PB.out.c 2 rfl
  have p3 := PB.out.c 3 rfl
  refine (s_PackerOk_is _ _ _ _ _ _ l _ _ (H.out.below HB.out) hn (by omega) HP.out).mono ?_
  rintro e w2 ⟨rfl, hb⟩
  clear p0 p1 p2 p3
  replace HB := hide (HB.out.trans (hb.mono HB.out.size))
  replace PB := hide (PB.out.below hb)
  replace XB := hide (XB.out.below hb)
  replace RP := hide (RP.out.below hb)
  replace O1 := hide (own_below O1.out hb)
  replace QB := hide (QB.out.below hb)
  clear hb
  have x0 := XB.out.c 0 rfl
  have x1 := XB.out.c 1 rfl
  have x2 := XB.out.c 2 rfl
  go_wp2_with fail
  refine (s_PacketOk_is _ _ _ _ _ (by omega) HX.out).mono ?_
  rintro e w3 ⟨rfl, hb⟩
  clear x0 x1 x2
  replace HB := hide (HB.out.trans (hb.mono HB.out.size))
  replace PB := hide (PB.out.below hb)
  replace XB := hide (XB.out.below hb)
  replace RP := hide (RP.out.below hb)
  replace O1 := hide (own_below O1.out hb)
  replace QB := hide (QB.out.below hb)
  clear hb
  obtain ⟨E, hE⟩ : ∃ E, pktE x y d = E := ⟨_, rfl⟩
  have HE := hide hE
  have hez : E.size ≤ 12 + d.size := by rw [← hE]; exact HZ.out
  clear hE HZ
  have q0 := QB.out.c 0 rfl
  have q1 := QB.out.c 1 rfl
  have q2 := QB.out.c 2 rfl
  have q3 := QB.out.c 3 rfl
  have qf0 := QB.out.f 0 (by simp)
  have qf1 := QB.out.f 1 (by simp)
  have qf2 := QB.out.f 2 (by simp)
  have qf3 := QB.out.f 3 (by simp)
  have p0 := PB.out.c 0 rfl
  have p1 := PB.out.c 1 rfl
  have p2 := PB.out.c 2 rfl
  have p3 := PB.out.c 3 rfl
  have hgl : gq < w3.heap.size := QB.out.1
  have hgn : ¬ gq = w3.heap.size := by omega
  have hpl : w.heap.size < w3.heap.size := PB.out.1
  have hpn : ¬ w.heap.size = w3.heap.size := by omega
  go_wp2_with (at_builtin; go_loud (refine wpList_appWH w3.heap.size rfl 22 3 (.int .i64 0) 1 8 Try.underlying22 infoI rfl (by decide) (by decide) rfl _ _ rfl B1 _ n 1 (Is l) [.int .i64 (r.size : Int)] rfl O1.out rfl rfl rfl (one_int _) (by omega) (by omega) ?_; intro v' w4 ho' hb' hs' hl'; obtain ⟨A2, c2, rfl⟩ := own_form ho'; have hz4 := hb'.size; have hgl2 := QB.out.1; replace QB := hide (QB.out.same hs' hz4 HNE.out); have hx1 : w.heap.size + 1 < B1 := (by omega); have hx2 : w.heap.size < B1 := (by omega); replace PB := hide (PB.out.belowM hx2 hb'); replace XB := hide (XB.out.belowM hx1 hb'); replace RP := hide (RP.out.belowM hgr hb'); replace HB := hide (HB.out.trans (hb'.mono (Nat.le_of_lt hx2))); have O2 := hide ho'; have HN2 := hide (lies_ne2 HNE.out hl' (Nat.le_of_lt hgl2)); clear q0 q1 q2 q3 qf0 qf1 qf2 qf3 p0 p1 p2 p3 hgl hgn hpl hpn; have t3 := QB.out.c 3 rfl; have f3 := QB.out.f 3 (by simp); clear ho' hb' hs' hl' O1 hx1 hx2))
  clear t3 f3
  have QB5 : Hid (Box (w4.setCell ⟨gq, 3, none⟩ (.slice A2 (n + 1) c2)) gq [.int .i64 a, .int .i64 b, .string r, .slice A2 (n + 1) c2]) := QB.out.setC 3 (by simp) _
  have PB5 := hide (PB.out.other ⟨gq, 3, none⟩ (by show gq ≠ w.heap.size; omega) (.slice A2 (n + 1) c2))
  have XB5 := hide (XB.out.other ⟨gq, 3, none⟩ (by show gq ≠ w.heap.size + 1; omega) (.slice A2 (n + 1) c2))
  have RP5 := hide (RP.out.other ⟨gq, 3, none⟩ (by show gq ≠ w.heap.size + 1 + 1; omega) (.slice A2 (n + 1) c2))
  have O5 := hide (own_set2 O2.out (p := ⟨gq, 3, none⟩) HN2.out (.slice A2 (n + 1) c2))
  have HB5 := hide (HB.out.setCell (p := ⟨gq, 3, none⟩) (by show w.heap.size ≤ gq; omega) (.slice A2 (n + 1) c2))
  clear QB PB XB RP O2 HB
  generalize w4.setCell ⟨gq, 3, none⟩ (.slice A2 (n + 1) c2) = W5 at *
  have q0 := QB5.out.c 0 rfl
  have q1 := QB5.out.c 1 rfl
  have q2 := QB5.out.c 2 rfl
  have q3 := QB5.out.c 3 rfl
  have qf0 := QB5.out.f 0 (by simp)
  have qf1 := QB5.out.f 1 (by simp)
  have qf2 := QB5.out.f 2 (by simp)
  have qf3 := QB5.out.f 3 (by simp)
  have x0 := XB5.out.c 0 rfl
  have x1 := XB5.out.c 1 rfl
  have x2 := XB5.out.c 2 rfl
  have p2 := PB5.out.c 2 rfl
  have hadd := fun w => run_string_add_sum (P := Try.prog) (w := w) r E (by omega)
  go_region_law (go_simp; go_at_call 60; refine (s_Enc_is x y d E _ (by omega) HE.out).mono ?_; rintro e w6 ⟨rfl, hb6⟩; (first | (replace hb6 : Below W5.heap.size W5 w6 := below_undrew hb6) | skip); have u2 := (QB5.out.below hb6).c 2 rfl; have uf2 := (QB5.out.below hb6).f 2 (by simp); have up2 := (PB5.out.below hb6).c 2 rfl)
  all_goals
    have QB7 : Hid (Box (w6.setCell ⟨gq, 2, none⟩ (.string (r ++ E))) gq [.int .i64 a, .int .i64 b, .string (r ++ E), .slice A2 (n + 1) c2]) := (QB5.out.below hb6).setC 2 (by simp) _
    have PB7 := hide ((PB5.out.below hb6).other ⟨gq, 2, none⟩ (by show gq ≠ w.heap.size; omega) (.string (r ++ E)))
    have RP7 := hide ((RP5.out.below hb6).other ⟨gq, 2, none⟩ (by show gq ≠ w.heap.size + 1 + 1; omega) (.string (r ++ E)))
    have O7 := hide (own_set2 (own_below O5.out hb6) (p := ⟨gq, 2, none⟩) HN2.out (.string (r ++ E)))
    have HB7 := hide ((HB5.out.trans (hb6.mono HB5.out.size)).setCell (p := ⟨gq, 2, none⟩) (by show w.heap.size ≤ gq; omega) (.string (r ++ E)))
    clear p2 up2
    clear QB5 PB5 XB5 RP5 O5 HB5 hb6 hadd q0 q1 q2 q3 qf0 qf1 qf2 qf3 x0 x1 x2 u2 uf2
    generalize w6.setCell ⟨gq, 2, none⟩ (.string (r ++ E)) = W7 at *
    rw [← Is_snoc] at O7
    have hll7 : (l ++ [(r.size : Int)]).length = n + 1 := by simp [hzn]
    obtain ⟨fk, hfk⟩ : ∃ fk, pkOk a b (r ++ E) (l ++ [(r.size : Int)]) = fk := ⟨_, rfl⟩
    have HF := hide hfk
    clear hfk
    have hre : (r ++ E).size ≤ 1099511627776 := by rw [ByteArray.size_append]; omega
    have HK := hide (show ppOk a b r l x y d = fk by unfold ppOk ppR ppL; rw [HP.out, HX.out, HE.out, HF.out]; rfl)
    have q0 := QB7.out.c 0 rfl
    have q1 := QB7.out.c 1 rfl
    have q2 := QB7.out.c 2 rfl
    have q3 := QB7.out.c 3 rfl
    go_wp2_with fail
    refine (s_PackerOk_is _ _ _ _ _ _ (l ++ [(r.size : Int)]) _ _ (RI.of_own O7.out) (by omega) hre HF.out).mono ?_
    rintro e w8 ⟨rfl, hb⟩
    clear q0 q1 q2 q3
    replace QB7 := hide (QB7.out.below hb)
    replace PB7 := hide (PB7.out.below hb)
    replace RP7 := hide (RP7.out.below hb)
    replace O7 := hide (own_below O7.out hb)
    replace HB7 := hide (HB7.out.trans (hb.mono HB7.out.size))
    clear hb
    cases fk with
    | false =>
      have p0 := PB7.out.c 0 rfl
      have p1 := PB7.out.c 1 rfl
      have p2 := PB7.out.c 2 rfl
      have p3 := PB7.out.c 3 rfl
      go_wp2_with fail
      have HG2 := hide (And.intro RP7.out.1 HB7.out.size)
      refine (s_l03Copy _ _ _ _ _ _ l _ (H.out.below HB7.out) HCN.out hn).mono ?_
      rintro e w9 ⟨v, rfl, ho, hb⟩
      obtain ⟨A1, c1, rfl⟩ := own_form ho
      have O1 := hide ho
      clear p0 p1 p2 p3
      have RP := hide (RP7.out.below hb)
      have HB := hide (HB7.out.trans (hb.mono HB7.out.size))
      clear ho hb RP7 HB7 PB7 QB7 O7
      have r0 := RP.out.c 0 rfl
      have r1 := RP.out.c 1 rfl
      have r2 := RP.out.c 2 rfl
      have r3 := RP.out.c 3 rfl
      have rf0 := RP.out.f 0 (by simp)
      have rf1 := RP.out.f 1 (by simp)
      have rf2 := RP.out.f 2 (by simp)
      have rf3 := RP.out.f 3 (by simp)
      go_wp2_with fail
      refine bodyPost_ret (v := .tuple #[.agg #[.int .i64 a, .int .i64 b, .string r, .slice A1 n c1], .bool false]) (by simp [results, Try.results16, go_sem, r0, r1, r2, r3]) rfl (made_pack_no HK.out ?_ ?_)
      · have hg1 := HG2.out.1
        have hoo := O1.out
        rw [HL.out]
        refine own_mono ?_ HG2.out.2
        repeat (first | with_reducible exact hoo | with_reducible refine World.ownsRow.drew ?_ | with_reducible refine own_set ?_ (by exact hg1) _)
      · have hbb := HB.out
        repeat (first | with_reducible exact hbb | with_reducible refine Below.drew ?_ | with_reducible refine below_drewN ?_ _ | with_reducible refine Below.setCell ?_ (by first | exact Nat.le_refl _ | exact Nat.le_succ _ | (simp; done) | omega | (simp; omega)) _)
    | true =>
      have q0 := QB7.out.c 0 rfl
      have q1 := QB7.out.c 1 rfl
      have q2 := QB7.out.c 2 rfl
      have q3 := QB7.out.c 3 rfl
      have r0 := RP7.out.c 0 rfl
      have r1 := RP7.out.c 1 rfl
      have r2 := RP7.out.c 2 rfl
      have r3 := RP7.out.c 3 rfl
      have rf0 := RP7.out.f 0 (by simp)
      have rf1 := RP7.out.f 1 (by simp)
      have rf2 := RP7.out.f 2 (by simp)
      have rf3 := RP7.out.f 3 (by simp)
      have n1 : ¬ gq = w.heap.size + 1 + 1 := by omega
      have n2 : ¬ w.heap.size + 1 + 1 = gq := by omega
      go_wp2_with fail
      refine bodyPost_ret (v := .tuple #[.agg #[.int .i64 a, .int .i64 b, .string (r ++ E), .slice A2 (n + 1) c2], .bool true]) (by simp [results, Try.results16, go_sem, r0, r1, r2, r3]) rfl (made_pack_yesE HE.out HK.out ?_ ?_)
      · have hoo := O7.out
        rw [hll7]
        refine own_mono ?_ hgw.out
        repeat (first | with_reducible exact hoo | with_reducible refine World.ownsRow.drew ?_ | with_reducible refine own_set ?_ (by exact hgr) _)
      · have hbb := HB7.out
        repeat (first | with_reducible exact hbb | with_reducible refine Below.drew ?_ | with_reducible refine below_drewN ?_ _ | with_reducible refine Below.setCell ?_ (by first | exact Nat.le_refl _ | exact Nat.le_succ _ | (simp; done) | omega | (simp; omega)) _)
theorem s_PackPacket (a b : Int) (r : ByteArray) (A : Option Addr) (n c : Nat) (l : List Int) (x y : Int) (d : ByteArray) (w : World) (h : RI w A n l) (hc : A = none → c = 0) (hn : n ≤ 1048576) (hr : r.size ≤ 1048576) (hd : d.size ≤ 1048576) :
    Calls Try.prog 16 #[.agg #[.int .i64 a, .int .i64 b, .string r, .slice A n c], .agg #[.int .i64 x, .int .i64 y, .string d]] w (MadePack a b r l x y d w) := by
  cases hp : pkOk a b r l with
  | false => exact s_PackPacket_no a b r A n c l x y d w h hc hn hr hd (by rw [hp]; rfl) (by unfold ppOk; rw [hp]; rfl)
  | true =>
    cases hx : pktOk x y d with
    | false => exact s_PackPacket_no a b r A n c l x y d w h hc hn hr hd (by rw [hx]; simp) (by unfold ppOk; rw [hx]; simp)
    | true => exact s_PackPacket_x a b r A n c l x y d w h hc hn hr hd hp hx
theorem s_Pack_is (a b : Int) (r : ByteArray) (A : Option Addr) (n c : Nat) (l : List Int) (x y : Int) (d r' : ByteArray) (l' : List Int) (ok : Bool) (w : World) (h : RI w A n l) (hc : A = none → c = 0) (hn : n ≤ 1048576) (hr : r.size ≤ 1048576) (hd : d.size ≤ 1048576) (hP : ppP a b r l x y d = (r', l')) (hk : ppOk a b r l x y d = ok) :
    Calls Try.prog 16 #[.agg #[.int .i64 a, .int .i64 b, .string r, .slice A n c], .agg #[.int .i64 x, .int .i64 y, .string d]] w (Packed a b r' l' ok w) := (s_PackPacket a b r A n c l x y d w h hc hn hr hd).mono fun _ _ h => packed_of h hP hk
theorem i_Pack_is (a b : Int) (r : ByteArray) (A : Option Addr) (n c : Nat) (l : List Int) (x y : Int) (d r' : ByteArray) (l' : List Int) (ok : Bool) (w : World) (h : RI w A n l) (hn : n ≤ 1048576) (hr : r.size ≤ 1048576) (hd : d.size ≤ 1048576) (hP : ppP a b r l x y d = (r', l')) (hk : ppOk a b r l x y d = ok) :
    Calls Try.prog 18 #[.agg #[.int .i64 a, .int .i64 b, .string r, .slice A n c], .agg #[.int .i64 x, .int .i64 y, .string d]] w (Packed a b r' l' ok w) := (i_PackPacket a b r A n c l x y d w h hn hr hd).mono fun _ _ h => packed_of h hP hk
end Go.Proofs.Ytnelfadmcpacbaa
