/- The program's PushFrame returns what the reference's returns, and shares no memory with it or with another call, for all unpackers and frames of at most 2^20 bytes together (greater ones the law lets pass). -/
import Derived.Test.YtnelfadmcpacbaaRowPack
import Derived.Test.YtnelfadmcpacbaaPshD
import Derived.Deep.DeepCutAuto
namespace Go.Proofs.Ytnelfadmcpacbaa.fnExactPushFrame
open Go.ChangeShapes Go.WideShapes Go.ChangeAt Go.RowKit Sat
open Go.ChangeMaps (open_string shut_string)
set_option linter.unusedVariables false
attribute [local go_sem ↓] Go.wp_at_zero Go.wp_at_succ

def Fin (w2 : World) (c n' : Int) (y' : Bool) (r' : ByteArray) (o' : Int) (pk : List Pk3) (p q : Value) (wx : World) : Prop := ∃ (g : Nat) (A5 : Option Addr) (c5 : Nat), p = .pointer (some ⟨g, 0, none⟩) ∧ q = .slice A5 pk.length c5 ∧ Hid (Box wx g [.int .i64 c, .int .i64 n', .bool y', .string r', .int .i64 o']) ∧ Hid (wx.ownsRow w2.heap.size 36 3 (.slice A5 pk.length c5) pk.length (Pks pk)) ∧ Hid (Below w2.heap.size w2 wx) ∧ w2.heap.size ≤ g ∧ Hid ((Value.slice A5 pk.length c5).ownBlock ≠ some g)
theorem keep54 {w w' : World} {g h : Nat} {a0 a1 a2 a3 a4 b0 b1 b2 b3 : Value} (x : Box w g [a0, a1, a2, a3, a4]) (y : Box w h [b0, b1, b2, b3]) (hb : Below w.heap.size w w') :
    w'.cell? ⟨g, 0, none⟩ = some a0 ∧ w'.cell? ⟨g, 1, none⟩ = some a1 ∧ w'.cell? ⟨g, 2, none⟩ = some a2 ∧ w'.cell? ⟨g, 3, none⟩ = some a3 ∧ w'.cell? ⟨g, 4, none⟩ = some a4 ∧ w'.cell? ⟨h, 0, none⟩ = some b0 ∧ w'.cell? ⟨h, 1, none⟩ = some b1 ∧ w'.cell? ⟨h, 2, none⟩ = some b2 ∧ w'.cell? ⟨h, 3, none⟩ = some b3 :=
  ⟨(x.below hb).c 0 rfl, (x.below hb).c 1 rfl, (x.below hb).c 2 rfl, (x.below hb).c 3 rfl, (x.below hb).c 4 rfl, (y.below hb).c 0 rfl, (y.below hb).c 1 rfl, (y.below hb).c 2 rfl, (y.below hb).c 3 rfl⟩
theorem zp_new {w w' : World} {o0 o1 o2 o3 o4 : Value} {t : TypeId} (hb : Below (w.alloc (.cells #[o0, o1, o2, o3, o4] t)).heap.size (w.alloc (.cells #[o0, o1, o2, o3, o4] t)) w') : Box w' w.heap.size [o0, o1, o2, o3, o4] ∧ w.heap.size < (w.alloc (.cells #[o0, o1, o2, o3, o4] t)).heap.size := ⟨Box.below (Box.new w #[o0, o1, o2, o3, o4] t) hb, by simp⟩
theorem zp_newd {w w' : World} {o0 o1 o2 o3 o4 : Value} {t : TypeId} (hb : Below (w.alloc (.cells #[o0, o1, o2, o3, o4] t)).drew.heap.size (w.alloc (.cells #[o0, o1, o2, o3, o4] t)).drew w') : Box w' w.heap.size [o0, o1, o2, o3, o4] ∧ w.heap.size < (w.alloc (.cells #[o0, o1, o2, o3, o4] t)).drew.heap.size := zp_new (below_undrew (w := w.alloc (.cells #[o0, o1, o2, o3, o4] t)) hb)
theorem zp_old {w w' : World} {g : Nat} {vs : List Value} (zb : Box w g vs) (hb : Below w.heap.size w w') : Box w' g vs ∧ g < w.heap.size := ⟨zb.below hb, zb.1⟩
theorem zp_oldd {w w' : World} {g : Nat} {vs : List Value} (zb : Box w g vs) (hb : Below w.drew.heap.size w.drew w') : Box w' g vs ∧ g < w.drew.heap.size := zp_old (w := w) zb (below_undrew (w := w) hb)
theorem zne_of {w : World} {B e size g : Nat} {v : Value} {n : Nat} {xs : List Value} (h : w.ownsRow B e size v n xs) (hg : g < B) : v.ownBlock ≠ some g := fun e => by have := (h.lt _ e).1; omega
theorem size_of {w Y : World} (h : Below w.heap.size w Y) : w.heap.size ≤ Y.heap.size := h.size
theorem own_belowM {w w' : World} {B e size M : Nat} {v : Value} {n : Nat} {xs : List Value} (h : w.ownsRow B e size v n xs) (hlt : ∀ k, v.ownBlock = some k → k < M) (hb : Below M w w') : w'.ownsRow B e size v n xs := by
  refine ⟨h.1, ?_⟩
  rcases h.2 with hn | ⟨g, cap, cur, rfl, hb0, hgg, rest⟩
  · exact .inl hn
  · refine .inr ⟨g, cap, cur, rfl, hb0, ?_, rest⟩
    rw [hb.block g (hlt g rfl)]; exact hgg
theorem fin_new {w2 w5 : World} {c n' : Int} {y' : Bool} {r' : ByteArray} {o' : Int} {pk : List Pk3} {A5 : Option Addr} {c5 : Nat} (ho : w5.ownsRow w2.heap.size 36 3 (.slice A5 pk.length c5) pk.length (Pks pk)) (hb : Below w2.heap.size w2 w5) :
    Fin w2 c n' y' r' o' pk (.pointer (some ⟨w5.heap.size, 0, none⟩)) (.slice A5 pk.length c5) (w5.alloc (.cells #[.int .i64 c, .int .i64 n', .bool y', .string r', .int .i64 o'] 55)) := by
  obtain ⟨hA, b1⟩ := entry1 w5 #[.int .i64 c, .int .i64 n', .bool y', .string r', .int .i64 o'] 55
  exact ⟨_, A5, c5, rfl, rfl, b1, own_below ho hA, hb.trans (hA.mono hb.size), hb.size, fun e => by have := (ho.lt _ e).2; omega⟩
theorem fin_set {w2 w5 : World} {c n' : Int} {y' : Bool} {r' : ByteArray} {o' : Int} {pk : List Pk3} {A5 : Option Addr} {c5 g : Nat} {z0 z1 z2 z3 z4 : Value} (hz : Box w5 g [z0, z1, z2, z3, z4]) (hne : (Value.slice A5 pk.length c5).ownBlock ≠ some g) (ho : w5.ownsRow w2.heap.size 36 3 (.slice A5 pk.length c5) pk.length (Pks pk)) (hb : Below w2.heap.size w2 w5) (hg : w2.heap.size ≤ g) :
    Fin w2 c n' y' r' o' pk (.pointer (some ⟨g, 0, none⟩)) (.slice A5 pk.length c5) (((((w5.setCell ⟨g, 0, none⟩ (.int .i64 c)).setCell ⟨g, 1, none⟩ (.int .i64 n')).setCell ⟨g, 2, none⟩ (.bool y')).setCell ⟨g, 3, none⟩ (.string r')).setCell ⟨g, 4, none⟩ (.int .i64 o')) := by
  refine ⟨g, A5, c5, rfl, rfl, ?_, ?_, ?_, hg, hne⟩
  · exact ((((hz.setC 0 (by simp) _).setC 1 (by simp) _).setC 2 (by simp) _).setC 3 (by simp) _).setC 4 (by simp) _
  · exact own_set2 (own_set2 (own_set2 (own_set2 (own_set2 ho (p := ⟨g, 0, none⟩) hne _) (p := ⟨g, 1, none⟩) hne _) (p := ⟨g, 2, none⟩) hne _) (p := ⟨g, 3, none⟩) hne _) (p := ⟨g, 4, none⟩) hne _
  · exact ((((hb.setCell (p := ⟨g, 0, none⟩) hg _).setCell (p := ⟨g, 1, none⟩) hg _).setCell (p := ⟨g, 2, none⟩) hg _).setCell (p := ⟨g, 3, none⟩) hg _).setCell (p := ⟨g, 4, none⟩) hg _
set_option maxRecDepth 100000 in
set_option maxHeartbeats 20000000 in
theorem walk (a0x0 : Int) (l0x0 : -9223372036854775808 ≤ a0x0) (u0x0 : a0x0 ≤ 9223372036854775807) (a0x1 : Int) (l0x1 : -9223372036854775808 ≤ a0x1) (u0x1 : a0x1 ≤ 9223372036854775807) (a0x2 : Bool) (a0x3 : ByteArray) (s0x3 : a0x3.size ≤ maxLen) (a0x4 : Int) (l0x4 : -9223372036854775808 ≤ a0x4) (u0x4 : a0x4 ≤ 9223372036854775807) (a1x0 : Int) (l1x0 : -9223372036854775808 ≤ a1x0) (u1x0 : a1x0 ≤ 9223372036854775807) (a1x1 : Int) (l1x1 : -9223372036854775808 ≤ a1x1) (u1x1 : a1x1 ≤ 9223372036854775807) (a1x2 : Int) (l1x2 : -9223372036854775808 ≤ a1x2) (u1x2 : a1x2 ≤ 9223372036854775807) (a1x3 : ByteArray) (s1x3 : a1x3.size ≤ maxLen) (w : World) :
    Calls Try.prog 7 #[.agg #[.int .i64 a0x0, .int .i64 a0x1, .bool a0x2, .string a0x3, .int .i64 a0x4], .agg #[.int .i64 a1x0, .int .i64 a1x1, .int .i64 a1x2, .string a1x3]] w fun e w' => e = .returned (.bool true) ∧ Below w.heap.size w w' := by
  unfold maxLen at s0x3 s1x3
  by_cases hbig : 1048576 < a0x3.size
  · go_enter Try.func7, Try.ntmps7
    go_wp2_with fail
    refine (l_szUnpacker_big _ _ _ _ _ _ _ (by omega) (by omega) (by omega) (by omega)).mono ?_
    rintro e w1 ⟨rfl, hb⟩
    have hb' := (entry2 w #[.int .i64 a0x0, .int .i64 a0x1, .bool a0x2, .string a0x3, .int .i64 a0x4] #[.int .i64 a1x0, .int .i64 a1x1, .int .i64 a1x2, .string a1x3] 51 52).1
    have HB := hide (hb'.trans (hb.mono hb'.size))
    clear hb hb'
    go_wp2_with fail
    go_ret
    exact ⟨rfl, HB.out⟩
  by_cases hbig2 : 1048576 < a0x3.size + a1x3.size
  · go_enter Try.func7, Try.ntmps7
    go_wp2_with fail
    obtain ⟨hA, b1, b2⟩ := entry2 w #[.int .i64 a0x0, .int .i64 a0x1, .bool a0x2, .string a0x3, .int .i64 a0x4] #[.int .i64 a1x0, .int .i64 a1x1, .int .i64 a1x2, .string a1x3] 51 52
    have B2 : Hid (Box _ (w.heap.size + 1) [.int .i64 a1x0, .int .i64 a1x1, .int .i64 a1x2, .string a1x3]) := b2
    have HA := hide hA
    clear hA b1 b2
    refine (l_szUnpacker_no _ _ _ _ _ _ _ (by omega) (by omega) (by omega) (by omega)).mono ?_
    rintro e w1 ⟨rfl, hb⟩
    have B3 := hide (B2.out.below hb)
    have HB := hide (HA.out.trans (hb.mono HA.out.size))
    have x0 := B3.out.c 0 rfl
    have x1 := B3.out.c 1 rfl
    have x2 := B3.out.c 2 rfl
    have x3 := B3.out.c 3 rfl
    clear hb B2 HA
    go_wp2_with fail
    refine (l_szFrame_big _ _ _ _ _ _ (by omega) (by omega) (by omega) (by omega)).mono ?_
    rintro e w2 ⟨rfl, hb⟩
    replace HB := hide (HB.out.trans (hb.mono HB.out.size))
    clear hb
    go_wp2_with fail
    go_ret
    exact ⟨rfl, HB.out⟩
  · have hsm : a0x3.size + a1x3.size ≤ 1048576 := by omega
    clear hbig hbig2
    have hpl := psP_len a0x0 a0x1 a0x2 a0x3 a0x4 a1x0 a1x1 a1x2 a1x3
    obtain ⟨P, hU⟩ : ∃ P, psU a0x0 a0x1 a0x2 a0x3 a0x4 a1x0 a1x1 a1x2 a1x3 = P := ⟨_, rfl⟩
    obtain ⟨pk, hP⟩ : ∃ pk, psP a0x0 a0x1 a0x2 a0x3 a0x4 a1x0 a1x1 a1x2 a1x3 = pk := ⟨_, rfl⟩
    rw [hP] at hpl
    obtain ⟨n', y', r', o'⟩ := P
    have TU := hide hU
    have TP := hide hP
    clear hU hP
    go_enter Try.func7, Try.ntmps7
    go_wp2_with fail
    have BB0 := hide (Below.refl w.heap.size w)
    obtain ⟨hA, b1, b2⟩ := entry2 w #[.int .i64 a0x0, .int .i64 a0x1, .bool a0x2, .string a0x3, .int .i64 a0x4] #[.int .i64 a1x0, .int .i64 a1x1, .int .i64 a1x2, .string a1x3] 51 52
    generalize ((w.alloc (.cells #[.int .i64 a0x0, .int .i64 a0x1, .bool a0x2, .string a0x3, .int .i64 a0x4] 51)).alloc (.cells #[.int .i64 a1x0, .int .i64 a1x1, .int .i64 a1x2, .string a1x3] 52)) = W0 at *
    have Z1 : Hid (w.heap.size ≤ W0.heap.size) := hA.size
    have BB1 := hide (BB0.out.trans (hA.mono BB0.out.size))
    clear BB0
    have Yau : Hid (w.heap.size < W0.heap.size) := b1.1
    have Bau1 : Hid (Box W0 (w.heap.size) [.int .i64 a0x0, .int .i64 a0x1, .bool a0x2, .string a0x3, .int .i64 a0x4]) := b1
    have Yaf : Hid (w.heap.size + 1 < W0.heap.size) := b2.1
    have Baf1 : Hid (Box W0 (w.heap.size + 1) [.int .i64 a1x0, .int .i64 a1x1, .int .i64 a1x2, .string a1x3]) := b2
    clear hA b1 b2
    refine (l_szUnpacker_no _ _ _ _ _ _ _ (by omega) (by omega) (by omega) (by omega)).mono ?_
    rintro e w1 ⟨rfl, hb⟩
    have Z2 : Hid (W0.heap.size ≤ w1.heap.size) := hb.size
    have BB2 := hide (BB1.out.trans (hb.mono BB1.out.size))
    have Bau2 := hide (Bau1.out.below hb)
    have Baf2 := hide (Baf1.out.below hb)
    clear BB1 Bau1 Baf1
    clear hb
    have caf0 := Baf2.out.c 0 rfl
    have caf1 := Baf2.out.c 1 rfl
    have caf2 := Baf2.out.c 2 rfl
    have caf3 := Baf2.out.c 3 rfl
    go_wp2_with fail
    refine (l_szFrame_no _ _ _ _ _ _ (by omega) (by omega) (by omega) (by omega)).mono ?_
    rintro e w2 ⟨rfl, hb⟩
    clear caf0 caf1 caf2 caf3
    have Z3 : Hid (w1.heap.size ≤ w2.heap.size) := hb.size
    have BB3 := hide (BB2.out.trans (hb.mono BB2.out.size))
    have Bau3 := hide (Bau2.out.below hb)
    have Baf3 := hide (Baf2.out.below hb)
    clear BB2 Bau2 Baf2
    clear hb
    have cau0 := Bau3.out.c 0 rfl
    have cau1 := Bau3.out.c 1 rfl
    have cau2 := Bau3.out.c 2 rfl
    have cau3 := Bau3.out.c 3 rfl
    have cau4 := Bau3.out.c 4 rfl
    have caf0 := Baf3.out.c 0 rfl
    have caf1 := Baf3.out.c 1 rfl
    have caf2 := Baf3.out.c 2 rfl
    have caf3 := Baf3.out.c 3 rfl
    go_upto_region 8 with fail
    go_cut [6, 7] (fun p q wx => Fin w2 a0x0 n' y' r' o' pk p q wx)
    case first =>
      go_region_held3 (fun w' => w'.cell? ⟨w.heap.size, 0, none⟩ = some (.int .i64 a0x0) ∧ w'.cell? ⟨w.heap.size, 1, none⟩ = some (.int .i64 a0x1) ∧ w'.cell? ⟨w.heap.size, 2, none⟩ = some (.bool a0x2) ∧ w'.cell? ⟨w.heap.size, 3, none⟩ = some (.string a0x3) ∧ w'.cell? ⟨w.heap.size, 4, none⟩ = some (.int .i64 a0x4) ∧ w'.cell? ⟨w.heap.size + 1, 0, none⟩ = some (.int .i64 a1x0) ∧ w'.cell? ⟨w.heap.size + 1, 1, none⟩ = some (.int .i64 a1x1) ∧ w'.cell? ⟨w.heap.size + 1, 2, none⟩ = some (.int .i64 a1x2) ∧ w'.cell? ⟨w.heap.size + 1, 3, none⟩ = some (.string a1x3)) (exact keep54 Bau3.out Baf3.out (by repeat (first | with_reducible exact hb5 | with_reducible exact hb4 | with_reducible exact hb3 | exact Below.refl _ _ | with_reducible refine Below.drew ?_ | with_reducible refine Below.alloc ?_ (by first | exact Nat.le_refl _ | omega | (simp; done) | (simp; omega)) _ | with_reducible refine Below.setCell ?_ (by first | omega | (simp; done) | (simp; omega)) _))) (first | (go_at_call 32; refine (l_toUnpacker _ _ _ _ _ _).mono ?_; rintro e w3 ⟨rfl, hbr⟩; (first | (have zp := zp_new hbr) | (have zp := zp_newd hbr) | (have zp := zp_old zb.out hbr) | (have zp := zp_oldd zb.out hbr) | skip); (first | (replace zb := hide zp.1) | (have zb := hide zp.1) | skip); have hb3 : Below w2.heap.size w2 w3 := below_trans (by repeat (first | with_reducible exact hb5 | with_reducible exact hb4 | with_reducible exact hb3 | exact Below.refl _ _ | with_reducible refine Below.drew ?_ | with_reducible refine Below.alloc ?_ (by first | exact Nat.le_refl _ | omega | (simp; done) | (simp; omega)) _ | with_reducible refine Below.setCell ?_ (by first | omega | (simp; done) | (simp; omega)) _)) hbr; have hs3 := hb3.size; clear hbr) | (go_at_call 33; refine (l_toFrame _ _ _ _ _).mono ?_; rintro e w4 ⟨rfl, hbr⟩; (first | (have zp := zp_new hbr) | (have zp := zp_newd hbr) | (have zp := zp_old zb.out hbr) | (have zp := zp_oldd zb.out hbr) | skip); (first | (replace zb := hide zp.1) | (have zb := hide zp.1) | skip); have hb4 : Below w2.heap.size w2 w4 := below_trans (by repeat (first | with_reducible exact hb5 | with_reducible exact hb4 | with_reducible exact hb3 | exact Below.refl _ _ | with_reducible refine Below.drew ?_ | with_reducible refine Below.alloc ?_ (by first | exact Nat.le_refl _ | omega | (simp; done) | (simp; omega)) _ | with_reducible refine Below.setCell ?_ (by first | omega | (simp; done) | (simp; omega)) _)) hbr; have hs4 := hb4.size; clear hbr) | (go_at_call 31; refine (s_Push_is _ _ _ _ _ _ _ _ _ _ _ _ _ _ _ (by omega) (by omega) TU.out TP.out).mono ?_; rintro e w5 ⟨v5, rfl, ho5, hbr⟩; obtain ⟨A5, c5, rfl⟩ := own_form ho5; have hb5 : Below w2.heap.size w2 w5 := below_trans (by repeat (first | with_reducible exact hb5 | with_reducible exact hb4 | with_reducible exact hb3 | exact Below.refl _ _ | with_reducible refine Below.drew ?_ | with_reducible refine Below.alloc ?_ (by first | exact Nat.le_refl _ | omega | (simp; done) | (simp; omega)) _ | with_reducible refine Below.setCell ?_ (by first | omega | (simp; done) | (simp; omega)) _)) hbr; have hs5 := hb5.size; (first | (have zp := zp_new hbr) | (have zp := zp_newd hbr) | (have zp := zp_old zb.out hbr) | (have zp := zp_oldd zb.out hbr) | skip); (first | (replace zb := hide zp.1) | (have zb := hide zp.1) | skip); (first | (have D5 := hide (zne_of ho5 zp.2)) | skip); (first | (have z0 := zb.out.c 0 rfl; have z1 := zb.out.c 1 rfl; have z2 := zb.out.c 2 rfl; have z3 := zb.out.c 3 rfl; have z4 := zb.out.c 4 rfl; have zf0 := zb.out.f 0 (by simp); have zf1 := zb.out.f 1 (by simp); have zf2 := zb.out.f 2 (by simp); have zf3 := zb.out.f 3 (by simp); have zf4 := zb.out.f 4 (by simp)) | skip); replace ho5 := hide (own_mono ho5 (size_of (w := w2) (by repeat (first | with_reducible exact hb5 | with_reducible exact hb4 | with_reducible exact hb3 | exact Below.refl _ _ | with_reducible refine Below.drew ?_ | with_reducible refine Below.alloc ?_ (by first | exact Nat.le_refl _ | omega | (simp; done) | (simp; omega)) _ | with_reducible refine Below.setCell ?_ (by first | omega | (simp; done) | (simp; omega)) _)))); clear hbr))
      all_goals (go_wp2_with fail; go_meet; first | with_reducible exact fin_new ho5.out hb5 | with_reducible exact fin_set zb.out D5.out ho5.out hb5 (by omega))
    case rest =>
      obtain ⟨gw, Aw, cw, hp, hq, HBx, HO, HB, hge, HNEw⟩ := hcut
      subst hp
      subst hq
      generalize wc = w5 at *
      have hb := HB.out
      clear HB
      clear cau0 cau1 cau2 cau3 cau4 caf0 caf1 caf2 caf3
      have Z4 : Hid (w2.heap.size ≤ w5.heap.size) := hb.size
      have BB4 := hide (BB3.out.trans (hb.mono BB3.out.size))
      have Bau4 := hide (Bau3.out.below hb)
      have Baf4 := hide (Baf3.out.below hb)
      clear BB3 Bau3 Baf3
      have Yw : Hid (gw < w5.heap.size) := HBx.out.1
      have Xw : Hid (w2.heap.size ≤ gw) := hge
      have Bw4 := HBx
      have Rw4 := hide HO.out
      have Dw : Hid (∀ k, (Value.slice Aw pk.length cw).ownBlock = some k → w2.heap.size ≤ k ∧ k < w5.heap.size) := fun k hk => HO.out.lt k hk
      clear hb HBx HO hge
      have cau0 := Bau4.out.c 0 rfl
      have cau1 := Bau4.out.c 1 rfl
      have cau2 := Bau4.out.c 2 rfl
      have cau3 := Bau4.out.c 3 rfl
      have cau4 := Bau4.out.c 4 rfl
      have caf0 := Baf4.out.c 0 rfl
      have caf1 := Baf4.out.c 1 rfl
      have caf2 := Baf4.out.c 2 rfl
      have caf3 := Baf4.out.c 3 rfl
      go_upto_region 9 with fail
      go_cut [8, 9] (fun p q wx => Fin w5 a0x0 n' y' r' o' pk p q wx)
      case first =>
        go_region_held3 (fun w' => w'.cell? ⟨w.heap.size, 0, none⟩ = some (.int .i64 a0x0) ∧ w'.cell? ⟨w.heap.size, 1, none⟩ = some (.int .i64 a0x1) ∧ w'.cell? ⟨w.heap.size, 2, none⟩ = some (.bool a0x2) ∧ w'.cell? ⟨w.heap.size, 3, none⟩ = some (.string a0x3) ∧ w'.cell? ⟨w.heap.size, 4, none⟩ = some (.int .i64 a0x4) ∧ w'.cell? ⟨w.heap.size + 1, 0, none⟩ = some (.int .i64 a1x0) ∧ w'.cell? ⟨w.heap.size + 1, 1, none⟩ = some (.int .i64 a1x1) ∧ w'.cell? ⟨w.heap.size + 1, 2, none⟩ = some (.int .i64 a1x2) ∧ w'.cell? ⟨w.heap.size + 1, 3, none⟩ = some (.string a1x3)) (exact keep54 Bau4.out Baf4.out (by repeat (first | with_reducible exact hb5 | with_reducible exact hb4 | with_reducible exact hb3 | exact Below.refl _ _ | with_reducible refine Below.drew ?_ | with_reducible refine Below.alloc ?_ (by first | exact Nat.le_refl _ | omega | (simp; done) | (simp; omega)) _ | with_reducible refine Below.setCell ?_ (by first | omega | (simp; done) | (simp; omega)) _))) (first | (go_at_call 32; refine (l_toUnpacker _ _ _ _ _ _).mono ?_; rintro e w6 ⟨rfl, hbr⟩; (first | (have zp := zp_new hbr) | (have zp := zp_newd hbr) | (have zp := zp_old zb.out hbr) | (have zp := zp_oldd zb.out hbr) | skip); (first | (replace zb := hide zp.1) | (have zb := hide zp.1) | skip); have hb3 : Below w5.heap.size w5 w6 := below_trans (by repeat (first | with_reducible exact hb5 | with_reducible exact hb4 | with_reducible exact hb3 | exact Below.refl _ _ | with_reducible refine Below.drew ?_ | with_reducible refine Below.alloc ?_ (by first | exact Nat.le_refl _ | omega | (simp; done) | (simp; omega)) _ | with_reducible refine Below.setCell ?_ (by first | omega | (simp; done) | (simp; omega)) _)) hbr; have hs3 := hb3.size; clear hbr) | (go_at_call 33; refine (l_toFrame _ _ _ _ _).mono ?_; rintro e w7 ⟨rfl, hbr⟩; (first | (have zp := zp_new hbr) | (have zp := zp_newd hbr) | (have zp := zp_old zb.out hbr) | (have zp := zp_oldd zb.out hbr) | skip); (first | (replace zb := hide zp.1) | (have zb := hide zp.1) | skip); have hb4 : Below w5.heap.size w5 w7 := below_trans (by repeat (first | with_reducible exact hb5 | with_reducible exact hb4 | with_reducible exact hb3 | exact Below.refl _ _ | with_reducible refine Below.drew ?_ | with_reducible refine Below.alloc ?_ (by first | exact Nat.le_refl _ | omega | (simp; done) | (simp; omega)) _ | with_reducible refine Below.setCell ?_ (by first | omega | (simp; done) | (simp; omega)) _)) hbr; have hs4 := hb4.size; clear hbr) | (go_at_call 34; refine (i_Push_is _ _ _ _ _ _ _ _ _ _ _ _ _ _ _ (by omega) (by omega) TU.out TP.out).mono ?_; rintro e w8 ⟨v5, rfl, ho5, hbr⟩; obtain ⟨A5, c5, rfl⟩ := own_form ho5; have hb5 : Below w5.heap.size w5 w8 := below_trans (by repeat (first | with_reducible exact hb5 | with_reducible exact hb4 | with_reducible exact hb3 | exact Below.refl _ _ | with_reducible refine Below.drew ?_ | with_reducible refine Below.alloc ?_ (by first | exact Nat.le_refl _ | omega | (simp; done) | (simp; omega)) _ | with_reducible refine Below.setCell ?_ (by first | omega | (simp; done) | (simp; omega)) _)) hbr; have hs5 := hb5.size; (first | (have zp := zp_new hbr) | (have zp := zp_newd hbr) | (have zp := zp_old zb.out hbr) | (have zp := zp_oldd zb.out hbr) | skip); (first | (replace zb := hide zp.1) | (have zb := hide zp.1) | skip); (first | (have D5 := hide (zne_of ho5 zp.2)) | skip); (first | (have z0 := zb.out.c 0 rfl; have z1 := zb.out.c 1 rfl; have z2 := zb.out.c 2 rfl; have z3 := zb.out.c 3 rfl; have z4 := zb.out.c 4 rfl; have zf0 := zb.out.f 0 (by simp); have zf1 := zb.out.f 1 (by simp); have zf2 := zb.out.f 2 (by simp); have zf3 := zb.out.f 3 (by simp); have zf4 := zb.out.f 4 (by simp)) | skip); replace ho5 := hide (own_mono ho5 (size_of (w := w5) (by repeat (first | with_reducible exact hb5 | with_reducible exact hb4 | with_reducible exact hb3 | exact Below.refl _ _ | with_reducible refine Below.drew ?_ | with_reducible refine Below.alloc ?_ (by first | exact Nat.le_refl _ | omega | (simp; done) | (simp; omega)) _ | with_reducible refine Below.setCell ?_ (by first | omega | (simp; done) | (simp; omega)) _)))); clear hbr))
        all_goals (go_wp2_with fail; go_meet; first | with_reducible exact fin_new ho5.out hb5 | with_reducible exact fin_set zb.out D5.out ho5.out hb5 (by omega))
      case rest =>
        obtain ⟨gg, Ag, cg, hp, hq, HBx, HO, HB, hge, HNEg⟩ := hcut
        subst hp
        subst hq
        generalize wc = w8 at *
        have hb := HB.out
        clear HB
        clear cau0 cau1 cau2 cau3 cau4 caf0 caf1 caf2 caf3
        have Z5 : Hid (w5.heap.size ≤ w8.heap.size) := hb.size
        have BB5 := hide (BB4.out.trans (hb.mono BB4.out.size))
        have Bau5 := hide (Bau4.out.below hb)
        have Baf5 := hide (Baf4.out.below hb)
        have Bw5 := hide (Bw4.out.below hb)
        have Rw5 := hide (own_below Rw4.out hb)
        clear BB4 Bau4 Baf4 Bw4 Rw4
        have Yg : Hid (gg < w8.heap.size) := HBx.out.1
        have Xg : Hid (w5.heap.size ≤ gg) := hge
        have Bg5 := HBx
        have Rg5 := hide HO.out
        have Dg : Hid (∀ k, (Value.slice Ag pk.length cg).ownBlock = some k → w5.heap.size ≤ k ∧ k < w8.heap.size) := fun k hk => HO.out.lt k hk
        clear hb HBx HO hge
        have cg0 := Bg5.out.c 0 rfl
        have cg1 := Bg5.out.c 1 rfl
        have cg2 := Bg5.out.c 2 rfl
        have cg3 := Bg5.out.c 3 rfl
        have cg4 := Bg5.out.c 4 rfl
        have cw0 := Bw5.out.c 0 rfl
        have cw1 := Bw5.out.c 1 rfl
        have cw2 := Bw5.out.c 2 rfl
        have cw3 := Bw5.out.c 3 rfl
        have cw4 := Bw5.out.c 4 rfl
        go_wp2_with fail
        refine (l_eqUnpacker _ _ _ _ _ _).mono ?_
        rintro e w9 ⟨rfl, hb⟩
        clear cg0 cg1 cg2 cg3 cg4 cw0 cw1 cw2 cw3 cw4
        have Z6 : Hid (w8.heap.size ≤ w9.heap.size) := hb.size
        have BB6 := hide (BB5.out.trans (hb.mono BB5.out.size))
        have Bau6 := hide (Bau5.out.below hb)
        have Baf6 := hide (Baf5.out.below hb)
        have Bw6 := hide (Bw5.out.below hb)
        have Bg6 := hide (Bg5.out.below hb)
        have Rw6 := hide (own_below Rw5.out hb)
        have Rg6 := hide (own_below Rg5.out hb)
        clear BB5 Bau5 Baf5 Bw5 Bg5 Rw5 Rg5
        clear hb
        go_wp2_with fail
        refine (l_eqPacketS _ _ _ _ pk _ Rg6.out Rw6.out (by omega)).mono ?_
        rintro e w10 ⟨rfl, hb⟩
        have Z7 : Hid (w9.heap.size ≤ w10.heap.size) := hb.size
        have BB7 := hide (BB6.out.trans (hb.mono BB6.out.size))
        have Bau7 := hide (Bau6.out.below hb)
        have Baf7 := hide (Baf6.out.below hb)
        have Bw7 := hide (Bw6.out.below hb)
        have Bg7 := hide (Bg6.out.below hb)
        have Rw7 := hide (own_below Rw6.out hb)
        have Rg7 := hide (own_below Rg6.out hb)
        clear BB6 Bau6 Baf6 Bw6 Bg6 Rw6 Rg6
        clear hb
        go_wp2_with fail
        refine (l_markPacketS w5.heap.size pk.length 1 _ (Pks pk) _ Rg7.out (by omega) (by omega) (by have := Z1.out; have := Yau.out; have := Yaf.out; have := Z2.out; have := Z3.out; have := Z4.out; have := Yw.out; have := Xw.out; have := Z5.out; have := Yg.out; have := Xg.out; have := Z6.out; have := Z7.out; omega)).mono ?_
        rintro e w11 ⟨rfl, ho, hb⟩
        have Z8 : Hid (w10.heap.size ≤ w11.heap.size) := hb.size
        have BB8 := hide (BB7.out.trans (hb.mono (by have := BB7.out.size; have := Z1.out; have := Yau.out; have := Yaf.out; have := Z2.out; have := Z3.out; have := Z4.out; have := Yw.out; have := Xw.out; have := Z5.out; have := Yg.out; have := Xg.out; have := Z6.out; have := Z7.out; omega)))
        have Bau8 := hide (Bau7.out.belowM (by have := Z1.out; have := Yau.out; have := Yaf.out; have := Z2.out; have := Z3.out; have := Z4.out; have := Yw.out; have := Xw.out; have := Z5.out; have := Yg.out; have := Xg.out; have := Z6.out; have := Z7.out; omega) hb)
        have Baf8 := hide (Baf7.out.belowM (by have := Z1.out; have := Yau.out; have := Yaf.out; have := Z2.out; have := Z3.out; have := Z4.out; have := Yw.out; have := Xw.out; have := Z5.out; have := Yg.out; have := Xg.out; have := Z6.out; have := Z7.out; omega) hb)
        have Bw8 := hide (Bw7.out.belowM (by have := Z1.out; have := Yau.out; have := Yaf.out; have := Z2.out; have := Z3.out; have := Z4.out; have := Yw.out; have := Xw.out; have := Z5.out; have := Yg.out; have := Xg.out; have := Z6.out; have := Z7.out; omega) hb)
        have Rw8 := hide (own_belowM Rw7.out (by intro k hk; have h2 := Dw.out _ hk; have := Z1.out; have := Yau.out; have := Yaf.out; have := Z2.out; have := Z3.out; have := Z4.out; have := Yw.out; have := Xw.out; have := Z5.out; have := Yg.out; have := Xg.out; have := Z6.out; have := Z7.out; omega) hb)
        have Rg8 := hide ho
        clear ho hb
        clear BB7 Bau7 Baf7 Bw7 Bg7 Rw7 Rg7
        go_wp2_with fail
        refine (l_heldPacketS _ pk.length 1 _ _ Rg8.out (by omega) (by omega)).mono ?_
        rintro e w12 ⟨rfl, hb⟩
        have Z9 : Hid (w11.heap.size ≤ w12.heap.size) := hb.size
        have BB9 := hide (BB8.out.trans (hb.mono BB8.out.size))
        have Bau9 := hide (Bau8.out.below hb)
        have Baf9 := hide (Baf8.out.below hb)
        have Bw9 := hide (Bw8.out.below hb)
        have Rw9 := hide (own_below Rw8.out hb)
        have Rg9 := hide (own_below Rg8.out hb)
        clear BB8 Bau8 Baf8 Bw8 Rw8 Rg8
        clear hb
        have q0 : decide (((1 + pk.length * 3 : Nat) : Int) < 0) = false := decide_eq_false (by omega)
        have cau0 := Bau9.out.c 0 rfl
        have cau1 := Bau9.out.c 1 rfl
        have cau2 := Bau9.out.c 2 rfl
        have cau3 := Bau9.out.c 3 rfl
        have cau4 := Bau9.out.c 4 rfl
        have caf0 := Baf9.out.c 0 rfl
        have caf1 := Baf9.out.c 1 rfl
        have caf2 := Baf9.out.c 2 rfl
        have caf3 := Baf9.out.c 3 rfl
        go_upto_region 20 with fail
        go_cut [12, 13] (fun p q wx => Fin w12 a0x0 n' y' r' o' pk p q wx)
        case first =>
          go_region_held3 (fun w' => w'.cell? ⟨w.heap.size, 0, none⟩ = some (.int .i64 a0x0) ∧ w'.cell? ⟨w.heap.size, 1, none⟩ = some (.int .i64 a0x1) ∧ w'.cell? ⟨w.heap.size, 2, none⟩ = some (.bool a0x2) ∧ w'.cell? ⟨w.heap.size, 3, none⟩ = some (.string a0x3) ∧ w'.cell? ⟨w.heap.size, 4, none⟩ = some (.int .i64 a0x4) ∧ w'.cell? ⟨w.heap.size + 1, 0, none⟩ = some (.int .i64 a1x0) ∧ w'.cell? ⟨w.heap.size + 1, 1, none⟩ = some (.int .i64 a1x1) ∧ w'.cell? ⟨w.heap.size + 1, 2, none⟩ = some (.int .i64 a1x2) ∧ w'.cell? ⟨w.heap.size + 1, 3, none⟩ = some (.string a1x3)) (exact keep54 Bau9.out Baf9.out (by repeat (first | with_reducible exact hb5 | with_reducible exact hb4 | with_reducible exact hb3 | exact Below.refl _ _ | with_reducible refine Below.drew ?_ | with_reducible refine Below.alloc ?_ (by first | exact Nat.le_refl _ | omega | (simp; done) | (simp; omega)) _ | with_reducible refine Below.setCell ?_ (by first | omega | (simp; done) | (simp; omega)) _))) (first | (go_at_call 32; refine (l_toUnpacker _ _ _ _ _ _).mono ?_; rintro e w13 ⟨rfl, hbr⟩; (first | (have zp := zp_new hbr) | (have zp := zp_newd hbr) | (have zp := zp_old zb.out hbr) | (have zp := zp_oldd zb.out hbr) | skip); (first | (replace zb := hide zp.1) | (have zb := hide zp.1) | skip); have hb3 : Below w12.heap.size w12 w13 := below_trans (by repeat (first | with_reducible exact hb5 | with_reducible exact hb4 | with_reducible exact hb3 | exact Below.refl _ _ | with_reducible refine Below.drew ?_ | with_reducible refine Below.alloc ?_ (by first | exact Nat.le_refl _ | omega | (simp; done) | (simp; omega)) _ | with_reducible refine Below.setCell ?_ (by first | omega | (simp; done) | (simp; omega)) _)) hbr; have hs3 := hb3.size; clear hbr) | (go_at_call 33; refine (l_toFrame _ _ _ _ _).mono ?_; rintro e w14 ⟨rfl, hbr⟩; (first | (have zp := zp_new hbr) | (have zp := zp_newd hbr) | (have zp := zp_old zb.out hbr) | (have zp := zp_oldd zb.out hbr) | skip); (first | (replace zb := hide zp.1) | (have zb := hide zp.1) | skip); have hb4 : Below w12.heap.size w12 w14 := below_trans (by repeat (first | with_reducible exact hb5 | with_reducible exact hb4 | with_reducible exact hb3 | exact Below.refl _ _ | with_reducible refine Below.drew ?_ | with_reducible refine Below.alloc ?_ (by first | exact Nat.le_refl _ | omega | (simp; done) | (simp; omega)) _ | with_reducible refine Below.setCell ?_ (by first | omega | (simp; done) | (simp; omega)) _)) hbr; have hs4 := hb4.size; clear hbr) | (go_at_call 34; refine (i_Push_is _ _ _ _ _ _ _ _ _ _ _ _ _ _ _ (by omega) (by omega) TU.out TP.out).mono ?_; rintro e w15 ⟨v5, rfl, ho5, hbr⟩; obtain ⟨A5, c5, rfl⟩ := own_form ho5; have hb5 : Below w12.heap.size w12 w15 := below_trans (by repeat (first | with_reducible exact hb5 | with_reducible exact hb4 | with_reducible exact hb3 | exact Below.refl _ _ | with_reducible refine Below.drew ?_ | with_reducible refine Below.alloc ?_ (by first | exact Nat.le_refl _ | omega | (simp; done) | (simp; omega)) _ | with_reducible refine Below.setCell ?_ (by first | omega | (simp; done) | (simp; omega)) _)) hbr; have hs5 := hb5.size; (first | (have zp := zp_new hbr) | (have zp := zp_newd hbr) | (have zp := zp_old zb.out hbr) | (have zp := zp_oldd zb.out hbr) | skip); (first | (replace zb := hide zp.1) | (have zb := hide zp.1) | skip); (first | (have D5 := hide (zne_of ho5 zp.2)) | skip); (first | (have z0 := zb.out.c 0 rfl; have z1 := zb.out.c 1 rfl; have z2 := zb.out.c 2 rfl; have z3 := zb.out.c 3 rfl; have z4 := zb.out.c 4 rfl; have zf0 := zb.out.f 0 (by simp); have zf1 := zb.out.f 1 (by simp); have zf2 := zb.out.f 2 (by simp); have zf3 := zb.out.f 3 (by simp); have zf4 := zb.out.f 4 (by simp)) | skip); replace ho5 := hide (own_mono ho5 (size_of (w := w12) (by repeat (first | with_reducible exact hb5 | with_reducible exact hb4 | with_reducible exact hb3 | exact Below.refl _ _ | with_reducible refine Below.drew ?_ | with_reducible refine Below.alloc ?_ (by first | exact Nat.le_refl _ | omega | (simp; done) | (simp; omega)) _ | with_reducible refine Below.setCell ?_ (by first | omega | (simp; done) | (simp; omega)) _)))); clear hbr))
          all_goals (go_wp2_with fail; go_meet; first | with_reducible exact fin_new ho5.out hb5 | with_reducible exact fin_set zb.out D5.out ho5.out hb5 (by omega))
        case rest =>
          obtain ⟨gk, Ak, ck, hp, hq, HBx, HO, HB, hge, HNEk⟩ := hcut
          subst hp
          subst hq
          generalize wc = w15 at *
          have hb := HB.out
          clear HB
          clear cau0 cau1 cau2 cau3 cau4 caf0 caf1 caf2 caf3
          have Z10 : Hid (w12.heap.size ≤ w15.heap.size) := hb.size
          have BB10 := hide (BB9.out.trans (hb.mono BB9.out.size))
          have Bau10 := hide (Bau9.out.below hb)
          have Baf10 := hide (Baf9.out.below hb)
          have Bw10 := hide (Bw9.out.below hb)
          have Rw10 := hide (own_below Rw9.out hb)
          have Rg10 := hide (own_below Rg9.out hb)
          clear BB9 Bau9 Baf9 Bw9 Rw9 Rg9
          have Yk : Hid (gk < w15.heap.size) := HBx.out.1
          have Xk : Hid (w12.heap.size ≤ gk) := hge
          have Bk10 := HBx
          have Rk10 := hide HO.out
          have Dk : Hid (∀ k, (Value.slice Ak pk.length ck).ownBlock = some k → w12.heap.size ≤ k ∧ k < w15.heap.size) := fun k hk => HO.out.lt k hk
          clear hb HBx HO hge
          have ck0 := Bk10.out.c 0 rfl
          have ck1 := Bk10.out.c 1 rfl
          have ck2 := Bk10.out.c 2 rfl
          have ck3 := Bk10.out.c 3 rfl
          have ck4 := Bk10.out.c 4 rfl
          have cw0 := Bw10.out.c 0 rfl
          have cw1 := Bw10.out.c 1 rfl
          have cw2 := Bw10.out.c 2 rfl
          have cw3 := Bw10.out.c 3 rfl
          have cw4 := Bw10.out.c 4 rfl
          go_wp2_with fail
          refine (l_eqUnpacker _ _ _ _ _ _).mono ?_
          rintro e w16 ⟨rfl, hb⟩
          clear ck0 ck1 ck2 ck3 ck4 cw0 cw1 cw2 cw3 cw4
          have Z11 : Hid (w15.heap.size ≤ w16.heap.size) := hb.size
          have BB11 := hide (BB10.out.trans (hb.mono BB10.out.size))
          have Bau11 := hide (Bau10.out.below hb)
          have Baf11 := hide (Baf10.out.below hb)
          have Bw11 := hide (Bw10.out.below hb)
          have Bk11 := hide (Bk10.out.below hb)
          have Rw11 := hide (own_below Rw10.out hb)
          have Rg11 := hide (own_below Rg10.out hb)
          have Rk11 := hide (own_below Rk10.out hb)
          clear BB10 Bau10 Baf10 Bw10 Bk10 Rw10 Rg10 Rk10
          clear hb
          go_wp2_with fail
          refine (l_eqPacketS _ _ _ _ pk _ Rk11.out Rw11.out (by omega)).mono ?_
          rintro e w17 ⟨rfl, hb⟩
          have Z12 : Hid (w16.heap.size ≤ w17.heap.size) := hb.size
          have BB12 := hide (BB11.out.trans (hb.mono BB11.out.size))
          have Bau12 := hide (Bau11.out.below hb)
          have Baf12 := hide (Baf11.out.below hb)
          have Bw12 := hide (Bw11.out.below hb)
          have Bk12 := hide (Bk11.out.below hb)
          have Rw12 := hide (own_below Rw11.out hb)
          have Rg12 := hide (own_below Rg11.out hb)
          have Rk12 := hide (own_below Rk11.out hb)
          clear BB11 Bau11 Baf11 Bw11 Bk11 Rw11 Rg11 Rk11
          clear hb
          go_wp2_with fail
          refine (l_heldPacketS _ pk.length 1 _ _ Rg12.out (by omega) (by omega)).mono ?_
          rintro e w18 ⟨rfl, hb⟩
          have Z13 : Hid (w17.heap.size ≤ w18.heap.size) := hb.size
          have BB13 := hide (BB12.out.trans (hb.mono BB12.out.size))
          have Bau13 := hide (Bau12.out.below hb)
          have Baf13 := hide (Baf12.out.below hb)
          have Bw13 := hide (Bw12.out.below hb)
          have Bk13 := hide (Bk12.out.below hb)
          have Rw13 := hide (own_below Rw12.out hb)
          have Rg13 := hide (own_below Rg12.out hb)
          have Rk13 := hide (own_below Rk12.out hb)
          clear BB12 Bau12 Baf12 Bw12 Bk12 Rw12 Rg12 Rk12
          clear hb
          go_wp2_with fail
          go_ret
          exact ⟨rfl, BB13.out⟩
set_option maxRecDepth 100000 in
theorem lifted (os : Os) (started : os.Started) (H : Type) (enc : TypeId × Value → H) :
    ReturnsInHanded {} Try.checked os 7 .any (Rows.fnExactPushFrameSpec.pre6 enc Try.prog Try.f7 Rows.fnExactPushFrameRow.domain false) (Rows.fnExactPushFrameSpec.post enc Try.prog Try.f7 false true false false) := by
  refine returnsInHanded_of_change (C := Try.checked) own started (by kernel_rfl) Try.func7
    (ChangeSpec.witness6 (enc := enc) (C := Try.checked) false ⟨#[], #[.agg #[.int .i64 0, .int .i64 0, .bool false, .string ByteArray.empty, .int .i64 0], .agg #[.int .i64 0, .int .i64 0, .int .i64 0, .string ByteArray.empty]], []⟩ 8 (by kernel_rfl) (by kernel_rfl) (by kernel_rfl) (by kernel_rfl)) ?_
  intro W base args ds gs before hval0 hW hcnd _
  have hval : ∀ (j : Nat) t v, Try.f7.params[j]? = some t → args[j]? = some v → Value.okWide Try.prog W .any base t v := hval0
  have hW' := hW
  obtain ⟨p, q, hA0, hV, rfl, hfz, hnd⟩ := hW
  have hA : DataW.TrodAll enc Try.prog W 0 (fun _ => true) true Try.f7.params.toList args.toList ds p := hA0
  rw [Try.params7] at hA hval
  obtain ⟨v0, vs0, d0, ds0, p0, q0, hargs, rfl, rfl, h0, r0⟩ := trodAll_cons hA
  obtain ⟨v1, vs1, d1, ds1, p1, q1, rfl, rfl, rfl, h1, r1⟩ := trodAll_cons r0
  obtain ⟨rfl, rfl, rfl⟩ := trodAll_nil r1
  obtain rfl : args = #[v0, v1] := by cases args; simp_all
  obtain ⟨rfl, rfl⟩ := trodVars_none hV
  have k0 := h0
  have lt0 : ∀ x ∈ p0, x.block < W.heap.size := by obtain ⟨m, hm⟩ := k0; exact DataW.trod_lt m _ _ _ hm
  obtain ⟨v0x0, v0x1, v0x2, v0x3, v0x4, y0x0, y0x1, y0x2, y0x3, y0x4, n0, rfl, rfl, rfl, f0x0, f0x1, f0x2, f0x3, f0x4⟩ := open_agg5_ Try.underlying51 (by kernel_rfl) (by kernel_rfl) (hval 0 51 v0 rfl rfl) h0
  obtain ⟨a0x0, rfl, b0x0⟩ := field_int Try.underlying3 f0x0
  obtain ⟨a0x1, rfl, b0x1⟩ := field_int Try.underlying3 f0x1
  obtain ⟨a0x2, rfl, b0x2⟩ := field_bool Try.underlying4 f0x2
  obtain ⟨a0x3, rfl, b0x3⟩ := field_string Try.underlying9 f0x3
  obtain ⟨a0x4, rfl, b0x4⟩ := field_int Try.underlying3 f0x4
  have k1 := h1
  have lt1 : ∀ x ∈ p1, x.block < W.heap.size := by obtain ⟨m, hm⟩ := k1; exact DataW.trod_lt m _ _ _ hm
  obtain ⟨v1x0, v1x1, v1x2, v1x3, y1x0, y1x1, y1x2, y1x3, n1, rfl, rfl, rfl, f1x0, f1x1, f1x2, f1x3⟩ := open_agg4_ Try.underlying52 (by kernel_rfl) (by kernel_rfl) (hval 1 52 v1 rfl rfl) h1
  obtain ⟨a1x0, rfl, b1x0⟩ := field_int Try.underlying3 f1x0
  obtain ⟨a1x1, rfl, b1x1⟩ := field_int Try.underlying3 f1x1
  obtain ⟨a1x2, rfl, b1x2⟩ := field_int Try.underlying3 f1x2
  obtain ⟨a1x3, rfl, b1x3⟩ := field_string Try.underlying9 f1x3
  clear hA0 hval0
  refine (walk a0x0 (bounds_i64 b0x0).1 (bounds_i64 b0x0).2 a0x1 (bounds_i64 b0x1).1 (bounds_i64 b0x1).2 a0x2 a0x3 b0x3 a0x4 (bounds_i64 b0x4).1 (bounds_i64 b0x4).2 a1x0 (bounds_i64 b1x0).1 (bounds_i64 b1x0).2 a1x1 (bounds_i64 b1x1).1 (bounds_i64 b1x1).2 a1x2 (bounds_i64 b1x2).1 (bounds_i64 b1x2).2 a1x3 b1x3 W).mono fun e W' ⟨he, bel⟩ => ?_
  subst he
  exact ⟨_, rfl, _, _, _, [], _, [], hW', trodAll_mk1 (shut_bool Try.underlying4 _), (trodAll_cons_mk (Below.trod laidOut (by kernel_rfl) (of_decide_eq_true (by kernel_rfl)) k0 bel lt0) (trodAll_cons_mk (Below.trod laidOut (by kernel_rfl) (of_decide_eq_true (by kernel_rfl)) k1 bel lt1) trodAll_mk0)), rfl, bel.frame _, fun h => by cases h⟩
theorem closed : joinedFacts Try.prog 7 Try.f7 Rows.fnExactPushFrameSpec Rows.fnExactPushFrameRow = true :=
  joined_of (by as_aux_lemma => kernel_rfl) laidOut mapsRowed_ (by as_aux_lemma => kernel_rfl) (by as_aux_lemma => kernel_rfl) (by kernel_rfl) (by as_aux_lemma => kernel_rfl) (by kernel_rfl) (by as_aux_lemma => kernel_rfl)
    (by as_aux_lemma => kernel_rfl) (by as_aux_lemma => kernel_rfl) (by as_aux_lemma => kernel_rfl) (by as_aux_lemma => kernel_rfl) (by as_aux_lemma => kernel_rfl) (by as_aux_lemma => kernel_rfl) (by as_aux_lemma => kernel_rfl) (by as_aux_lemma => kernel_rfl) (by as_aux_lemma => kernel_rfl) (by as_aux_lemma => kernel_rfl)
    (by as_aux_lemma => kernel_rfl) (by as_aux_lemma => kernel_rfl) (by as_aux_lemma => kernel_rfl) (by as_aux_lemma => kernel_rfl) (by kernel_rfl) stopsHeard_ mayEnter_ (by rw [liftsFinal_]; kernel_rfl) (by rw [make_]; kernel_rfl) (by as_aux_lemma => kernel_rfl) (by kernel_rfl) (by as_aux_lemma => kernel_rfl) (by as_aux_lemma => kernel_rfl)
theorem over : Rows.fnExactPushFrameRow.holds Try.pinned (OpenSpec.ofChange Rows.fnExactPushFrameSpec) :=
  OpenClaim.holds_of_wide 7 Try.f7 rfl rfl rfl rfl rfl rfl rfl ⟨rfl, rfl, rfl, rfl, rfl⟩ rfl rfl rfl rfl rfl (by kernel_rfl) Try.func7 closed
    (of_decide_eq_true (by kernel_rfl)) (by unfold Func.isWrapper; first | (rw [if_pos (by decide +kernel)]; kernel_rfl) | (rw [if_neg (by decide +kernel)]; exact ⟨rfl, rfl⟩))
    (fun os started H enc _ => lifted os started H enc)
theorem proved : Rows.FnExactPushFrameSaid := over
#print axioms proved
end Go.Proofs.Ytnelfadmcpacbaa.fnExactPushFrame
