/- The program's PackPacket returns what the reference's returns, leaves the packer as it was and shares no memory with it, for all packers and packets of at most 2^20 bytes and starts together (greater ones the law lets pass). -/
import Derived.Test.YtnelfadmcpacbaaRowPack
import Derived.Test.YtnelfadmcpacbaaPckH
import Derived.Deep.DeepCutAuto
namespace Go.Proofs.Ytnelfadmcpacbaa.fnExactPackPacket
open Go.ChangeShapes Go.WideShapes Go.ChangeAt Go.RowKit Sat
open Go.ChangeMaps (open_string shut_string)
set_option linter.unusedVariables false
attribute [local go_sem ↓] Go.wp_at_zero Go.wp_at_succ

def Fin (w2 : World) (a b : Int) (r' : ByteArray) (l' : List Int) (ok : Bool) (p q : Value) (wx : World) : Prop := ∃ (g : Nat) (A5 : Option Addr) (c5 : Nat), p = .pointer (some ⟨g, 0, none⟩) ∧ q = .bool ok ∧ Hid (Box wx g [.int .i64 a, .int .i64 b, .string r', .slice A5 l'.length c5]) ∧ Hid (wx.ownsRow w2.heap.size 3 1 (.slice A5 l'.length c5) l'.length (Is l')) ∧ Hid (Below w2.heap.size w2 wx) ∧ w2.heap.size ≤ g ∧ Hid ((Value.slice A5 l'.length c5).ownBlock ≠ some g)
theorem keep43b {w w' : World} {g h : Nat} {a0 a1 a2 a3 b0 b1 b2 : Value} (x : Box w g [a0, a1, a2, a3]) (y : Box w h [b0, b1, b2]) (hb : Below w.heap.size w w') :
    w'.cell? ⟨g, 0, none⟩ = some a0 ∧ w'.cell? ⟨g, 1, none⟩ = some a1 ∧ w'.cell? ⟨g, 2, none⟩ = some a2 ∧ w'.cell? ⟨g, 3, none⟩ = some a3 ∧ w'.cell? ⟨h, 0, none⟩ = some b0 ∧ w'.cell? ⟨h, 1, none⟩ = some b1 ∧ w'.cell? ⟨h, 2, none⟩ = some b2 :=
  ⟨(x.below hb).c 0 rfl, (x.below hb).c 1 rfl, (x.below hb).c 2 rfl, (x.below hb).c 3 rfl, (y.below hb).c 0 rfl, (y.below hb).c 1 rfl, (y.below hb).c 2 rfl⟩
theorem zp_new {w w' : World} {o0 o1 o2 o3 : Value} {t : TypeId} (hb : Below (w.alloc (.cells #[o0, o1, o2, o3] t)).heap.size (w.alloc (.cells #[o0, o1, o2, o3] t)) w') : Box w' w.heap.size [o0, o1, o2, o3] ∧ w.heap.size < (w.alloc (.cells #[o0, o1, o2, o3] t)).heap.size := ⟨Box.below (Box.new w #[o0, o1, o2, o3] t) hb, by simp⟩
theorem zp_newd {w w' : World} {o0 o1 o2 o3 : Value} {t : TypeId} (hb : Below (w.alloc (.cells #[o0, o1, o2, o3] t)).drew.heap.size (w.alloc (.cells #[o0, o1, o2, o3] t)).drew w') : Box w' w.heap.size [o0, o1, o2, o3] ∧ w.heap.size < (w.alloc (.cells #[o0, o1, o2, o3] t)).drew.heap.size := zp_new (below_undrew (w := w.alloc (.cells #[o0, o1, o2, o3] t)) hb)
theorem zp_old {w w' : World} {g : Nat} {vs : List Value} (zb : Box w g vs) (hb : Below w.heap.size w w') : Box w' g vs ∧ g < w.heap.size := ⟨zb.below hb, zb.1⟩
theorem zp_oldd {w w' : World} {g : Nat} {vs : List Value} (zb : Box w g vs) (hb : Below w.drew.heap.size w.drew w') : Box w' g vs ∧ g < w.drew.heap.size := zp_old (w := w) zb (below_undrew (w := w) hb)
theorem zne_of {w : World} {B e size g : Nat} {v : Value} {n : Nat} {xs : List Value} (h : w.ownsRow B e size v n xs) (hg : g < B) : v.ownBlock ≠ some g := fun e => by have := (h.lt _ e).1; omega
theorem size_chain {w w4 Y : World} (h1 : Below w.heap.size w w4) (h2 : Below w4.heap.size w4 Y) : w.heap.size ≤ Y.heap.size := Nat.le_trans h1.size h2.size
theorem fin_new {w2 w5 : World} {a b : Int} {r' : ByteArray} {l' : List Int} {ok : Bool} {A5 : Option Addr} {c5 : Nat} (ho : w5.ownsRow w2.heap.size 3 1 (.slice A5 l'.length c5) l'.length (Is l')) (hb : Below w2.heap.size w2 w5) :
    Fin w2 a b r' l' ok (.pointer (some ⟨w5.heap.size, 0, none⟩)) (.bool ok) (w5.alloc (.cells #[.int .i64 a, .int .i64 b, .string r', .slice A5 l'.length c5] 27)) := by
  obtain ⟨hA, b1⟩ := entry1 w5 #[.int .i64 a, .int .i64 b, .string r', .slice A5 l'.length c5] 27
  exact ⟨_, A5, c5, rfl, rfl, b1, own_below ho hA, hb.trans (hA.mono hb.size), hb.size, fun e => by have := (ho.lt _ e).2; omega⟩
theorem fin_set {w2 w5 : World} {a b : Int} {r' : ByteArray} {l' : List Int} {ok : Bool} {A5 : Option Addr} {c5 g : Nat} {z0 z1 z2 z3 : Value} (hz : Box w5 g [z0, z1, z2, z3]) (hne : (Value.slice A5 l'.length c5).ownBlock ≠ some g) (ho : w5.ownsRow w2.heap.size 3 1 (.slice A5 l'.length c5) l'.length (Is l')) (hb : Below w2.heap.size w2 w5) (hg : w2.heap.size ≤ g) :
    Fin w2 a b r' l' ok (.pointer (some ⟨g, 0, none⟩)) (.bool ok) ((((w5.setCell ⟨g, 0, none⟩ (.int .i64 a)).setCell ⟨g, 1, none⟩ (.int .i64 b)).setCell ⟨g, 2, none⟩ (.string r')).setCell ⟨g, 3, none⟩ (.slice A5 l'.length c5)) := by
  refine ⟨g, A5, c5, rfl, rfl, ?_, ?_, ?_, hg, hne⟩
  · exact (((hz.setC 0 (by simp) _).setC 1 (by simp) _).setC 2 (by simp) _).setC 3 (by simp) _
  · exact own_set2 (own_set2 (own_set2 (own_set2 ho (p := ⟨g, 0, none⟩) hne _) (p := ⟨g, 1, none⟩) hne _) (p := ⟨g, 2, none⟩) hne _) (p := ⟨g, 3, none⟩) hne _
  · exact (((hb.setCell (p := ⟨g, 0, none⟩) hg _).setCell (p := ⟨g, 1, none⟩) hg _).setCell (p := ⟨g, 2, none⟩) hg _).setCell (p := ⟨g, 3, none⟩) hg _
set_option maxRecDepth 100000 in
set_option maxHeartbeats 6400000 in
theorem walk (a0x0 : Int) (l0x0 : -9223372036854775808 ≤ a0x0) (u0x0 : a0x0 ≤ 9223372036854775807) (a0x1 : Int) (l0x1 : -9223372036854775808 ≤ a0x1) (u0x1 : a0x1 ≤ 9223372036854775807) (a0x2 : ByteArray) (s0x2 : a0x2.size ≤ maxLen) (A : Option Addr) (n c : Nat) (l : List Int) (hn0 : n ≤ 9223372036854775807)
    (a1x0 : Int) (l1x0 : -9223372036854775808 ≤ a1x0) (u1x0 : a1x0 ≤ 9223372036854775807) (a1x1 : Int) (l1x1 : -9223372036854775808 ≤ a1x1) (u1x1 : a1x1 ≤ 9223372036854775807) (a1x2 : ByteArray) (s1x2 : a1x2.size ≤ maxLen) (w : World) (h : RI w A n l) :
    Calls Try.prog 4 #[.agg #[.int .i64 a0x0, .int .i64 a0x1, .string a0x2, .slice A n c], .agg #[.int .i64 a1x0, .int .i64 a1x1, .string a1x2]] w fun e w' => e = .returned (.bool true) ∧ Below w.heap.size w w' := by
  unfold maxLen at s0x2 s1x2
  obtain ⟨hn', h'⟩ := h
  subst hn'
  have h : RI w A l.length l := ⟨rfl, h'⟩
  have H := hide h
  clear h'
  clear h
  by_cases hbig : 1048576 < a0x2.size + l.length
  · go_enter Try.func4, Try.ntmps4
    go_wp2_with fail
    refine (l_szPacker_big _ _ _ _ _ _ _ _ (by omega) (by omega) (by omega) (by omega) (by omega)).mono ?_
    rintro e w1 ⟨rfl, hb⟩
    have hb' := (entry2 w #[.int .i64 a0x0, .int .i64 a0x1, .string a0x2, .slice A l.length c] #[.int .i64 a1x0, .int .i64 a1x1, .string a1x2] 24 32).1
    have HB := hide (hb'.trans (hb.mono hb'.size))
    clear hb hb'
    go_wp2_with fail
    go_ret
    exact ⟨rfl, HB.out⟩
  by_cases hbig2 : 1048576 < a0x2.size + l.length + a1x2.size
  · go_enter Try.func4, Try.ntmps4
    go_wp2_with fail
    obtain ⟨hA, b1, b2⟩ := entry2 w #[.int .i64 a0x0, .int .i64 a0x1, .string a0x2, .slice A l.length c] #[.int .i64 a1x0, .int .i64 a1x1, .string a1x2] 24 32
    have B2 : Hid (Box _ (w.heap.size + 1) [.int .i64 a1x0, .int .i64 a1x1, .string a1x2]) := b2
    have HA := hide hA
    clear hA b1 b2
    refine (l_szPacker_no _ _ _ _ _ _ _ _ (by omega) (by omega) (by omega) (by omega)).mono ?_
    rintro e w1 ⟨rfl, hb⟩
    have B3 := hide (B2.out.below hb)
    have HB := hide (HA.out.trans (hb.mono HA.out.size))
    have x0 := B3.out.c 0 rfl
    have x1 := B3.out.c 1 rfl
    have x2 := B3.out.c 2 rfl
    clear hb B2 HA
    go_wp2_with fail
    refine (l_szPacket_big _ _ _ _ _ (by omega) (by omega) (by omega) (by omega)).mono ?_
    rintro e w2 ⟨rfl, hb⟩
    replace HB := hide (HB.out.trans (hb.mono HB.out.size))
    clear hb
    go_wp2_with fail
    go_ret
    exact ⟨rfl, HB.out⟩
  · have hsm : a0x2.size + l.length + a1x2.size ≤ 1048576 := by omega
    have hn : l.length ≤ 1048576 := by omega
    clear hbig hbig2
    have hpl := ppP_len a0x0 a0x1 a0x2 l a1x0 a1x1 a1x2 hn
    obtain ⟨P, hP⟩ : ∃ P, ppP a0x0 a0x1 a0x2 l a1x0 a1x1 a1x2 = P := ⟨_, rfl⟩
    obtain ⟨ok, hO⟩ : ∃ ok, ppOk a0x0 a0x1 a0x2 l a1x0 a1x1 a1x2 = ok := ⟨_, rfl⟩
    rw [hP] at hpl
    obtain ⟨r', l'⟩ := P
    have hn' : l'.length ≤ 1048576 := hpl
    have TP := hide hP
    have TO := hide hO
    clear hP hO hpl
    go_enter Try.func4, Try.ntmps4
    go_wp2_with fail
    have BB0 := hide (Below.refl w.heap.size w)
    have RI0x := H
    clear H
    obtain ⟨hA, b1, b2⟩ := entry2 w #[.int .i64 a0x0, .int .i64 a0x1, .string a0x2, .slice A l.length c] #[.int .i64 a1x0, .int .i64 a1x1, .string a1x2] 24 32
    generalize ((w.alloc (.cells #[.int .i64 a0x0, .int .i64 a0x1, .string a0x2, .slice A l.length c] 24)).alloc (.cells #[.int .i64 a1x0, .int .i64 a1x1, .string a1x2] 32)) = W0 at *
    have Z1 : Hid (w.heap.size ≤ W0.heap.size) := hA.size
    have BB1 := hide (BB0.out.trans (hA.mono BB0.out.size))
    clear BB0
    have Yap : Hid (w.heap.size < W0.heap.size) := b1.1
    have Bap1 : Hid (Box W0 (w.heap.size) [.int .i64 a0x0, .int .i64 a0x1, .string a0x2, .slice A l.length c]) := b1
    have Yax : Hid (w.heap.size + 1 < W0.heap.size) := b2.1
    have Bax1 : Hid (Box W0 (w.heap.size + 1) [.int .i64 a1x0, .int .i64 a1x1, .string a1x2]) := b2
    clear hA b1 b2
    refine (l_szPacker_no _ _ _ _ _ _ _ _ (by omega) (by omega) (by omega) (by omega)).mono ?_
    rintro e w1 ⟨rfl, hb⟩
    have Z2 : Hid (W0.heap.size ≤ w1.heap.size) := hb.size
    have BB2 := hide (BB1.out.trans (hb.mono BB1.out.size))
    have Bap2 := hide (Bap1.out.below hb)
    have Bax2 := hide (Bax1.out.below hb)
    clear BB1 Bap1 Bax1
    clear hb
    have cax0 := Bax2.out.c 0 rfl
    have cax1 := Bax2.out.c 1 rfl
    have cax2 := Bax2.out.c 2 rfl
    go_wp2_with fail
    refine (l_szPacket_no _ _ _ _ _ (by omega) (by omega) (by omega) (by omega)).mono ?_
    rintro e w2 ⟨rfl, hb⟩
    clear cax0 cax1 cax2
    have Z3 : Hid (w1.heap.size ≤ w2.heap.size) := hb.size
    have BB3 := hide (BB2.out.trans (hb.mono BB2.out.size))
    have Bap3 := hide (Bap2.out.below hb)
    have Bax3 := hide (Bax2.out.below hb)
    clear BB2 Bap2 Bax2
    clear hb
    have cap0 := Bap3.out.c 0 rfl
    have cap1 := Bap3.out.c 1 rfl
    have cap2 := Bap3.out.c 2 rfl
    have cap3 := Bap3.out.c 3 rfl
    have cax0 := Bax3.out.c 0 rfl
    have cax1 := Bax3.out.c 1 rfl
    have cax2 := Bax3.out.c 2 rfl
    have RIc := hide (RI0x.out.below BB3.out)
    go_upto_region 8 with fail
    go_cut [6, 7] (fun p q wx => Fin w2 a0x0 a0x1 r' l' ok p q wx)
    case first =>
      go_region_held3 (fun w' => w'.cell? ⟨w.heap.size, 0, none⟩ = some (.int .i64 a0x0) ∧ w'.cell? ⟨w.heap.size, 1, none⟩ = some (.int .i64 a0x1) ∧ w'.cell? ⟨w.heap.size, 2, none⟩ = some (.string a0x2) ∧ w'.cell? ⟨w.heap.size, 3, none⟩ = some (.slice A l.length c) ∧ w'.cell? ⟨w.heap.size + 1, 0, none⟩ = some (.int .i64 a1x0) ∧ w'.cell? ⟨w.heap.size + 1, 1, none⟩ = some (.int .i64 a1x1) ∧ w'.cell? ⟨w.heap.size + 1, 2, none⟩ = some (.string a1x2)) (first | go_keep | exact keep43b Bap3.out Bax3.out (by repeat (first | with_reducible exact hb5 | with_reducible exact hb4 | with_reducible exact hb3 | exact Below.refl _ _ | with_reducible refine Below.drew ?_ | with_reducible refine Below.alloc ?_ (by first | exact Nat.le_refl _ | omega | (simp; done) | (simp; omega)) _ | with_reducible refine Below.setCell ?_ (by first | omega | (simp; done) | (simp; omega)) _))) (first | (go_at_call 12; refine (l_toPacker _ _ _ _ _ _ l _ (RIc.out.below (by repeat (first | with_reducible exact hb5 | with_reducible exact hb4 | with_reducible exact hb3 | exact Below.refl _ _ | with_reducible refine Below.drew ?_ | with_reducible refine Below.alloc ?_ (by first | exact Nat.le_refl _ | omega | (simp; done) | (simp; omega)) _ | with_reducible refine Below.setCell ?_ (by first | omega | (simp; done) | (simp; omega)) _))) hn).mono ?_; rintro e w3 ⟨v3, rfl, ho3, hbr⟩; obtain ⟨A3, c3, rfl⟩ := own_form ho3; have O3 := hide (RI.of_own ho3); have N3 := hide (own_nilc ho3); clear ho3; (first | (have zp := zp_new hbr) | (have zp := zp_newd hbr) | (have zp := zp_old zb.out hbr) | (have zp := zp_oldd zb.out hbr) | skip); (first | (replace zb := hide zp.1) | (have zb := hide zp.1) | skip); have hb3 : Below w2.heap.size w2 w3 := below_trans (by repeat (first | with_reducible exact hb5 | with_reducible exact hb4 | with_reducible exact hb3 | exact Below.refl _ _ | with_reducible refine Below.drew ?_ | with_reducible refine Below.alloc ?_ (by first | exact Nat.le_refl _ | omega | (simp; done) | (simp; omega)) _ | with_reducible refine Below.setCell ?_ (by first | omega | (simp; done) | (simp; omega)) _)) hbr; have hs3 := hb3.size; clear hbr) | (go_at_call 17; refine (l_toPacket _ _ _ _).mono ?_; rintro e w4 ⟨rfl, hbr⟩; (first | (have zp := zp_new hbr) | (have zp := zp_newd hbr) | (have zp := zp_old zb.out hbr) | (have zp := zp_oldd zb.out hbr) | skip); (first | (replace zb := hide zp.1) | (have zb := hide zp.1) | skip); have hc4 : Below w3.heap.size w3 w4 := below_trans (by repeat (first | with_reducible exact hc4 | exact Below.refl _ _ | with_reducible refine Below.drew ?_ | with_reducible refine Below.alloc ?_ (by first | exact Nat.le_refl _ | omega | (simp; done) | (simp; omega)) _ | with_reducible refine Below.setCell ?_ (by first | omega | (simp; done) | (simp; omega)) _)) hbr; have hb4 : Below w2.heap.size w2 w4 := below_trans hb3 hc4; have hs4 := hb4.size; have hs4c := hc4.size; have O4 := hide (O3.out.below hc4); clear hbr) | (go_at_call 16; refine (s_Pack_is _ _ _ _ _ _ l _ _ _ _ _ _ _ (O4.out.below (by repeat (first | with_reducible exact hc5 | exact Below.refl _ _ | with_reducible refine Below.drew ?_ | with_reducible refine Below.alloc ?_ (by first | exact Nat.le_refl _ | omega | (simp; done) | (simp; omega)) _ | with_reducible refine Below.setCell ?_ (by first | omega | (simp; done) | (simp; omega)) _))) N3.out hn (by omega) (by omega) TP.out TO.out).mono ?_; rintro e w5 ⟨v5, rfl, ho5, hbr⟩; obtain ⟨A5, c5, rfl⟩ := own_form ho5; have hc5 : Below w4.heap.size w4 w5 := below_trans (by repeat (first | with_reducible exact hc5 | exact Below.refl _ _ | with_reducible refine Below.drew ?_ | with_reducible refine Below.alloc ?_ (by first | exact Nat.le_refl _ | omega | (simp; done) | (simp; omega)) _ | with_reducible refine Below.setCell ?_ (by first | omega | (simp; done) | (simp; omega)) _)) hbr; have hb5 : Below w2.heap.size w2 w5 := below_trans hb4 hc5; have hs5 := hb5.size; have hs5c := hc5.size; (first | (have zp := zp_new hbr) | (have zp := zp_newd hbr) | (have zp := zp_old zb.out hbr) | (have zp := zp_oldd zb.out hbr) | skip); (first | (replace zb := hide zp.1) | (have zb := hide zp.1) | skip); (first | (have D5 := hide (zne_of ho5 zp.2)) | skip); (first | (have z0 := zb.out.c 0 rfl; have z1 := zb.out.c 1 rfl; have z2 := zb.out.c 2 rfl; have z3 := zb.out.c 3 rfl; have zf0 := zb.out.f 0 (by simp); have zf1 := zb.out.f 1 (by simp); have zf2 := zb.out.f 2 (by simp); have zf3 := zb.out.f 3 (by simp)) | skip); replace ho5 := hide (own_mono ho5 (size_chain hb4 (by repeat (first | with_reducible exact hc5 | exact Below.refl _ _ | with_reducible refine Below.drew ?_ | with_reducible refine Below.alloc ?_ (by first | exact Nat.le_refl _ | omega | (simp; done) | (simp; omega)) _ | with_reducible refine Below.setCell ?_ (by first | omega | (simp; done) | (simp; omega)) _)))); clear hbr))
      all_goals (go_wp2_with fail; go_meet; first | exact fin_new ho5.out hb5 | exact fin_set zb.out D5.out ho5.out hb5 (by omega))
    case rest =>
      clear RIc
      obtain ⟨gw, Aw, cw, hp, hq, HBx, HO, HB, hge, HNEw⟩ := hcut
      subst hp
      subst hq
      generalize wc = w5 at *
      have hb := HB.out
      clear HB
      clear cap0 cap1 cap2 cap3 cax0 cax1 cax2
      have Z4 : Hid (w2.heap.size ≤ w5.heap.size) := hb.size
      have BB4 := hide (BB3.out.trans (hb.mono BB3.out.size))
      have Bap4 := hide (Bap3.out.below hb)
      have Bax4 := hide (Bax3.out.below hb)
      clear BB3 Bap3 Bax3
      have Yw : Hid (gw < w5.heap.size) := HBx.out.1
      have Xw : Hid (w2.heap.size ≤ gw) := hge
      have Bw4 := HBx
      have Rw4 := hide HO.out
      have Dw : Hid (∀ k, (Value.slice Aw l'.length cw).ownBlock = some k → w2.heap.size ≤ k ∧ k < w5.heap.size) := fun k hk => HO.out.lt k hk
      clear hb HBx HO hge
      have cap0 := Bap4.out.c 0 rfl
      have cap1 := Bap4.out.c 1 rfl
      have cap2 := Bap4.out.c 2 rfl
      have cap3 := Bap4.out.c 3 rfl
      go_wp2_with fail
      refine (l_toPacker _ _ _ _ _ _ l _ (RI0x.out.below BB4.out) hn).mono ?_
      rintro e w7 ⟨vx, rfl, ho, hb⟩
      obtain ⟨Ax, cx, rfl⟩ := own_form ho
      clear cap0 cap1 cap2 cap3
      have Z5 : Hid (w5.heap.size ≤ w7.heap.size) := hb.size
      have BB5 := hide (BB4.out.trans (hb.mono BB4.out.size))
      have Bap5 := hide (Bap4.out.below hb)
      have Bax5 := hide (Bax4.out.below hb)
      have Bw5 := hide (Bw4.out.below hb)
      have Rw5 := hide (own_below Rw4.out hb)
      clear BB4 Bap4 Bax4 Bw4 Rw4
      have Rx5 := hide ho
      have Dx : Hid (∀ k, (Value.slice Ax l.length cx).ownBlock = some k → w5.heap.size ≤ k ∧ k < w7.heap.size) := fun k hk => ho.lt k hk
      clear ho hb
      go_wp2_with fail
      obtain ⟨hA, b1⟩ := entry1 w7 #[.int .i64 a0x0, .int .i64 a0x1, .string a0x2, .slice Ax l.length cx] 27
      generalize (w7.alloc (.cells #[.int .i64 a0x0, .int .i64 a0x1, .string a0x2, .slice Ax l.length cx] 27)) = W8 at *
      have Z6 : Hid (w7.heap.size ≤ W8.heap.size) := hA.size
      have BB6 := hide (BB5.out.trans (hA.mono BB5.out.size))
      have Bap6 := hide (Bap5.out.below hA)
      have Bax6 := hide (Bax5.out.below hA)
      have Bw6 := hide (Bw5.out.below hA)
      have Rw6 := hide (own_below Rw5.out hA)
      have Rx6 := hide (own_below Rx5.out hA)
      clear BB5 Bap5 Bax5 Bw5 Rw5 Rx5
      have Yx : Hid (w7.heap.size < W8.heap.size) := b1.1
      have Bx6 : Hid (Box W8 (w7.heap.size) [.int .i64 a0x0, .int .i64 a0x1, .string a0x2, .slice Ax l.length cx]) := b1
      clear hA b1
      have cx0 := Bx6.out.c 0 rfl
      have cx1 := Bx6.out.c 1 rfl
      have cx2 := Bx6.out.c 2 rfl
      have cx3 := Bx6.out.c 3 rfl
      have cax0 := Bax6.out.c 0 rfl
      have cax1 := Bax6.out.c 1 rfl
      have cax2 := Bax6.out.c 2 rfl
      go_upto_region 10 with fail
      go_cut [9, 10] (fun p q wx => Fin W8 a0x0 a0x1 r' l' ok p q wx)
      case first =>
        go_region_held3 (fun w' => w'.cell? ⟨w7.heap.size, 0, none⟩ = some (.int .i64 a0x0) ∧ w'.cell? ⟨w7.heap.size, 1, none⟩ = some (.int .i64 a0x1) ∧ w'.cell? ⟨w7.heap.size, 2, none⟩ = some (.string a0x2) ∧ w'.cell? ⟨w7.heap.size, 3, none⟩ = some (.slice Ax l.length cx) ∧ w'.cell? ⟨w.heap.size + 1, 0, none⟩ = some (.int .i64 a1x0) ∧ w'.cell? ⟨w.heap.size + 1, 1, none⟩ = some (.int .i64 a1x1) ∧ w'.cell? ⟨w.heap.size + 1, 2, none⟩ = some (.string a1x2)) (first | go_keep | exact keep43b Bx6.out Bax6.out (by repeat (first | with_reducible exact hb5 | with_reducible exact hb4 | exact Below.refl _ _ | with_reducible refine Below.drew ?_ | with_reducible refine Below.alloc ?_ (by first | exact Nat.le_refl _ | omega | (simp; done) | (simp; omega)) _ | with_reducible refine Below.setCell ?_ (by first | omega | (simp; done) | (simp; omega)) _))) (first | (go_at_call 17; refine (l_toPacket _ _ _ _).mono ?_; rintro e w9 ⟨rfl, hbr⟩; (first | (have zp := zp_new hbr) | (have zp := zp_newd hbr) | (have zp := zp_old zb.out hbr) | (have zp := zp_oldd zb.out hbr) | skip); (first | (replace zb := hide zp.1) | (have zb := hide zp.1) | skip); have hb4 : Below W8.heap.size W8 w9 := below_trans (by repeat (first | with_reducible exact hb5 | with_reducible exact hb4 | exact Below.refl _ _ | with_reducible refine Below.drew ?_ | with_reducible refine Below.alloc ?_ (by first | exact Nat.le_refl _ | omega | (simp; done) | (simp; omega)) _ | with_reducible refine Below.setCell ?_ (by first | omega | (simp; done) | (simp; omega)) _)) hbr; have hs4 := hb4.size; have O4 := hide (RI.of_own (own_below Rx6.out hb4)); clear hbr) | (go_at_call 18; refine (i_Pack_is _ _ _ _ _ _ l _ _ _ _ _ _ _ (O4.out.below (by repeat (first | with_reducible exact hc5 | exact Below.refl _ _ | with_reducible refine Below.drew ?_ | with_reducible refine Below.alloc ?_ (by first | exact Nat.le_refl _ | omega | (simp; done) | (simp; omega)) _ | with_reducible refine Below.setCell ?_ (by first | omega | (simp; done) | (simp; omega)) _))) hn (by omega) (by omega) TP.out TO.out).mono ?_; rintro e w10 ⟨v5, rfl, ho5, hbr⟩; obtain ⟨A5, c5, rfl⟩ := own_form ho5; have hc5 : Below w9.heap.size w9 w10 := below_trans (by repeat (first | with_reducible exact hc5 | exact Below.refl _ _ | with_reducible refine Below.drew ?_ | with_reducible refine Below.alloc ?_ (by first | exact Nat.le_refl _ | omega | (simp; done) | (simp; omega)) _ | with_reducible refine Below.setCell ?_ (by first | omega | (simp; done) | (simp; omega)) _)) hbr; have hb5 : Below W8.heap.size W8 w10 := below_trans hb4 hc5; have hs5 := hb5.size; have hs5c := hc5.size; (first | (have zp := zp_new hbr) | (have zp := zp_newd hbr) | (have zp := zp_old zb.out hbr) | (have zp := zp_oldd zb.out hbr) | skip); (first | (replace zb := hide zp.1) | (have zb := hide zp.1) | skip); (first | (have D5 := hide (zne_of ho5 zp.2)) | skip); (first | (have z0 := zb.out.c 0 rfl; have z1 := zb.out.c 1 rfl; have z2 := zb.out.c 2 rfl; have z3 := zb.out.c 3 rfl; have zf0 := zb.out.f 0 (by simp); have zf1 := zb.out.f 1 (by simp); have zf2 := zb.out.f 2 (by simp); have zf3 := zb.out.f 3 (by simp)) | skip); replace ho5 := hide (own_mono ho5 (size_chain hb4 (by repeat (first | with_reducible exact hc5 | exact Below.refl _ _ | with_reducible refine Below.drew ?_ | with_reducible refine Below.alloc ?_ (by first | exact Nat.le_refl _ | omega | (simp; done) | (simp; omega)) _ | with_reducible refine Below.setCell ?_ (by first | omega | (simp; done) | (simp; omega)) _)))); clear hbr))
        all_goals (go_wp2_with fail; go_meet; first | exact fin_new ho5.out hb5 | exact fin_set zb.out D5.out ho5.out hb5 (by omega))
      case rest =>
        obtain ⟨gg, Ag, cg, hp, hq, HBx, HO, HB, hge, HNEg⟩ := hcut
        subst hp
        subst hq
        generalize wc = w10 at *
        have hb := HB.out
        clear HB
        clear cx0 cx1 cx2 cx3 cax0 cax1 cax2
        have Z7 : Hid (W8.heap.size ≤ w10.heap.size) := hb.size
        have BB7 := hide (BB6.out.trans (hb.mono BB6.out.size))
        have Bap7 := hide (Bap6.out.below hb)
        have Bax7 := hide (Bax6.out.below hb)
        have Bw7 := hide (Bw6.out.below hb)
        have Bx7 := hide (Bx6.out.below hb)
        have Rw7 := hide (own_below Rw6.out hb)
        have Rx7 := hide (own_below Rx6.out hb)
        clear BB6 Bap6 Bax6 Bw6 Bx6 Rw6 Rx6
        have Yg : Hid (gg < w10.heap.size) := HBx.out.1
        have Xg : Hid (W8.heap.size ≤ gg) := hge
        have Bg7 := HBx
        have Rg7 := hide HO.out
        have Dg : Hid (∀ k, (Value.slice Ag l'.length cg).ownBlock = some k → W8.heap.size ≤ k ∧ k < w10.heap.size) := fun k hk => HO.out.lt k hk
        clear hb HBx HO hge
        have cg0 := Bg7.out.c 0 rfl
        have cg1 := Bg7.out.c 1 rfl
        have cg2 := Bg7.out.c 2 rfl
        have cg3 := Bg7.out.c 3 rfl
        have cw0 := Bw7.out.c 0 rfl
        have cw1 := Bw7.out.c 1 rfl
        have cw2 := Bw7.out.c 2 rfl
        have cw3 := Bw7.out.c 3 rfl
        go_wp2_with fail
        refine (l_eqPacker _ _ _ _ _ _ _ l' _ Rg7.out Rw7.out hn').mono ?_
        rintro e w12 ⟨rfl, hb⟩
        clear cg0 cg1 cg2 cg3 cw0 cw1 cw2 cw3
        have Z8 : Hid (w10.heap.size ≤ w12.heap.size) := hb.size
        have BB8 := hide (BB7.out.trans (hb.mono BB7.out.size))
        have Bap8 := hide (Bap7.out.below hb)
        have Bax8 := hide (Bax7.out.below hb)
        have Bw8 := hide (Bw7.out.below hb)
        have Bx8 := hide (Bx7.out.below hb)
        have Bg8 := hide (Bg7.out.below hb)
        have Rw8 := hide (own_below Rw7.out hb)
        have Rx8 := hide (own_below Rx7.out hb)
        have Rg8 := hide (own_below Rg7.out hb)
        clear BB7 Bap7 Bax7 Bw7 Bx7 Bg7 Rw7 Rx7 Rg7
        clear hb
        have cap0 := Bap8.out.c 0 rfl
        have cap1 := Bap8.out.c 1 rfl
        have cap2 := Bap8.out.c 2 rfl
        have cap3 := Bap8.out.c 3 rfl
        have cx0 := Bx8.out.c 0 rfl
        have cx1 := Bx8.out.c 1 rfl
        have cx2 := Bx8.out.c 2 rfl
        have cx3 := Bx8.out.c 3 rfl
        go_wp2_with fail
        have RIc := hide (RI0x.out.below BB8.out)
        go_region_held3 (fun w' => w'.cell? ⟨w.heap.size, 0, none⟩ = some (.int .i64 a0x0) ∧ w'.cell? ⟨w.heap.size, 1, none⟩ = some (.int .i64 a0x1) ∧ w'.cell? ⟨w.heap.size, 2, none⟩ = some (.string a0x2) ∧ w'.cell? ⟨w.heap.size, 3, none⟩ = some (.slice A l.length c) ∧ w'.cell? ⟨w7.heap.size, 0, none⟩ = some (.int .i64 a0x0) ∧ w'.cell? ⟨w7.heap.size, 1, none⟩ = some (.int .i64 a0x1) ∧ w'.cell? ⟨w7.heap.size, 2, none⟩ = some (.string a0x2) ∧ w'.cell? ⟨w7.heap.size, 3, none⟩ = some (.slice Ax l.length cx)) (first | go_keep | exact ⟨(Bap8.out.below ‹Below w12.heap.size w12 _›).c 0 rfl, (Bap8.out.below ‹Below w12.heap.size w12 _›).c 1 rfl, (Bap8.out.below ‹Below w12.heap.size w12 _›).c 2 rfl, (Bap8.out.below ‹Below w12.heap.size w12 _›).c 3 rfl, (Bx8.out.below ‹Below w12.heap.size w12 _›).c 0 rfl, (Bx8.out.below ‹Below w12.heap.size w12 _›).c 1 rfl, (Bx8.out.below ‹Below w12.heap.size w12 _›).c 2 rfl, (Bx8.out.below ‹Below w12.heap.size w12 _›).c 3 rfl⟩ | exact ⟨(Bap8.out.below hb7).c 0 rfl, (Bap8.out.below hb7).c 1 rfl, (Bap8.out.below hb7).c 2 rfl, (Bap8.out.below hb7).c 3 rfl, (Bx8.out.below hb7).c 0 rfl, (Bx8.out.below hb7).c 1 rfl, (Bx8.out.below hb7).c 2 rfl, (Bx8.out.below hb7).c 3 rfl⟩ | exact ⟨(Bap8.out.below hb8).c 0 rfl, (Bap8.out.below hb8).c 1 rfl, (Bap8.out.below hb8).c 2 rfl, (Bap8.out.below hb8).c 3 rfl, (Bx8.out.below hb8).c 0 rfl, (Bx8.out.below hb8).c 1 rfl, (Bx8.out.below hb8).c 2 rfl, (Bx8.out.below hb8).c 3 rfl⟩ | exact ⟨((Bap8.out.below hb8).alloc _).c 0 rfl, ((Bap8.out.below hb8).alloc _).c 1 rfl, ((Bap8.out.below hb8).alloc _).c 2 rfl, ((Bap8.out.below hb8).alloc _).c 3 rfl, ((Bx8.out.below hb8).alloc _).c 0 rfl, ((Bx8.out.below hb8).alloc _).c 1 rfl, ((Bx8.out.below hb8).alloc _).c 2 rfl, ((Bx8.out.below hb8).alloc _).c 3 rfl⟩) (first | (go_at_call 12; (first | refine (l_toPacker _ _ _ _ _ _ l _ (show RI w12.drew A l.length l from RIc.out) hn).mono ?_ | refine (l_toPacker _ _ _ _ _ _ l _ RIc.out hn).mono ?_); rintro e w13 ⟨v7, rfl, ho3, hb7⟩; obtain ⟨A7, c7, rfl⟩ := own_form ho3; (first | replace hb7 : Below w12.heap.size w12 w13 := below_undrew hb7 | skip); have P7 := hide ho3; clear ho3) | (go_at_call 14; (first | refine (l_eqPacker _ _ _ _ _ _ _ l _ (own_below Rx8.out hb7) P7.out hn).mono ?_ | refine (l_eqPacker _ _ _ _ _ _ _ l _ (own_below Rx8.out hb7).drew P7.out.drew hn).mono ?_); rintro e w14 ⟨rfl, hb8⟩; (first | replace hb8 : Below w13.heap.size w13 w14 := below_undrew hb8 | skip); replace hb8 : Below w12.heap.size w12 w14 := below_trans hb7 hb8))
        all_goals
          clear hb7 P7 RIc
          clear cap0 cap1 cap2 cap3 cx0 cx1 cx2 cx3
          have Z9 : Hid (w12.heap.size ≤ w14.heap.size) := hb8.size
          have BB9 := hide (BB8.out.trans (hb8.mono BB8.out.size))
          have Bap9 := hide (Bap8.out.below hb8)
          have Bax9 := hide (Bax8.out.below hb8)
          have Bw9 := hide (Bw8.out.below hb8)
          have Bx9 := hide (Bx8.out.below hb8)
          have Bg9 := hide (Bg8.out.below hb8)
          have Rw9 := hide (own_below Rw8.out hb8)
          have Rx9 := hide (own_below Rx8.out hb8)
          have Rg9 := hide (own_below Rg8.out hb8)
          clear BB8 Bap8 Bax8 Bw8 Bx8 Bg8 Rw8 Rx8 Rg8
          clear hb8
          have cx0 := Bx9.out.c 0 rfl
          have cx1 := Bx9.out.c 1 rfl
          have cx2 := Bx9.out.c 2 rfl
          have cx3 := Bx9.out.c 3 rfl
          go_wp2_with fail
          refine (l_markPacker _ _ _ (w5.heap.size) l.length 1 _ (Is l) _ Rx9.out hn (by omega) (by have := Z1.out; have := Yap.out; have := Yax.out; have := Z2.out; have := Z3.out; have := Z4.out; have := Yw.out; have := Xw.out; have := Z5.out; have := Z6.out; have := Yx.out; have := Z7.out; have := Yg.out; have := Xg.out; have := Z8.out; have := Z9.out; omega)).mono ?_
          rintro e w15 ⟨rfl, ho, hb, hs⟩
          clear cx0 cx1 cx2 cx3
          have Z10 : Hid (w14.heap.size ≤ w15.heap.size) := hb.size
          have BB10 := hide (BB9.out.trans (hb.mono (by have := BB9.out.size; have := Z1.out; have := Yap.out; have := Yax.out; have := Z2.out; have := Z3.out; have := Z4.out; have := Yw.out; have := Xw.out; have := Z5.out; have := Z6.out; have := Yx.out; have := Z7.out; have := Yg.out; have := Xg.out; have := Z8.out; have := Z9.out; omega)))
          have Bap10 := hide (Bap9.out.same hs Z10.out (by intro e; have h := Dx.out _ e; have := Z1.out; have := Yap.out; have := Yax.out; have := Z2.out; have := Z3.out; have := Z4.out; have := Yw.out; have := Xw.out; have := Z5.out; have := Z6.out; have := Yx.out; have := Z7.out; have := Yg.out; have := Xg.out; have := Z8.out; have := Z9.out; omega))
          have Bax10 := hide (Bax9.out.same hs Z10.out (by intro e; have h := Dx.out _ e; have := Z1.out; have := Yap.out; have := Yax.out; have := Z2.out; have := Z3.out; have := Z4.out; have := Yw.out; have := Xw.out; have := Z5.out; have := Z6.out; have := Yx.out; have := Z7.out; have := Yg.out; have := Xg.out; have := Z8.out; have := Z9.out; omega))
          have Bw10 := hide (Bw9.out.same hs Z10.out (by intro e; have h := Dx.out _ e; have := Z1.out; have := Yap.out; have := Yax.out; have := Z2.out; have := Z3.out; have := Z4.out; have := Yw.out; have := Xw.out; have := Z5.out; have := Z6.out; have := Yx.out; have := Z7.out; have := Yg.out; have := Xg.out; have := Z8.out; have := Z9.out; omega))
          have Bx10 := hide (Bx9.out.same hs Z10.out (by intro e; have h := Dx.out _ e; have := Z1.out; have := Yap.out; have := Yax.out; have := Z2.out; have := Z3.out; have := Z4.out; have := Yw.out; have := Xw.out; have := Z5.out; have := Z6.out; have := Yx.out; have := Z7.out; have := Yg.out; have := Xg.out; have := Z8.out; have := Z9.out; omega))
          have Bg10 := hide (Bg9.out.same hs Z10.out (by intro e; have h := Dx.out _ e; have := Z1.out; have := Yap.out; have := Yax.out; have := Z2.out; have := Z3.out; have := Z4.out; have := Yw.out; have := Xw.out; have := Z5.out; have := Z6.out; have := Yx.out; have := Z7.out; have := Yg.out; have := Xg.out; have := Z8.out; have := Z9.out; omega))
          have Rw10 := hide (own_apart Rw9.out hs (by intro k hk e; have h := Dx.out _ e; have h2 := Dw.out _ hk; have := Z1.out; have := Yap.out; have := Yax.out; have := Z2.out; have := Z3.out; have := Z4.out; have := Yw.out; have := Xw.out; have := Z5.out; have := Z6.out; have := Yx.out; have := Z7.out; have := Yg.out; have := Xg.out; have := Z8.out; have := Z9.out; omega))
          have Rg10 := hide (own_apart Rg9.out hs (by intro k hk e; have h := Dx.out _ e; have h2 := Dg.out _ hk; have := Z1.out; have := Yap.out; have := Yax.out; have := Z2.out; have := Z3.out; have := Z4.out; have := Yw.out; have := Xw.out; have := Z5.out; have := Z6.out; have := Yx.out; have := Z7.out; have := Yg.out; have := Xg.out; have := Z8.out; have := Z9.out; omega))
          clear BB9 Bap9 Bax9 Bw9 Bx9 Bg9 Rw9 Rg9
          have Rx10 := hide ho
          clear ho hb hs Rx9
          have cg0 := Bg10.out.c 0 rfl
          have cg1 := Bg10.out.c 1 rfl
          have cg2 := Bg10.out.c 2 rfl
          have cg3 := Bg10.out.c 3 rfl
          have cw0 := Bw10.out.c 0 rfl
          have cw1 := Bw10.out.c 1 rfl
          have cw2 := Bw10.out.c 2 rfl
          have cw3 := Bw10.out.c 3 rfl
          go_wp2_with fail
          refine (l_eqPacker _ _ _ _ _ _ _ l' _ Rg10.out Rw10.out hn').mono ?_
          rintro e w16 ⟨rfl, hb⟩
          clear cg0 cg1 cg2 cg3 cw0 cw1 cw2 cw3
          have Z11 : Hid (w15.heap.size ≤ w16.heap.size) := hb.size
          have BB11 := hide (BB10.out.trans (hb.mono BB10.out.size))
          have Bap11 := hide (Bap10.out.below hb)
          have Bax11 := hide (Bax10.out.below hb)
          have Bw11 := hide (Bw10.out.below hb)
          have Bx11 := hide (Bx10.out.below hb)
          have Bg11 := hide (Bg10.out.below hb)
          have Rw11 := hide (own_below Rw10.out hb)
          have Rx11 := hide (own_below Rx10.out hb)
          have Rg11 := hide (own_below Rg10.out hb)
          clear BB10 Bap10 Bax10 Bw10 Bx10 Bg10 Rw10 Rx10 Rg10
          clear hb
          have cg0 := Bg11.out.c 0 rfl
          have cg1 := Bg11.out.c 1 rfl
          have cg2 := Bg11.out.c 2 rfl
          have cg3 := Bg11.out.c 3 rfl
          go_wp2_with fail
          refine (l_markPacker _ _ _ (W8.heap.size) l'.length 1 _ (Is l') _ Rg11.out hn' (by omega) (by have := Z1.out; have := Yap.out; have := Yax.out; have := Z2.out; have := Z3.out; have := Z4.out; have := Yw.out; have := Xw.out; have := Z5.out; have := Z6.out; have := Yx.out; have := Z7.out; have := Yg.out; have := Xg.out; have := Z8.out; have := Z9.out; have := Z10.out; have := Z11.out; omega)).mono ?_
          rintro e w17 ⟨rfl, ho, hb, hs⟩
          clear cg0 cg1 cg2 cg3
          have Z12 : Hid (w16.heap.size ≤ w17.heap.size) := hb.size
          have BB12 := hide (BB11.out.trans (hb.mono (by have := BB11.out.size; have := Z1.out; have := Yap.out; have := Yax.out; have := Z2.out; have := Z3.out; have := Z4.out; have := Yw.out; have := Xw.out; have := Z5.out; have := Z6.out; have := Yx.out; have := Z7.out; have := Yg.out; have := Xg.out; have := Z8.out; have := Z9.out; have := Z10.out; have := Z11.out; omega)))
          have Bap12 := hide (Bap11.out.same hs Z12.out (by intro e; have h := Dg.out _ e; have := Z1.out; have := Yap.out; have := Yax.out; have := Z2.out; have := Z3.out; have := Z4.out; have := Yw.out; have := Xw.out; have := Z5.out; have := Z6.out; have := Yx.out; have := Z7.out; have := Yg.out; have := Xg.out; have := Z8.out; have := Z9.out; have := Z10.out; have := Z11.out; omega))
          have Bax12 := hide (Bax11.out.same hs Z12.out (by intro e; have h := Dg.out _ e; have := Z1.out; have := Yap.out; have := Yax.out; have := Z2.out; have := Z3.out; have := Z4.out; have := Yw.out; have := Xw.out; have := Z5.out; have := Z6.out; have := Yx.out; have := Z7.out; have := Yg.out; have := Xg.out; have := Z8.out; have := Z9.out; have := Z10.out; have := Z11.out; omega))
          have Bw12 := hide (Bw11.out.same hs Z12.out (by intro e; have h := Dg.out _ e; have := Z1.out; have := Yap.out; have := Yax.out; have := Z2.out; have := Z3.out; have := Z4.out; have := Yw.out; have := Xw.out; have := Z5.out; have := Z6.out; have := Yx.out; have := Z7.out; have := Yg.out; have := Xg.out; have := Z8.out; have := Z9.out; have := Z10.out; have := Z11.out; omega))
          have Bx12 := hide (Bx11.out.same hs Z12.out (by intro e; have h := Dg.out _ e; have := Z1.out; have := Yap.out; have := Yax.out; have := Z2.out; have := Z3.out; have := Z4.out; have := Yw.out; have := Xw.out; have := Z5.out; have := Z6.out; have := Yx.out; have := Z7.out; have := Yg.out; have := Xg.out; have := Z8.out; have := Z9.out; have := Z10.out; have := Z11.out; omega))
          have Bg12 := hide (Bg11.out.same hs Z12.out HNEg.out)
          have Rw12 := hide (own_apart Rw11.out hs (by intro k hk e; have h := Dg.out _ e; have h2 := Dw.out _ hk; have := Z1.out; have := Yap.out; have := Yax.out; have := Z2.out; have := Z3.out; have := Z4.out; have := Yw.out; have := Xw.out; have := Z5.out; have := Z6.out; have := Yx.out; have := Z7.out; have := Yg.out; have := Xg.out; have := Z8.out; have := Z9.out; have := Z10.out; have := Z11.out; omega))
          have Rx12 := hide (own_apart Rx11.out hs (by intro k hk e; have h := Dg.out _ e; have h2 := Dx.out _ hk; have := Z1.out; have := Yap.out; have := Yax.out; have := Z2.out; have := Z3.out; have := Z4.out; have := Yw.out; have := Xw.out; have := Z5.out; have := Z6.out; have := Yx.out; have := Z7.out; have := Yg.out; have := Xg.out; have := Z8.out; have := Z9.out; have := Z10.out; have := Z11.out; omega))
          clear BB11 Bap11 Bax11 Bw11 Bx11 Bg11 Rw11 Rx11
          have Rg12 := hide ho
          clear ho hb hs Rg11
          have cg0 := Bg12.out.c 0 rfl
          have cg1 := Bg12.out.c 1 rfl
          have cg2 := Bg12.out.c 2 rfl
          have cg3 := Bg12.out.c 3 rfl
          go_wp2_with fail
          refine (l_heldPacker _ _ _ _ l'.length 1 _ _ Rg12.out hn' (by omega)).mono ?_
          rintro e w18 ⟨rfl, hb⟩
          clear cg0 cg1 cg2 cg3
          have Z13 : Hid (w17.heap.size ≤ w18.heap.size) := hb.size
          have BB13 := hide (BB12.out.trans (hb.mono BB12.out.size))
          have Bap13 := hide (Bap12.out.below hb)
          have Bax13 := hide (Bax12.out.below hb)
          have Bw13 := hide (Bw12.out.below hb)
          have Bx13 := hide (Bx12.out.below hb)
          have Bg13 := hide (Bg12.out.below hb)
          have Rw13 := hide (own_below Rw12.out hb)
          have Rx13 := hide (own_below Rx12.out hb)
          have Rg13 := hide (own_below Rg12.out hb)
          clear BB12 Bap12 Bax12 Bw12 Bx12 Bg12 Rw12 Rx12 Rg12
          clear hb
          have q0 : decide (((1 + l'.length : Nat) : Int) < 0) = false := decide_eq_false (by omega)
          have cap0 := Bap13.out.c 0 rfl
          have cap1 := Bap13.out.c 1 rfl
          have cap2 := Bap13.out.c 2 rfl
          have cap3 := Bap13.out.c 3 rfl
          have cax0 := Bax13.out.c 0 rfl
          have cax1 := Bax13.out.c 1 rfl
          have cax2 := Bax13.out.c 2 rfl
          have RIc := hide (RI0x.out.below BB13.out)
          go_upto_region 27 with fail
          go_cut [14, 15] (fun p q wx => Fin w18 a0x0 a0x1 r' l' ok p q wx)
          case first =>
            go_region_held3 (fun w' => w'.cell? ⟨w.heap.size, 0, none⟩ = some (.int .i64 a0x0) ∧ w'.cell? ⟨w.heap.size, 1, none⟩ = some (.int .i64 a0x1) ∧ w'.cell? ⟨w.heap.size, 2, none⟩ = some (.string a0x2) ∧ w'.cell? ⟨w.heap.size, 3, none⟩ = some (.slice A l.length c) ∧ w'.cell? ⟨w.heap.size + 1, 0, none⟩ = some (.int .i64 a1x0) ∧ w'.cell? ⟨w.heap.size + 1, 1, none⟩ = some (.int .i64 a1x1) ∧ w'.cell? ⟨w.heap.size + 1, 2, none⟩ = some (.string a1x2)) (first | go_keep | exact keep43b Bap13.out Bax13.out (by repeat (first | with_reducible exact hb5 | with_reducible exact hb4 | with_reducible exact hb3 | exact Below.refl _ _ | with_reducible refine Below.drew ?_ | with_reducible refine Below.alloc ?_ (by first | exact Nat.le_refl _ | omega | (simp; done) | (simp; omega)) _ | with_reducible refine Below.setCell ?_ (by first | omega | (simp; done) | (simp; omega)) _))) (first | (go_at_call 12; refine (l_toPacker _ _ _ _ _ _ l _ (RIc.out.below (by repeat (first | with_reducible exact hb5 | with_reducible exact hb4 | with_reducible exact hb3 | exact Below.refl _ _ | with_reducible refine Below.drew ?_ | with_reducible refine Below.alloc ?_ (by first | exact Nat.le_refl _ | omega | (simp; done) | (simp; omega)) _ | with_reducible refine Below.setCell ?_ (by first | omega | (simp; done) | (simp; omega)) _))) hn).mono ?_; rintro e w19 ⟨v3, rfl, ho3, hbr⟩; obtain ⟨A3, c3, rfl⟩ := own_form ho3; have O3 := hide (RI.of_own ho3); have N3 := hide (own_nilc ho3); clear ho3; (first | (have zp := zp_new hbr) | (have zp := zp_newd hbr) | (have zp := zp_old zb.out hbr) | (have zp := zp_oldd zb.out hbr) | skip); (first | (replace zb := hide zp.1) | (have zb := hide zp.1) | skip); have hb3 : Below w18.heap.size w18 w19 := below_trans (by repeat (first | with_reducible exact hb5 | with_reducible exact hb4 | with_reducible exact hb3 | exact Below.refl _ _ | with_reducible refine Below.drew ?_ | with_reducible refine Below.alloc ?_ (by first | exact Nat.le_refl _ | omega | (simp; done) | (simp; omega)) _ | with_reducible refine Below.setCell ?_ (by first | omega | (simp; done) | (simp; omega)) _)) hbr; have hs3 := hb3.size; clear hbr) | (go_at_call 17; refine (l_toPacket _ _ _ _).mono ?_; rintro e w20 ⟨rfl, hbr⟩; (first | (have zp := zp_new hbr) | (have zp := zp_newd hbr) | (have zp := zp_old zb.out hbr) | (have zp := zp_oldd zb.out hbr) | skip); (first | (replace zb := hide zp.1) | (have zb := hide zp.1) | skip); have hc4 : Below w19.heap.size w19 w20 := below_trans (by repeat (first | with_reducible exact hc4 | exact Below.refl _ _ | with_reducible refine Below.drew ?_ | with_reducible refine Below.alloc ?_ (by first | exact Nat.le_refl _ | omega | (simp; done) | (simp; omega)) _ | with_reducible refine Below.setCell ?_ (by first | omega | (simp; done) | (simp; omega)) _)) hbr; have hb4 : Below w18.heap.size w18 w20 := below_trans hb3 hc4; have hs4 := hb4.size; have hs4c := hc4.size; have O4 := hide (O3.out.below hc4); clear hbr) | (go_at_call 18; refine (i_Pack_is _ _ _ _ _ _ l _ _ _ _ _ _ _ (O4.out.below (by repeat (first | with_reducible exact hc5 | exact Below.refl _ _ | with_reducible refine Below.drew ?_ | with_reducible refine Below.alloc ?_ (by first | exact Nat.le_refl _ | omega | (simp; done) | (simp; omega)) _ | with_reducible refine Below.setCell ?_ (by first | omega | (simp; done) | (simp; omega)) _))) hn (by omega) (by omega) TP.out TO.out).mono ?_; rintro e w21 ⟨v5, rfl, ho5, hbr⟩; obtain ⟨A5, c5, rfl⟩ := own_form ho5; have hc5 : Below w20.heap.size w20 w21 := below_trans (by repeat (first | with_reducible exact hc5 | exact Below.refl _ _ | with_reducible refine Below.drew ?_ | with_reducible refine Below.alloc ?_ (by first | exact Nat.le_refl _ | omega | (simp; done) | (simp; omega)) _ | with_reducible refine Below.setCell ?_ (by first | omega | (simp; done) | (simp; omega)) _)) hbr; have hb5 : Below w18.heap.size w18 w21 := below_trans hb4 hc5; have hs5 := hb5.size; have hs5c := hc5.size; (first | (have zp := zp_new hbr) | (have zp := zp_newd hbr) | (have zp := zp_old zb.out hbr) | (have zp := zp_oldd zb.out hbr) | skip); (first | (replace zb := hide zp.1) | (have zb := hide zp.1) | skip); (first | (have D5 := hide (zne_of ho5 zp.2)) | skip); (first | (have z0 := zb.out.c 0 rfl; have z1 := zb.out.c 1 rfl; have z2 := zb.out.c 2 rfl; have z3 := zb.out.c 3 rfl; have zf0 := zb.out.f 0 (by simp); have zf1 := zb.out.f 1 (by simp); have zf2 := zb.out.f 2 (by simp); have zf3 := zb.out.f 3 (by simp)) | skip); replace ho5 := hide (own_mono ho5 (size_chain hb4 (by repeat (first | with_reducible exact hc5 | exact Below.refl _ _ | with_reducible refine Below.drew ?_ | with_reducible refine Below.alloc ?_ (by first | exact Nat.le_refl _ | omega | (simp; done) | (simp; omega)) _ | with_reducible refine Below.setCell ?_ (by first | omega | (simp; done) | (simp; omega)) _)))); clear hbr))
            all_goals (go_wp2_with fail; go_meet; first | exact fin_new ho5.out hb5 | exact fin_set zb.out D5.out ho5.out hb5 (by omega))
          case rest =>
            clear RIc
            obtain ⟨gk, Ak, ck, hp, hq, HBx, HO, HB, hge, HNEk⟩ := hcut
            subst hp
            subst hq
            generalize wc = w21 at *
            have hb := HB.out
            clear HB
            clear cap0 cap1 cap2 cap3 cax0 cax1 cax2
            have Z14 : Hid (w18.heap.size ≤ w21.heap.size) := hb.size
            have BB14 := hide (BB13.out.trans (hb.mono BB13.out.size))
            have Bap14 := hide (Bap13.out.below hb)
            have Bax14 := hide (Bax13.out.below hb)
            have Bw14 := hide (Bw13.out.below hb)
            have Bx14 := hide (Bx13.out.below hb)
            have Bg14 := hide (Bg13.out.below hb)
            have Rw14 := hide (own_below Rw13.out hb)
            have Rx14 := hide (own_below Rx13.out hb)
            have Rg14 := hide (own_below Rg13.out hb)
            clear BB13 Bap13 Bax13 Bw13 Bx13 Bg13 Rw13 Rx13 Rg13
            have Yk : Hid (gk < w21.heap.size) := HBx.out.1
            have Xk : Hid (w18.heap.size ≤ gk) := hge
            have Bk14 := HBx
            have Rk14 := hide HO.out
            have Dk : Hid (∀ k, (Value.slice Ak l'.length ck).ownBlock = some k → w18.heap.size ≤ k ∧ k < w21.heap.size) := fun k hk => HO.out.lt k hk
            clear hb HBx HO hge
            have ck0 := Bk14.out.c 0 rfl
            have ck1 := Bk14.out.c 1 rfl
            have ck2 := Bk14.out.c 2 rfl
            have ck3 := Bk14.out.c 3 rfl
            have cw0 := Bw14.out.c 0 rfl
            have cw1 := Bw14.out.c 1 rfl
            have cw2 := Bw14.out.c 2 rfl
            have cw3 := Bw14.out.c 3 rfl
            go_wp2_with fail
            refine (l_eqPacker _ _ _ _ _ _ _ l' _ Rk14.out Rw14.out hn').mono ?_
            rintro e w23 ⟨rfl, hb⟩
            clear ck0 ck1 ck2 ck3 cw0 cw1 cw2 cw3
            have Z15 : Hid (w21.heap.size ≤ w23.heap.size) := hb.size
            have BB15 := hide (BB14.out.trans (hb.mono BB14.out.size))
            have Bap15 := hide (Bap14.out.below hb)
            have Bax15 := hide (Bax14.out.below hb)
            have Bw15 := hide (Bw14.out.below hb)
            have Bx15 := hide (Bx14.out.below hb)
            have Bg15 := hide (Bg14.out.below hb)
            have Bk15 := hide (Bk14.out.below hb)
            have Rw15 := hide (own_below Rw14.out hb)
            have Rx15 := hide (own_below Rx14.out hb)
            have Rg15 := hide (own_below Rg14.out hb)
            have Rk15 := hide (own_below Rk14.out hb)
            clear BB14 Bap14 Bax14 Bw14 Bx14 Bg14 Bk14 Rw14 Rx14 Rg14 Rk14
            clear hb
            have cg0 := Bg15.out.c 0 rfl
            have cg1 := Bg15.out.c 1 rfl
            have cg2 := Bg15.out.c 2 rfl
            have cg3 := Bg15.out.c 3 rfl
            go_wp2_with fail
            refine (l_heldPacker _ _ _ _ l'.length 1 _ _ Rg15.out hn' (by omega)).mono ?_
            rintro e w24 ⟨rfl, hb⟩
            clear cg0 cg1 cg2 cg3
            have Z16 : Hid (w23.heap.size ≤ w24.heap.size) := hb.size
            have BB16 := hide (BB15.out.trans (hb.mono BB15.out.size))
            have Bap16 := hide (Bap15.out.below hb)
            have Bax16 := hide (Bax15.out.below hb)
            have Bw16 := hide (Bw15.out.below hb)
            have Bx16 := hide (Bx15.out.below hb)
            have Bg16 := hide (Bg15.out.below hb)
            have Bk16 := hide (Bk15.out.below hb)
            have Rw16 := hide (own_below Rw15.out hb)
            have Rx16 := hide (own_below Rx15.out hb)
            have Rg16 := hide (own_below Rg15.out hb)
            have Rk16 := hide (own_below Rk15.out hb)
            clear BB15 Bap15 Bax15 Bw15 Bx15 Bg15 Bk15 Rw15 Rx15 Rg15 Rk15
            clear hb
            go_wp2_with fail
            go_ret
            exact ⟨rfl, BB16.out⟩
set_option maxRecDepth 100000 in
theorem lifted (os : Os) (started : os.Started) (H : Type) (enc : TypeId × Value → H) :
    ReturnsInHanded {} Try.checked os 4 .any (Rows.fnExactPackPacketSpec.pre6 enc Try.prog Try.f4 Rows.fnExactPackPacketRow.domain false) (Rows.fnExactPackPacketSpec.post enc Try.prog Try.f4 false true false false) := by
  refine returnsInHanded_of_change (C := Try.checked) own started (by kernel_rfl) Try.func4
    (ChangeSpec.witness6 (enc := enc) (C := Try.checked) false ⟨#[], #[.agg #[.int .i64 0, .int .i64 0, .string ByteArray.empty, .slice none 0 0], .agg #[.int .i64 0, .int .i64 0, .string ByteArray.empty]], []⟩ 8 (by kernel_rfl) (by kernel_rfl) (by kernel_rfl) (by kernel_rfl)) ?_
  intro W base args ds gs before hval0 hW hcnd _
  have hval : ∀ (j : Nat) t v, Try.f4.params[j]? = some t → args[j]? = some v → Value.okWide Try.prog W .any base t v := hval0
  have hW' := hW
  obtain ⟨p, q, hA0, hV, rfl, hfz, hnd⟩ := hW
  have hA : DataW.TrodAll enc Try.prog W 0 (fun _ => true) true Try.f4.params.toList args.toList ds p := hA0
  rw [Try.params4] at hA hval
  obtain ⟨v0, vs0, d0, ds0, p0, q0, hargs, rfl, rfl, h0, r0⟩ := trodAll_cons hA
  obtain ⟨v1, vs1, d1, ds1, p1, q1, rfl, rfl, rfl, h1, r1⟩ := trodAll_cons r0
  obtain ⟨rfl, rfl, rfl⟩ := trodAll_nil r1
  obtain rfl : args = #[v0, v1] := by cases args; simp_all
  obtain ⟨rfl, rfl⟩ := trodVars_none hV
  have k0 := h0
  have lt0 : ∀ x ∈ p0, x.block < W.heap.size := by obtain ⟨m, hm⟩ := k0; exact DataW.trod_lt m _ _ _ hm
  obtain ⟨v0x0, v0x1, v0x2, v0x3, y0x0, y0x1, y0x2, y0x3, n0, rfl, rfl, rfl, f0x0, f0x1, f0x2, f0x3⟩ := open_agg4_ Try.underlying24 (by kernel_rfl) (by kernel_rfl) (hval 0 24 v0 rfl rfl) h0
  obtain ⟨a0x0, rfl, b0x0⟩ := field_int Try.underlying3 f0x0
  obtain ⟨a0x1, rfl, b0x1⟩ := field_int Try.underlying3 f0x1
  obtain ⟨a0x2, rfl, b0x2⟩ := field_string Try.underlying9 f0x2
  obtain ⟨a0x3, n0x3, c0x3, z0x3, rfl, r0x3, m0x3⟩ := field_ints Try.underlying22 Try.underlying3 (by kernel_rfl) f0x3
  have k1 := h1
  have lt1 : ∀ x ∈ p1, x.block < W.heap.size := by obtain ⟨m, hm⟩ := k1; exact DataW.trod_lt m _ _ _ hm
  obtain ⟨v1x0, v1x1, v1x2, y1x0, y1x1, y1x2, n1, rfl, rfl, rfl, f1x0, f1x1, f1x2⟩ := open_agg3_ Try.underlying32 (by kernel_rfl) (by kernel_rfl) (hval 1 32 v1 rfl rfl) h1
  obtain ⟨a1x0, rfl, b1x0⟩ := field_int Try.underlying3 f1x0
  obtain ⟨a1x1, rfl, b1x1⟩ := field_int Try.underlying3 f1x1
  obtain ⟨a1x2, rfl, b1x2⟩ := field_string Try.underlying9 f1x2
  clear hA0 hval0
  refine (walk a0x0 (bounds_i64 b0x0).1 (bounds_i64 b0x0).2 a0x1 (bounds_i64 b0x1).1 (bounds_i64 b0x1).2 a0x2 b0x2 a0x3 n0x3 c0x3 z0x3 m0x3 a1x0 (bounds_i64 b1x0).1 (bounds_i64 b1x0).2 a1x1 (bounds_i64 b1x1).1 (bounds_i64 b1x1).2 a1x2 b1x2 W r0x3).mono fun e W' ⟨he, bel⟩ => ?_
  subst he
  exact ⟨_, rfl, _, _, _, [], _, [], hW', trodAll_mk1 (shut_bool Try.underlying4 _), (trodAll_cons_mk (Below.trod laidOut (by kernel_rfl) (of_decide_eq_true (by kernel_rfl)) k0 bel lt0) (trodAll_cons_mk (Below.trod laidOut (by kernel_rfl) (of_decide_eq_true (by kernel_rfl)) k1 bel lt1) trodAll_mk0)), rfl, bel.frame _, fun h => by cases h⟩
theorem closed : joinedFacts Try.prog 4 Try.f4 Rows.fnExactPackPacketSpec Rows.fnExactPackPacketRow = true :=
  joined_of (by as_aux_lemma => kernel_rfl) laidOut mapsRowed_ (by as_aux_lemma => kernel_rfl) (by as_aux_lemma => kernel_rfl) (by kernel_rfl) (by as_aux_lemma => kernel_rfl) (by kernel_rfl) (by as_aux_lemma => kernel_rfl)
    (by as_aux_lemma => kernel_rfl) (by as_aux_lemma => kernel_rfl) (by as_aux_lemma => kernel_rfl) (by as_aux_lemma => kernel_rfl) (by as_aux_lemma => kernel_rfl) (by as_aux_lemma => kernel_rfl) (by as_aux_lemma => kernel_rfl) (by as_aux_lemma => kernel_rfl) (by as_aux_lemma => kernel_rfl) (by as_aux_lemma => kernel_rfl)
    (by as_aux_lemma => kernel_rfl) (by as_aux_lemma => kernel_rfl) (by as_aux_lemma => kernel_rfl) (by as_aux_lemma => kernel_rfl) (by kernel_rfl) stopsHeard_ mayEnter_ (by rw [liftsFinal_]; kernel_rfl) (by rw [make_]; kernel_rfl) (by as_aux_lemma => kernel_rfl) (by kernel_rfl) (by as_aux_lemma => kernel_rfl) (by as_aux_lemma => kernel_rfl)
theorem over : Rows.fnExactPackPacketRow.holds Try.pinned (OpenSpec.ofChange Rows.fnExactPackPacketSpec) :=
  OpenClaim.holds_of_wide 4 Try.f4 rfl rfl rfl rfl rfl rfl rfl ⟨rfl, rfl, rfl, rfl, rfl⟩ rfl rfl rfl rfl rfl (by kernel_rfl) Try.func4 closed
    (of_decide_eq_true (by kernel_rfl)) (by unfold Func.isWrapper; first | (rw [if_pos (by decide +kernel)]; kernel_rfl) | (rw [if_neg (by decide +kernel)]; exact ⟨rfl, rfl⟩))
    (fun os started H enc _ => lifted os started H enc)
theorem proved : Rows.FnExactPackPacketSaid := over
#print axioms proved
end Go.Proofs.Ytnelfadmcpacbaa.fnExactPackPacket
