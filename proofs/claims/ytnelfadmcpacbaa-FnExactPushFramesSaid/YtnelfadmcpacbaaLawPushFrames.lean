/- The program's PushFrames returns what the reference's returns, leaves the frames as they were and shares no memory with them or with another call, for all unpackers and lists of frames of at most 2^20 bytes and frames together (greater ones the law lets pass). -/
import Derived.Test.YtnelfadmcpacbaaRowFramesB
import Derived.Test.YtnelfadmcpacbaaPsfC
import Derived.Test.YtnelfadmcpacbaaPsfE
import Derived.Test.YtnelfadmcpacbaaOwnF
import Derived.Test.YtnelfadmcpacbaaOwnQ
import Derived.Deep.DeepCutAuto
namespace Go.Proofs.Ytnelfadmcpacbaa.fnExactPushFrames
open Go.ChangeShapes Go.WideShapes Go.ChangeAt Go.RowKit Sat
open Go.ChangeMaps (open_string shut_string)
set_option linter.unusedVariables false
attribute [local go_sem ↓] Go.wp_at_zero Go.wp_at_succ

theorem pfS_len (c : Int) (st : Un5) (l : List Fr4) : ∀ k, (pfS c st l k).2.length ≤ 100 * k := by
  intro k
  induction k with
  | zero => exact Nat.le_refl _
  | succ k ih =>
    rw [pfS]
    show (_ ++ psP _ _ _ _ _ _ _ _ _).length ≤ _
    rw [List.length_append]
    have := psP_len c (pfS c st l k).1.1 (pfS c st l k).1.2.1 (pfS c st l k).1.2.2.1 (pfS c st l k).1.2.2.2 (l.getD k (0, 0, 0, ⟨#[]⟩)).1 (l.getD k (0, 0, 0, ⟨#[]⟩)).2.1 (l.getD k (0, 0, 0, ⟨#[]⟩)).2.2.1 (l.getD k (0, 0, 0, ⟨#[]⟩)).2.2.2
    omega
theorem l_szF_is (A : Option Addr) (n c : Nat) (l : List Fr4) (lf : Int) (w : World) (V : Int) (h : RFo w A n l) (hn0 : 0 ≤ lf) (hn : lf ≤ 1048576) (hnl : n ≤ 9223372036854775807) (hd : ∀ (j : Nat), (l.getD j (0, 0, 0, ⟨#[]⟩)).2.2.2.size ≤ 9223372036854775807) (hV : szV lf n (szTo l n) = V) :
    Calls Try.prog 39 #[.slice A n c, .int .i64 lf] w fun e w' => e = .returned (.int .i64 V) ∧ Below w.heap.size w w' := by
  subst hV; exact l_szFrameS A n c l lf w h hn0 hn hnl hd
theorem l_eqF_is (B1 B2 : Nat) (v1 v2 : Value) (l : List Fr4) (w : World) (m : Nat) (hl : l.length = m) (h1 : w.ownsRow B1 41 4 v1 m (Frs l)) (h2 : w.ownsRow B2 41 4 v2 m (Frs l)) (hm : m ≤ 1048576) :
    Calls Try.prog 26 #[v1, v2] w fun e w' => e = .returned (.bool true) ∧ Below w.heap.size w w' := by
  subst hl; exact l_eqFrameS B1 B2 v1 v2 l w h1 h2 hm
theorem own_belowM {w w' : World} {B e size M : Nat} {v : Value} {n : Nat} {xs : List Value} (h : w.ownsRow B e size v n xs) (hlt : ∀ k, v.ownBlock = some k → k < M) (hb : Below M w w') : w'.ownsRow B e size v n xs := by
  refine ⟨h.1, ?_⟩
  rcases h.2 with hn | ⟨g, cap, cur, rfl, hb0, hgg, rest⟩
  · exact .inl hn
  · refine .inr ⟨g, cap, cur, rfl, hb0, ?_, rest⟩
    rw [hb.block g (hlt g rfl)]; exact hgg
set_option maxRecDepth 100000 in
set_option maxHeartbeats 20000000 in
theorem walk (a0x0 : Int) (l0x0 : -9223372036854775808 ≤ a0x0) (u0x0 : a0x0 ≤ 9223372036854775807) (a0x1 : Int) (l0x1 : -9223372036854775808 ≤ a0x1) (u0x1 : a0x1 ≤ 9223372036854775807) (a0x2 : Bool) (a0x3 : ByteArray) (s0x3 : a0x3.size ≤ maxLen) (a0x4 : Int) (l0x4 : -9223372036854775808 ≤ a0x4) (u0x4 : a0x4 ≤ 9223372036854775807) (A : Option Addr) (m cp : Nat) (l : List Fr4) (hm : m ≤ 9223372036854775807) (hs : ∀ j, (l.getD j (0, 0, 0, ⟨#[]⟩)).2.2.2.size ≤ 9223372036854775807) (w : World) (hl : RFo w A m l) :
    Calls Try.prog 8 #[.agg #[.int .i64 a0x0, .int .i64 a0x1, .bool a0x2, .string a0x3, .int .i64 a0x4], .slice A m cp] w fun e w' => e = .returned (.bool true) ∧ Below w.heap.size w w' := by
  unfold maxLen at s0x3
  have RL := hide hl
  clear hl
  by_cases hbig : 1048576 < a0x3.size
  · go_enter Try.func8, Try.ntmps8
    go_wp2_with fail
    refine (l_szUnpacker_big _ _ _ _ _ _ _ (by omega) (by omega) (by omega) (by omega)).mono ?_
    rintro e w1 ⟨rfl, hb⟩
    have hb' := (entry1 w #[.int .i64 a0x0, .int .i64 a0x1, .bool a0x2, .string a0x3, .int .i64 a0x4] 51).1
    have HB := hide (hb'.trans (hb.mono hb'.size))
    clear hb hb'
    go_wp2_with fail
    go_ret
    exact ⟨rfl, HB.out⟩
  by_cases hbig2 : (1048576 : Int) - (a0x3.size : Int) < (m : Int) + (szTo l m : Nat)
  · have hV : szV (1048576 - (a0x3.size : Int)) m (szTo l m) = -1 := if_neg (by omega)
    clear hbig2
    go_enter Try.func8, Try.ntmps8
    go_wp2_with fail
    refine (l_szUnpacker_no _ _ _ _ _ _ _ (by omega) (by omega) (by omega) (by omega)).mono ?_
    rintro e w1 ⟨rfl, hb⟩
    have hb' := (entry1 w #[.int .i64 a0x0, .int .i64 a0x1, .bool a0x2, .string a0x3, .int .i64 a0x4] 51).1
    have HB := hide (hb'.trans (hb.mono hb'.size))
    clear hb hb'
    go_wp2_with fail
    refine (l_szF_is A m cp l _ _ (-1) (RL.out.below HB.out) (by omega) (by omega) hm hs hV).mono ?_
    rintro e w2 ⟨rfl, hb⟩
    replace HB := hide (HB.out.trans (hb.mono HB.out.size))
    clear hb
    go_wp2_with fail
    go_ret
    exact ⟨rfl, HB.out⟩
  · have hr2 : a0x3.size ≤ 1048576 := by omega
    have hm2 : m ≤ 1048576 := by omega
    have hlm : l.length = m := RL.out.1
    have HD : Hid (∀ (j : Nat) (x : Fr4), l[j]? = some x → x.2.2.2.size ≤ 1048576) := by
      intro j x hx
      have := szTo_at l hlm hx
      omega
    obtain ⟨L, hL⟩ : ∃ L, szV (1048576 - (a0x3.size : Int)) m (szTo l m) = L := ⟨_, rfl⟩
    have qL : decide (L < 0) = false := by
      have e : szV (1048576 - (a0x3.size : Int)) m (szTo l m) = 1048576 - (a0x3.size : Int) - m - (szTo l m : Nat) := if_pos (by omega)
      exact decide_eq_false (by omega)
    clear hbig hbig2
    have hpl := pfS_len a0x0 (a0x1, a0x2, a0x3, a0x4) l m
    obtain ⟨P, hF⟩ : ∃ P, pfS a0x0 (a0x1, a0x2, a0x3, a0x4) l m = P := ⟨_, rfl⟩
    rw [hF] at hpl
    obtain ⟨⟨n', y', r', o'⟩, pk⟩ := P
    have hp3 : pk.length ≤ 134217728 := by dsimp only at hpl; omega
    clear hpl
    have TF := hide hF
    clear hF
    go_enter Try.func8, Try.ntmps8
    go_wp2_with fail
    have BB0 := hide (Below.refl w.heap.size w)
    obtain ⟨hA, b1⟩ := entry1 w #[.int .i64 a0x0, .int .i64 a0x1, .bool a0x2, .string a0x3, .int .i64 a0x4] 51
    generalize (w.alloc (.cells #[.int .i64 a0x0, .int .i64 a0x1, .bool a0x2, .string a0x3, .int .i64 a0x4] 51)) = W0 at *
    have Z1 : Hid (w.heap.size ≤ W0.heap.size) := hA.size
    have BB1 := hide (BB0.out.trans (hA.mono BB0.out.size))
    clear BB0
    have Yau : Hid (w.heap.size < W0.heap.size) := b1.1
    have Bau1 : Hid (Box W0 (w.heap.size) [.int .i64 a0x0, .int .i64 a0x1, .bool a0x2, .string a0x3, .int .i64 a0x4]) := b1
    clear hA b1
    refine (l_szUnpacker_no _ _ _ _ _ _ _ (by omega) (by omega) (by omega) (by omega)).mono ?_
    rintro e w1 ⟨rfl, hb⟩
    have Z2 : Hid (W0.heap.size ≤ w1.heap.size) := hb.size
    have BB2 := hide (BB1.out.trans (hb.mono BB1.out.size))
    have Bau2 := hide (Bau1.out.below hb)
    clear BB1 Bau1
    clear hb
    go_wp2_with fail
    refine (l_szF_is A m cp l _ _ L (RL.out.below BB2.out) (by omega) (by omega) hm hs hL).mono ?_
    rintro e w2 ⟨rfl, hb⟩
    have Z3 : Hid (w1.heap.size ≤ w2.heap.size) := hb.size
    have BB3 := hide (BB2.out.trans (hb.mono BB2.out.size))
    have Bau3 := hide (Bau2.out.below hb)
    clear BB2 Bau2
    clear hb
    have cau0 := Bau3.out.c 0 rfl
    have cau1 := Bau3.out.c 1 rfl
    have cau2 := Bau3.out.c 2 rfl
    have cau3 := Bau3.out.c 3 rfl
    have cau4 := Bau3.out.c 4 rfl
    go_wp2_with fail
    refine (l_toUnpacker _ _ _ _ _ _).mono ?_
    rintro e w3 ⟨rfl, hb⟩
    clear cau0 cau1 cau2 cau3 cau4
    have Z4 : Hid (w2.heap.size ≤ w3.heap.size) := hb.size
    have BB4 := hide (BB3.out.trans (hb.mono BB3.out.size))
    have Bau4 := hide (Bau3.out.below hb)
    clear BB3 Bau3
    clear hb
    go_wp2_with fail
    refine (l_toFrameS _ _ _ l _ (RL.out.below BB4.out) hm2).mono ?_
    rintro e w4 ⟨vwf, rfl, ho, hb⟩
    obtain ⟨Afw, cfw, rfl⟩ := own_form ho
    have Z5 : Hid (w3.heap.size ≤ w4.heap.size) := hb.size
    have BB5 := hide (BB4.out.trans (hb.mono BB4.out.size))
    have Bau5 := hide (Bau4.out.below hb)
    clear BB4 Bau4
    have Rwf5 := hide ho
    have Dwf : Hid (∀ k, (Value.slice Afw m cfw).ownBlock = some k → w3.heap.size ≤ k ∧ k < w4.heap.size) := fun k hk => ho.lt k hk
    clear ho hb
    go_wp2_with fail
    refine (s_PushFrames _ _ _ _ _ _ _ _ _ _ _ _ _ _ _ (RF.of_own Rwf5.out) hm2 hr2 HD.out TF.out).mono ?_
    rintro e w5 ⟨vw, rfl, ho, hb⟩
    obtain ⟨Aw, cw, rfl⟩ := own_form ho
    have Z6 : Hid (w4.heap.size ≤ w5.heap.size) := hb.size
    have BB6 := hide (BB5.out.trans (hb.mono BB5.out.size))
    have Bau6 := hide (Bau5.out.below hb)
    have Rwf6 := hide (own_below Rwf5.out hb)
    clear BB5 Bau5 Rwf5
    have Rw6 := hide ho
    have Dw : Hid (∀ k, (Value.slice Aw pk.length cw).ownBlock = some k → w4.heap.size ≤ k ∧ k < w5.heap.size) := fun k hk => ho.lt k hk
    clear ho hb
    clear Rwf6 Dwf
    go_wp2_with fail
    obtain ⟨hA, b1⟩ := entry1 w5 #[.int .i64 a0x0, .int .i64 n', .bool y', .string r', .int .i64 o'] 55
    generalize (w5.alloc (.cells #[.int .i64 a0x0, .int .i64 n', .bool y', .string r', .int .i64 o'] 55)) = W5 at *
    have Z7 : Hid (w5.heap.size ≤ W5.heap.size) := hA.size
    have BB7 := hide (BB6.out.trans (hA.mono BB6.out.size))
    have Bau7 := hide (Bau6.out.below hA)
    have Rw7 := hide (own_below Rw6.out hA)
    clear BB6 Bau6 Rw6
    have Yw : Hid (w5.heap.size < W5.heap.size) := b1.1
    have Bw7 : Hid (Box W5 (w5.heap.size) [.int .i64 a0x0, .int .i64 n', .bool y', .string r', .int .i64 o']) := b1
    clear hA b1
    refine (l_toFrameS _ _ _ l _ (RL.out.below BB7.out) hm2).mono ?_
    rintro e w6 ⟨vx, rfl, ho, hb⟩
    obtain ⟨Ax, cx, rfl⟩ := own_form ho
    have Z8 : Hid (W5.heap.size ≤ w6.heap.size) := hb.size
    have BB8 := hide (BB7.out.trans (hb.mono BB7.out.size))
    have Bau8 := hide (Bau7.out.below hb)
    have Bw8 := hide (Bw7.out.below hb)
    have Rw8 := hide (own_below Rw7.out hb)
    clear BB7 Bau7 Bw7 Rw7
    have Rx8 := hide ho
    have Dx : Hid (∀ k, (Value.slice Ax m cx).ownBlock = some k → W5.heap.size ≤ k ∧ k < w6.heap.size) := fun k hk => ho.lt k hk
    clear ho hb
    have cau0 := Bau8.out.c 0 rfl
    have cau1 := Bau8.out.c 1 rfl
    have cau2 := Bau8.out.c 2 rfl
    have cau3 := Bau8.out.c 3 rfl
    have cau4 := Bau8.out.c 4 rfl
    go_wp2_with fail
    refine (l_toUnpacker _ _ _ _ _ _).mono ?_
    rintro e w7 ⟨rfl, hb⟩
    clear cau0 cau1 cau2 cau3 cau4
    have Z9 : Hid (w6.heap.size ≤ w7.heap.size) := hb.size
    have BB9 := hide (BB8.out.trans (hb.mono BB8.out.size))
    have Bau9 := hide (Bau8.out.below hb)
    have Bw9 := hide (Bw8.out.below hb)
    have Rw9 := hide (own_below Rw8.out hb)
    have Rx9 := hide (own_below Rx8.out hb)
    clear BB8 Bau8 Bw8 Rw8 Rx8
    clear hb
    go_wp2_with fail
    refine (i_PushFrames _ _ _ _ _ _ _ _ _ _ _ _ _ _ _ (RF.of_own Rx9.out) hm2 hr2 HD.out TF.out).mono ?_
    rintro e w8 ⟨vg, rfl, ho, hb⟩
    obtain ⟨Ag, cg, rfl⟩ := own_form ho
    have Z10 : Hid (w7.heap.size ≤ w8.heap.size) := hb.size
    have BB10 := hide (BB9.out.trans (hb.mono BB9.out.size))
    have Bau10 := hide (Bau9.out.below hb)
    have Bw10 := hide (Bw9.out.below hb)
    have Rw10 := hide (own_below Rw9.out hb)
    have Rx10 := hide (own_below Rx9.out hb)
    clear BB9 Bau9 Bw9 Rw9 Rx9
    have Rg10 := hide ho
    have Dg : Hid (∀ k, (Value.slice Ag pk.length cg).ownBlock = some k → w7.heap.size ≤ k ∧ k < w8.heap.size) := fun k hk => ho.lt k hk
    clear ho hb
    have cw0 := Bw10.out.c 0 rfl
    have cw1 := Bw10.out.c 1 rfl
    have cw2 := Bw10.out.c 2 rfl
    have cw3 := Bw10.out.c 3 rfl
    have cw4 := Bw10.out.c 4 rfl
    have lw : w5.heap.size < w8.heap.size := Bw10.out.1
    have nw : ¬ w5.heap.size = w8.heap.size := by omega
    go_wp2_with fail
    obtain ⟨hA, b1⟩ := entry1 w8 #[.int .i64 a0x0, .int .i64 n', .bool y', .string r', .int .i64 o'] 55
    generalize (w8.alloc (.cells #[.int .i64 a0x0, .int .i64 n', .bool y', .string r', .int .i64 o'] 55)) = W8 at *
    clear cw0 cw1 cw2 cw3 cw4 lw nw
    have Z11 : Hid (w8.heap.size ≤ W8.heap.size) := hA.size
    have BB11 := hide (BB10.out.trans (hA.mono BB10.out.size))
    have Bau11 := hide (Bau10.out.below hA)
    have Bw11 := hide (Bw10.out.below hA)
    have Rw11 := hide (own_below Rw10.out hA)
    have Rx11 := hide (own_below Rx10.out hA)
    have Rg11 := hide (own_below Rg10.out hA)
    clear BB10 Bau10 Bw10 Rw10 Rx10 Rg10
    have Yg : Hid (w8.heap.size < W8.heap.size) := b1.1
    have Bg11 : Hid (Box W8 (w8.heap.size) [.int .i64 a0x0, .int .i64 n', .bool y', .string r', .int .i64 o']) := b1
    clear hA b1
    refine (l_eqUnpacker _ _ _ _ _ _).mono ?_
    rintro e w9 ⟨rfl, hb⟩
    have Z12 : Hid (W8.heap.size ≤ w9.heap.size) := hb.size
    have BB12 := hide (BB11.out.trans (hb.mono BB11.out.size))
    have Bau12 := hide (Bau11.out.below hb)
    have Bw12 := hide (Bw11.out.below hb)
    have Bg12 := hide (Bg11.out.below hb)
    have Rw12 := hide (own_below Rw11.out hb)
    have Rx12 := hide (own_below Rx11.out hb)
    have Rg12 := hide (own_below Rg11.out hb)
    clear BB11 Bau11 Bw11 Bg11 Rw11 Rx11 Rg11
    clear hb
    go_wp2_with fail
    refine (l_eqPacketS_w _ _ _ _ pk _ Rg12.out Rw12.out hp3).mono ?_
    rintro e w10 ⟨rfl, hb⟩
    have Z13 : Hid (w9.heap.size ≤ w10.heap.size) := hb.size
    have BB13 := hide (BB12.out.trans (hb.mono BB12.out.size))
    have Bau13 := hide (Bau12.out.below hb)
    have Bw13 := hide (Bw12.out.below hb)
    have Bg13 := hide (Bg12.out.below hb)
    have Rw13 := hide (own_below Rw12.out hb)
    have Rx13 := hide (own_below Rx12.out hb)
    have Rg13 := hide (own_below Rg12.out hb)
    clear BB12 Bau12 Bw12 Bg12 Rw12 Rx12 Rg12
    clear hb
    go_wp2_with fail
    refine (l_toFrameS _ _ _ l _ (RL.out.below BB13.out) hm2).mono ?_
    rintro e w11 ⟨vy, rfl, ho, hb⟩
    obtain ⟨Ay, cy, rfl⟩ := own_form ho
    have Z14 : Hid (w10.heap.size ≤ w11.heap.size) := hb.size
    have BB14 := hide (BB13.out.trans (hb.mono BB13.out.size))
    have Bau14 := hide (Bau13.out.below hb)
    have Bw14 := hide (Bw13.out.below hb)
    have Bg14 := hide (Bg13.out.below hb)
    have Rw14 := hide (own_below Rw13.out hb)
    have Rx14 := hide (own_below Rx13.out hb)
    have Rg14 := hide (own_below Rg13.out hb)
    clear BB13 Bau13 Bw13 Bg13 Rw13 Rx13 Rg13
    have Ry14 := hide ho
    have Dy : Hid (∀ k, (Value.slice Ay m cy).ownBlock = some k → w10.heap.size ≤ k ∧ k < w11.heap.size) := fun k hk => ho.lt k hk
    clear ho hb
    go_wp2_with fail
    refine (l_eqF_is _ _ _ _ l _ m hlm Rx14.out Ry14.out hm2).mono ?_
    rintro e w12 ⟨rfl, hb⟩
    have Z15 : Hid (w11.heap.size ≤ w12.heap.size) := hb.size
    have BB15 := hide (BB14.out.trans (hb.mono BB14.out.size))
    have Bau15 := hide (Bau14.out.below hb)
    have Bw15 := hide (Bw14.out.below hb)
    have Bg15 := hide (Bg14.out.below hb)
    have Rw15 := hide (own_below Rw14.out hb)
    have Rx15 := hide (own_below Rx14.out hb)
    have Rg15 := hide (own_below Rg14.out hb)
    have Ry15 := hide (own_below Ry14.out hb)
    clear BB14 Bau14 Bw14 Bg14 Rw14 Rx14 Rg14 Ry14
    clear hb
    go_wp2_with fail
    clear Ry15 Dy
    refine (l_markFrameS (W5.heap.size) m 1 _ (Frs l) _ Rx15.out hm2 (by omega) (by have := Z1.out; have := Yau.out; have := Z2.out; have := Z3.out; have := Z4.out; have := Z5.out; have := Z6.out; have := Z7.out; have := Yw.out; have := Z8.out; have := Z9.out; have := Z10.out; have := Z11.out; have := Yg.out; have := Z12.out; have := Z13.out; have := Z14.out; have := Z15.out; omega)).mono ?_
    rintro e w13 ⟨rfl, ho, hb, hs⟩
    have Z16 : Hid (w12.heap.size ≤ w13.heap.size) := hb.size
    have BB16 := hide (BB15.out.trans (hb.mono (by have := BB15.out.size; have := Z1.out; have := Yau.out; have := Z2.out; have := Z3.out; have := Z4.out; have := Z5.out; have := Z6.out; have := Z7.out; have := Yw.out; have := Z8.out; have := Z9.out; have := Z10.out; have := Z11.out; have := Yg.out; have := Z12.out; have := Z13.out; have := Z14.out; have := Z15.out; omega)))
    have Bau16 := hide (Bau15.out.same hs Z16.out (by intro e; have h := Dx.out _ e; have := Z1.out; have := Yau.out; have := Z2.out; have := Z3.out; have := Z4.out; have := Z5.out; have := Z6.out; have := Z7.out; have := Yw.out; have := Z8.out; have := Z9.out; have := Z10.out; have := Z11.out; have := Yg.out; have := Z12.out; have := Z13.out; have := Z14.out; have := Z15.out; omega))
    have Bw16 := hide (Bw15.out.same hs Z16.out (by intro e; have h := Dx.out _ e; have := Z1.out; have := Yau.out; have := Z2.out; have := Z3.out; have := Z4.out; have := Z5.out; have := Z6.out; have := Z7.out; have := Yw.out; have := Z8.out; have := Z9.out; have := Z10.out; have := Z11.out; have := Yg.out; have := Z12.out; have := Z13.out; have := Z14.out; have := Z15.out; omega))
    have Bg16 := hide (Bg15.out.same hs Z16.out (by intro e; have h := Dx.out _ e; have := Z1.out; have := Yau.out; have := Z2.out; have := Z3.out; have := Z4.out; have := Z5.out; have := Z6.out; have := Z7.out; have := Yw.out; have := Z8.out; have := Z9.out; have := Z10.out; have := Z11.out; have := Yg.out; have := Z12.out; have := Z13.out; have := Z14.out; have := Z15.out; omega))
    have Rw16 := hide (own_apart Rw15.out hs (by intro k hk e; have h := Dx.out _ e; have h2 := Dw.out _ hk; have := Z1.out; have := Yau.out; have := Z2.out; have := Z3.out; have := Z4.out; have := Z5.out; have := Z6.out; have := Z7.out; have := Yw.out; have := Z8.out; have := Z9.out; have := Z10.out; have := Z11.out; have := Yg.out; have := Z12.out; have := Z13.out; have := Z14.out; have := Z15.out; omega))
    have Rg16 := hide (own_apart Rg15.out hs (by intro k hk e; have h := Dx.out _ e; have h2 := Dg.out _ hk; have := Z1.out; have := Yau.out; have := Z2.out; have := Z3.out; have := Z4.out; have := Z5.out; have := Z6.out; have := Z7.out; have := Yw.out; have := Z8.out; have := Z9.out; have := Z10.out; have := Z11.out; have := Yg.out; have := Z12.out; have := Z13.out; have := Z14.out; have := Z15.out; omega))
    clear BB15 Bau15 Bw15 Bg15 Rw15 Rg15
    have Rx16 := hide ho
    clear ho hb hs Rx15
    have q0 : decide (((1 + m * 4 : Nat) : Int) < 0) = false := decide_eq_false (by omega)
    have cg0 := Bg16.out.c 0 rfl
    have cg1 := Bg16.out.c 1 rfl
    have cg2 := Bg16.out.c 2 rfl
    have cg3 := Bg16.out.c 3 rfl
    have cg4 := Bg16.out.c 4 rfl
    have cw0 := Bw16.out.c 0 rfl
    have cw1 := Bw16.out.c 1 rfl
    have cw2 := Bw16.out.c 2 rfl
    have cw3 := Bw16.out.c 3 rfl
    have cw4 := Bw16.out.c 4 rfl
    go_wp2_with fail
    refine (l_eqUnpacker _ _ _ _ _ _).mono ?_
    rintro e w14 ⟨rfl, hb⟩
    clear cg0 cg1 cg2 cg3 cg4 cw0 cw1 cw2 cw3 cw4
    have Z17 : Hid (w13.heap.size ≤ w14.heap.size) := hb.size
    have BB17 := hide (BB16.out.trans (hb.mono BB16.out.size))
    have Bau17 := hide (Bau16.out.below hb)
    have Bw17 := hide (Bw16.out.below hb)
    have Bg17 := hide (Bg16.out.below hb)
    have Rw17 := hide (own_below Rw16.out hb)
    have Rx17 := hide (own_below Rx16.out hb)
    have Rg17 := hide (own_below Rg16.out hb)
    clear BB16 Bau16 Bw16 Bg16 Rw16 Rx16 Rg16
    clear hb
    go_wp2_with fail
    refine (l_eqPacketS_w _ _ _ _ pk _ Rg17.out Rw17.out hp3).mono ?_
    rintro e w15 ⟨rfl, hb⟩
    have Z18 : Hid (w14.heap.size ≤ w15.heap.size) := hb.size
    have BB18 := hide (BB17.out.trans (hb.mono BB17.out.size))
    have Bau18 := hide (Bau17.out.below hb)
    have Bw18 := hide (Bw17.out.below hb)
    have Bg18 := hide (Bg17.out.below hb)
    have Rw18 := hide (own_below Rw17.out hb)
    have Rx18 := hide (own_below Rx17.out hb)
    have Rg18 := hide (own_below Rg17.out hb)
    clear BB17 Bau17 Bw17 Bg17 Rw17 Rx17 Rg17
    clear hb
    go_wp2_with fail
    refine (l_markPacketS_w w7.heap.size pk.length 1 _ (Pks pk) _ Rg18.out hp3 (by omega) (by have := Z1.out; have := Yau.out; have := Z2.out; have := Z3.out; have := Z4.out; have := Z5.out; have := Z6.out; have := Z7.out; have := Yw.out; have := Z8.out; have := Z9.out; have := Z10.out; have := Z11.out; have := Yg.out; have := Z12.out; have := Z13.out; have := Z14.out; have := Z15.out; have := Z16.out; have := Z17.out; have := Z18.out; omega)).mono ?_
    rintro e w16 ⟨rfl, ho, hb⟩
    have Z19 : Hid (w15.heap.size ≤ w16.heap.size) := hb.size
    have BB19 := hide (BB18.out.trans (hb.mono (by have := BB18.out.size; have := Z1.out; have := Yau.out; have := Z2.out; have := Z3.out; have := Z4.out; have := Z5.out; have := Z6.out; have := Z7.out; have := Yw.out; have := Z8.out; have := Z9.out; have := Z10.out; have := Z11.out; have := Yg.out; have := Z12.out; have := Z13.out; have := Z14.out; have := Z15.out; have := Z16.out; have := Z17.out; have := Z18.out; omega)))
    have Bau19 := hide (Bau18.out.belowM (by have := Z1.out; have := Yau.out; have := Z2.out; have := Z3.out; have := Z4.out; have := Z5.out; have := Z6.out; have := Z7.out; have := Yw.out; have := Z8.out; have := Z9.out; have := Z10.out; have := Z11.out; have := Yg.out; have := Z12.out; have := Z13.out; have := Z14.out; have := Z15.out; have := Z16.out; have := Z17.out; have := Z18.out; omega) hb)
    have Bw19 := hide (Bw18.out.belowM (by have := Z1.out; have := Yau.out; have := Z2.out; have := Z3.out; have := Z4.out; have := Z5.out; have := Z6.out; have := Z7.out; have := Yw.out; have := Z8.out; have := Z9.out; have := Z10.out; have := Z11.out; have := Yg.out; have := Z12.out; have := Z13.out; have := Z14.out; have := Z15.out; have := Z16.out; have := Z17.out; have := Z18.out; omega) hb)
    have Rw19 := hide (own_belowM Rw18.out (by intro k hk; have h2 := Dw.out _ hk; have := Z1.out; have := Yau.out; have := Z2.out; have := Z3.out; have := Z4.out; have := Z5.out; have := Z6.out; have := Z7.out; have := Yw.out; have := Z8.out; have := Z9.out; have := Z10.out; have := Z11.out; have := Yg.out; have := Z12.out; have := Z13.out; have := Z14.out; have := Z15.out; have := Z16.out; have := Z17.out; have := Z18.out; omega) hb)
    have Rg19 := hide ho
    clear ho hb
    clear BB18 Bau18 Bw18 Bg18 Rw18 Rg18 Rx18 Dx
    go_wp2_with fail
    refine (l_heldPacketS_w _ pk.length 1 _ _ Rg19.out hp3 (by omega)).mono ?_
    rintro e w17 ⟨rfl, hb⟩
    have Z20 : Hid (w16.heap.size ≤ w17.heap.size) := hb.size
    have BB20 := hide (BB19.out.trans (hb.mono BB19.out.size))
    have Bau20 := hide (Bau19.out.below hb)
    have Bw20 := hide (Bw19.out.below hb)
    have Rw20 := hide (own_below Rw19.out hb)
    have Rg20 := hide (own_below Rg19.out hb)
    clear BB19 Bau19 Bw19 Rw19 Rg19
    clear hb
    have q1 : decide (((1 + pk.length * 3 : Nat) : Int) < 0) = false := decide_eq_false (by omega)
    have cau0 := Bau20.out.c 0 rfl
    have cau1 := Bau20.out.c 1 rfl
    have cau2 := Bau20.out.c 2 rfl
    have cau3 := Bau20.out.c 3 rfl
    have cau4 := Bau20.out.c 4 rfl
    go_wp2_with fail
    refine (l_toUnpacker _ _ _ _ _ _).mono ?_
    rintro e w18 ⟨rfl, hb⟩
    clear cau0 cau1 cau2 cau3 cau4
    have Z21 : Hid (w17.heap.size ≤ w18.heap.size) := hb.size
    have BB21 := hide (BB20.out.trans (hb.mono BB20.out.size))
    have Bau21 := hide (Bau20.out.below hb)
    have Bw21 := hide (Bw20.out.below hb)
    have Rw21 := hide (own_below Rw20.out hb)
    have Rg21 := hide (own_below Rg20.out hb)
    clear BB20 Bau20 Bw20 Rw20 Rg20
    clear hb
    go_wp2_with fail
    refine (l_toFrameS _ _ _ l _ (RL.out.below BB21.out) hm2).mono ?_
    rintro e w19 ⟨vkf, rfl, ho, hb⟩
    obtain ⟨Afk, cfk, rfl⟩ := own_form ho
    have Z22 : Hid (w18.heap.size ≤ w19.heap.size) := hb.size
    have BB22 := hide (BB21.out.trans (hb.mono BB21.out.size))
    have Bau22 := hide (Bau21.out.below hb)
    have Bw22 := hide (Bw21.out.below hb)
    have Rw22 := hide (own_below Rw21.out hb)
    have Rg22 := hide (own_below Rg21.out hb)
    clear BB21 Bau21 Bw21 Rw21 Rg21
    have Rkf22 := hide ho
    have Dkf : Hid (∀ k, (Value.slice Afk m cfk).ownBlock = some k → w18.heap.size ≤ k ∧ k < w19.heap.size) := fun k hk => ho.lt k hk
    clear ho hb
    go_wp2_with fail
    refine (i_PushFrames _ _ _ _ _ _ _ _ _ _ _ _ _ _ _ (RF.of_own Rkf22.out) hm2 hr2 HD.out TF.out).mono ?_
    rintro e w20 ⟨vk, rfl, ho, hb⟩
    obtain ⟨Ak, ck, rfl⟩ := own_form ho
    have Z23 : Hid (w19.heap.size ≤ w20.heap.size) := hb.size
    have BB23 := hide (BB22.out.trans (hb.mono BB22.out.size))
    have Bau23 := hide (Bau22.out.below hb)
    have Bw23 := hide (Bw22.out.below hb)
    have Rw23 := hide (own_below Rw22.out hb)
    have Rg23 := hide (own_below Rg22.out hb)
    have Rkf23 := hide (own_below Rkf22.out hb)
    clear BB22 Bau22 Bw22 Rw22 Rg22 Rkf22
    have Rk23 := hide ho
    have Dk : Hid (∀ k, (Value.slice Ak pk.length ck).ownBlock = some k → w19.heap.size ≤ k ∧ k < w20.heap.size) := fun k hk => ho.lt k hk
    clear ho hb
    clear Rkf23 Dkf
    have cw0 := Bw23.out.c 0 rfl
    have cw1 := Bw23.out.c 1 rfl
    have cw2 := Bw23.out.c 2 rfl
    have cw3 := Bw23.out.c 3 rfl
    have cw4 := Bw23.out.c 4 rfl
    have lw : w5.heap.size < w20.heap.size := Bw23.out.1
    have nw : ¬ w5.heap.size = w20.heap.size := by omega
    go_wp2_with fail
    obtain ⟨hA, b1⟩ := entry1 w20 #[.int .i64 a0x0, .int .i64 n', .bool y', .string r', .int .i64 o'] 55
    generalize (w20.alloc (.cells #[.int .i64 a0x0, .int .i64 n', .bool y', .string r', .int .i64 o'] 55)) = W20 at *
    clear cw0 cw1 cw2 cw3 cw4 lw nw
    have Z24 : Hid (w20.heap.size ≤ W20.heap.size) := hA.size
    have BB24 := hide (BB23.out.trans (hA.mono BB23.out.size))
    have Bau24 := hide (Bau23.out.below hA)
    have Bw24 := hide (Bw23.out.below hA)
    have Rw24 := hide (own_below Rw23.out hA)
    have Rg24 := hide (own_below Rg23.out hA)
    have Rk24 := hide (own_below Rk23.out hA)
    clear BB23 Bau23 Bw23 Rw23 Rg23 Rk23
    have Yk : Hid (w20.heap.size < W20.heap.size) := b1.1
    have Bk24 : Hid (Box W20 (w20.heap.size) [.int .i64 a0x0, .int .i64 n', .bool y', .string r', .int .i64 o']) := b1
    clear hA b1
    refine (l_eqUnpacker _ _ _ _ _ _).mono ?_
    rintro e w21 ⟨rfl, hb⟩
    have Z25 : Hid (W20.heap.size ≤ w21.heap.size) := hb.size
    have BB25 := hide (BB24.out.trans (hb.mono BB24.out.size))
    have Bau25 := hide (Bau24.out.below hb)
    have Bw25 := hide (Bw24.out.below hb)
    have Bk25 := hide (Bk24.out.below hb)
    have Rw25 := hide (own_below Rw24.out hb)
    have Rg25 := hide (own_below Rg24.out hb)
    have Rk25 := hide (own_below Rk24.out hb)
    clear BB24 Bau24 Bw24 Bk24 Rw24 Rg24 Rk24
    clear hb
    go_wp2_with fail
    refine (l_eqPacketS_w _ _ _ _ pk _ Rk25.out Rw25.out hp3).mono ?_
    rintro e w22 ⟨rfl, hb⟩
    have Z26 : Hid (w21.heap.size ≤ w22.heap.size) := hb.size
    have BB26 := hide (BB25.out.trans (hb.mono BB25.out.size))
    have Bau26 := hide (Bau25.out.below hb)
    have Bw26 := hide (Bw25.out.below hb)
    have Bk26 := hide (Bk25.out.below hb)
    have Rw26 := hide (own_below Rw25.out hb)
    have Rg26 := hide (own_below Rg25.out hb)
    have Rk26 := hide (own_below Rk25.out hb)
    clear BB25 Bau25 Bw25 Bk25 Rw25 Rg25 Rk25
    clear hb
    go_wp2_with fail
    refine (l_heldPacketS_w _ pk.length 1 _ _ Rg26.out hp3 (by omega)).mono ?_
    rintro e w23 ⟨rfl, hb⟩
    have Z27 : Hid (w22.heap.size ≤ w23.heap.size) := hb.size
    have BB27 := hide (BB26.out.trans (hb.mono BB26.out.size))
    have Bau27 := hide (Bau26.out.below hb)
    have Bw27 := hide (Bw26.out.below hb)
    have Bk27 := hide (Bk26.out.below hb)
    have Rw27 := hide (own_below Rw26.out hb)
    have Rg27 := hide (own_below Rg26.out hb)
    have Rk27 := hide (own_below Rk26.out hb)
    clear BB26 Bau26 Bw26 Bk26 Rw26 Rg26 Rk26
    clear hb
    go_wp2_with fail
    go_ret
    exact ⟨rfl, BB27.out⟩
set_option maxRecDepth 100000 in
theorem lifted (os : Os) (started : os.Started) (H : Type) (enc : TypeId × Value → H) :
    ReturnsInHanded {} Try.checked os 8 .any (Rows.fnExactPushFramesSpec.pre6 enc Try.prog Try.f8 Rows.fnExactPushFramesRow.domain false) (Rows.fnExactPushFramesSpec.post enc Try.prog Try.f8 false true false false) := by
  refine returnsInHanded_of_change (C := Try.checked) own started (by kernel_rfl) Try.func8
    (ChangeSpec.witness6 (enc := enc) (C := Try.checked) false ⟨#[], #[.agg #[.int .i64 0, .int .i64 0, .bool false, .string ByteArray.empty, .int .i64 0], .slice none 0 0], []⟩ 8 (by kernel_rfl) (by kernel_rfl) (by kernel_rfl) (by kernel_rfl)) ?_
  intro W base args ds gs before hval0 hW hcnd _
  have hval : ∀ (j : Nat) t v, Try.f8.params[j]? = some t → args[j]? = some v → Value.okWide Try.prog W .any base t v := hval0
  have hW' := hW
  obtain ⟨p, q, hA0, hV, rfl, hfz, hnd⟩ := hW
  have hA : DataW.TrodAll enc Try.prog W 0 (fun _ => true) true Try.f8.params.toList args.toList ds p := hA0
  rw [Try.params8] at hA hval
  obtain ⟨v0, vs0, d0, ds0, p0, q0, hargs, rfl, rfl, h0, r0⟩ := trodAll_cons hA
  obtain ⟨v1, vs1, d1, ds1, p1, q1, rfl, rfl, rfl, h1, r1⟩ := trodAll_cons r0
  obtain ⟨rfl, rfl, rfl⟩ := trodAll_nil r1
  obtain rfl : args = #[v0, v1] := by cases args; simp_all
  obtain ⟨rfl, rfl⟩ := trodVars_none hV
  have k0 := h0
  have lt0 : ∀ x ∈ p0, x.block < W.heap.size := by obtain ⟨m, hm⟩ := k0; exact DataW.trod_lt m _ _ _ hm
  obtain ⟨v0x0, v0x1, v0x2, v0x3, v0x4, y0x0, y0x1, y0x2, y0x3, y0x4, n0, rfl, rfl, rfl, f0x0, f0x1, f0x2, f0x3, f0x4⟩ := open_agg5_ Try.underlying51 (by kernel_rfl) (by kernel_rfl) (hval 0 51 v0 rfl rfl) h0
  obtain ⟨a0x0, rfl, b0x0⟩ := field_int Try.underlying3 f0x0
  obtain ⟨a0x1, rfl, b0x1⟩ := field_int Try.underlying3 f0x1
  obtain ⟨a0x2, rfl, b0x2⟩ := field_bool Try.underlying4 f0x2
  obtain ⟨a0x3, rfl, b0x3⟩ := field_string Try.underlying9 f0x3
  obtain ⟨a0x4, rfl, b0x4⟩ := field_int Try.underlying3 f0x4
  have k1 := h1
  have lt1 : ∀ x ∈ p1, x.block < W.heap.size := by obtain ⟨m, hm⟩ := k1; exact DataW.trod_lt m _ _ _ hm
  obtain ⟨a1, len1, cap1, rfl⟩ := okWide_slice Try.underlying65 (hval 1 65 v1 rfl rfl)
  obtain ⟨fu1, hf1⟩ := h1
  obtain ⟨A1, m1, c1, z1, e1, w1, b1, s1⟩ := frames_of Try.underlying65 Try.underlying52 (by kernel_rfl) (by kernel_rfl) Try.underlying3 Try.underlying3 Try.underlying3 Try.underlying9 hf1
  injection e1 with e1 e2 e3
  subst e1
  subst e2
  subst e3
  clear hA0 hval0
  refine (walk a0x0 (bounds_i64 b0x0).1 (bounds_i64 b0x0).2 a0x1 (bounds_i64 b0x1).1 (bounds_i64 b0x1).2 a0x2 a0x3 b0x3 a0x4 (bounds_i64 b0x4).1 (bounds_i64 b0x4).2 a1 len1 cap1 z1 b1 s1 W w1).mono fun e W' ⟨he, bel⟩ => ?_
  subst he
  exact ⟨_, rfl, _, _, _, [], _, [], hW', trodAll_mk1 (shut_bool Try.underlying4 _), (trodAll_cons_mk (Below.trod laidOut (by kernel_rfl) (of_decide_eq_true (by kernel_rfl)) k0 bel lt0) (trodAll_cons_mk (Below.trod laidOut (by kernel_rfl) (of_decide_eq_true (by kernel_rfl)) k1 bel lt1) trodAll_mk0)), rfl, bel.frame _, fun h => by cases h⟩
theorem closed : joinedFacts Try.prog 8 Try.f8 Rows.fnExactPushFramesSpec Rows.fnExactPushFramesRow = true :=
  joined_of (by as_aux_lemma => kernel_rfl) laidOut mapsRowed_ (by as_aux_lemma => kernel_rfl) (by as_aux_lemma => kernel_rfl) (by kernel_rfl) (by as_aux_lemma => kernel_rfl) (by kernel_rfl) (by as_aux_lemma => kernel_rfl)
    (by as_aux_lemma => kernel_rfl) (by as_aux_lemma => kernel_rfl) (by as_aux_lemma => kernel_rfl) (by as_aux_lemma => kernel_rfl) (by as_aux_lemma => kernel_rfl) (by as_aux_lemma => kernel_rfl) (by as_aux_lemma => kernel_rfl) (by as_aux_lemma => kernel_rfl) (by as_aux_lemma => kernel_rfl) (by as_aux_lemma => kernel_rfl)
    (by as_aux_lemma => kernel_rfl) (by as_aux_lemma => kernel_rfl) (by as_aux_lemma => kernel_rfl) (by as_aux_lemma => kernel_rfl) (by kernel_rfl) stopsHeard_ mayEnter_ (by rw [liftsFinal_]; kernel_rfl) (by rw [make_]; kernel_rfl) (by as_aux_lemma => kernel_rfl) (by kernel_rfl) (by as_aux_lemma => kernel_rfl) (by as_aux_lemma => kernel_rfl)
theorem over : Rows.fnExactPushFramesRow.holds Try.pinned (OpenSpec.ofChange Rows.fnExactPushFramesSpec) :=
  OpenClaim.holds_of_wide 8 Try.f8 rfl rfl rfl rfl rfl rfl rfl ⟨rfl, rfl, rfl, rfl, rfl⟩ rfl rfl rfl rfl rfl (by kernel_rfl) Try.func8 closed
    (of_decide_eq_true (by kernel_rfl)) (by unfold Func.isWrapper; first | (rw [if_pos (by decide +kernel)]; kernel_rfl) | (rw [if_neg (by decide +kernel)]; exact ⟨rfl, rfl⟩))
    (fun os started H enc _ => lifted os started H enc)
theorem proved : Rows.FnExactPushFramesSaid := over
#print axioms proved
end Go.Proofs.Ytnelfadmcpacbaa.fnExactPushFrames
