/- The program's TakeFrames returns what the reference's returns, leaves the packer as it was and shares no memory with it, for all packers of at most 2^20 bytes and starts (greater ones the law lets pass). -/
import Derived.Test.YtnelfadmcpacbaaRowPack
import Derived.Test.YtnelfadmcpacbaaTksD
import Derived.Test.YtnelfadmcpacbaaPckF
namespace Go.Proofs.Ytnelfadmcpacbaa.fnExactTakeFrames
open Go.ChangeShapes Go.WideShapes Go.ChangeAt Go.RowKit Sat
open Go.ChangeMaps (open_string shut_string)
set_option linter.unusedVariables false
attribute [local go_sem ↓] Go.wp_at_zero Go.wp_at_succ

set_option maxRecDepth 100000 in
set_option maxHeartbeats 20000000 in
theorem walk (a0x0 : Int) (l0x0 : -9223372036854775808 ≤ a0x0) (u0x0 : a0x0 ≤ 9223372036854775807) (a0x1 : Int) (l0x1 : -9223372036854775808 ≤ a0x1) (u0x1 : a0x1 ≤ 9223372036854775807) (a0x2 : ByteArray) (s0x2 : a0x2.size ≤ maxLen) (A : Option Addr) (n c : Nat) (l : List Int) (hn0 : n ≤ 9223372036854775807) (w : World) (h : RI w A n l) :
    Calls Try.prog 6 #[.agg #[.int .i64 a0x0, .int .i64 a0x1, .string a0x2, .slice A n c]] w fun e w' => e = .returned (.bool true) ∧ Below w.heap.size w w' := by
  unfold maxLen at s0x2
  obtain ⟨hn', h'⟩ := h
  subst hn'
  have h : RI w A l.length l := ⟨rfl, h'⟩
  have H := hide h
  clear h'
  clear h
  by_cases hbig : 1048576 < a0x2.size + l.length
  · go_enter Try.func6, Try.ntmps6
    go_wp2_with fail
    refine (l_szPacker_big _ _ _ _ _ _ _ _ (by omega) (by omega) (by omega) (by omega) (by omega)).mono ?_
    rintro e w1 ⟨rfl, hb⟩
    go_wp2_with fail
    go_ret
    exact ⟨rfl, box_below hb⟩
  · have hsm : a0x2.size + l.length ≤ 1048576 := by omega
    have hn : l.length ≤ 1048576 := by omega
    clear hbig
    obtain ⟨P, hT⟩ : ∃ P, tkAll a0x0 a0x1 a0x2 l = P := ⟨_, rfl⟩
    obtain ⟨⟨bF, rF, lF⟩, fF⟩ := P
    obtain ⟨hfl, hll⟩ := tkAll_len hT
    have hn' : lF.length ≤ 1048576 := by omega
    have TF := hide hT
    clear hT
    go_enter Try.func6, Try.ntmps6
    go_wp2_with fail
    have BB0 := hide (Below.refl w.heap.size w)
    have RI0x := H
    clear H
    obtain ⟨hA, b1⟩ := entry1 w #[.int .i64 a0x0, .int .i64 a0x1, .string a0x2, .slice A l.length c] 24
    generalize (w.alloc (.cells #[.int .i64 a0x0, .int .i64 a0x1, .string a0x2, .slice A l.length c] 24)) = W0 at *
    have Z1 : Hid (w.heap.size ≤ W0.heap.size) := hA.size
    have BB1 := hide (BB0.out.trans (hA.mono BB0.out.size))
    clear BB0
    have Yap : Hid (w.heap.size < W0.heap.size) := b1.1
    have Bap1 : Hid (Box W0 (w.heap.size) [.int .i64 a0x0, .int .i64 a0x1, .string a0x2, .slice A l.length c]) := b1
    clear hA b1
    refine (l_szPacker_no _ _ _ _ _ _ _ _ (by omega) (by omega) (by omega) (by omega)).mono ?_
    rintro e w1 ⟨rfl, hb⟩
    have Z2 : Hid (W0.heap.size ≤ w1.heap.size) := hb.size
    have BB2 := hide (BB1.out.trans (hb.mono BB1.out.size))
    have Bap2 := hide (Bap1.out.below hb)
    clear BB1 Bap1
    clear hb
    have cap0 := Bap2.out.c 0 rfl
    have cap1 := Bap2.out.c 1 rfl
    have cap2 := Bap2.out.c 2 rfl
    have cap3 := Bap2.out.c 3 rfl
    go_wp2_with fail
    refine (l_toPacker _ _ _ _ _ _ l _ (RI0x.out.below BB2.out) hn).mono ?_
    rintro e w2 ⟨vu, rfl, ho, hb⟩
    obtain ⟨Au, cu, rfl⟩ := own_form ho
    clear cap0 cap1 cap2 cap3
    have Z3 : Hid (w1.heap.size ≤ w2.heap.size) := hb.size
    have BB3 := hide (BB2.out.trans (hb.mono BB2.out.size))
    have Bap3 := hide (Bap2.out.below hb)
    clear BB2 Bap2
    have Ru3 := hide ho
    have Du : Hid (∀ k, (Value.slice Au l.length cu).ownBlock = some k → w1.heap.size ≤ k ∧ k < w2.heap.size) := fun k hk => ho.lt k hk
    clear ho hb
    go_wp2_with fail
    refine (s_TakeFrames _ _ _ _ _ _ l _ _ _ _ _ (RI.of_own Ru3.out) (own_nilc Ru3.out) hn (by omega) TF.out).mono ?_
    rintro e w3 ⟨v1, v2, rfl, ho, hof, hap, hb⟩
    obtain ⟨Aw, cw, rfl⟩ := own_form ho
    obtain ⟨Awf, cwf, rfl⟩ := own_form hof
    have Z4 : Hid (w2.heap.size ≤ w3.heap.size) := hb.size
    have BB4 := hide (BB3.out.trans (hb.mono BB3.out.size))
    have Bap4 := hide (Bap3.out.below hb)
    have Ru4 := hide (own_below Ru3.out hb)
    clear BB3 Bap3 Ru3
    have Rw4 := hide ho
    have Dw : Hid (∀ k, (Value.slice Aw lF.length cw).ownBlock = some k → w2.heap.size ≤ k ∧ k < w3.heap.size) := fun k hk => ho.lt k hk
    have Rwf4 := hide hof
    have Dwf : Hid (∀ k, (Value.slice Awf fF.length cwf).ownBlock = some k → w2.heap.size ≤ k ∧ k < w3.heap.size) := fun k hk => hof.lt k hk
    have APw := hide hap
    clear ho hof hap hb
    have cap0 := Bap4.out.c 0 rfl
    have cap1 := Bap4.out.c 1 rfl
    have cap2 := Bap4.out.c 2 rfl
    have cap3 := Bap4.out.c 3 rfl
    have lap : w.heap.size < w3.heap.size := Bap4.out.1
    have nap : ¬ w.heap.size = w3.heap.size := by omega
    go_wp2_with fail
    obtain ⟨hA, b1⟩ := entry1 w3 #[.int .i64 a0x0, .int .i64 bF, .string rF, .slice Aw lF.length cw] 27
    generalize (w3.alloc (.cells #[.int .i64 a0x0, .int .i64 bF, .string rF, .slice Aw lF.length cw] 27)) = W4 at *
    clear cap0 cap1 cap2 cap3 lap nap
    have Z5 : Hid (w3.heap.size ≤ W4.heap.size) := hA.size
    have BB5 := hide (BB4.out.trans (hA.mono BB4.out.size))
    have Bap5 := hide (Bap4.out.below hA)
    have Ru5 := hide (own_below Ru4.out hA)
    have Rw5 := hide (own_below Rw4.out hA)
    have Rwf5 := hide (own_below Rwf4.out hA)
    clear BB4 Bap4 Ru4 Rw4 Rwf4
    have Yw : Hid (w3.heap.size < W4.heap.size) := b1.1
    have Bw5 : Hid (Box W4 (w3.heap.size) [.int .i64 a0x0, .int .i64 bF, .string rF, .slice Aw lF.length cw]) := b1
    clear hA b1
    refine (l_toPacker _ _ _ _ _ _ l _ (RI0x.out.below BB5.out) hn).mono ?_
    rintro e w5 ⟨vx, rfl, ho, hb⟩
    obtain ⟨Ax, cx, rfl⟩ := own_form ho
    have Z6 : Hid (W4.heap.size ≤ w5.heap.size) := hb.size
    have BB6 := hide (BB5.out.trans (hb.mono BB5.out.size))
    have Bap6 := hide (Bap5.out.below hb)
    have Bw6 := hide (Bw5.out.below hb)
    have Ru6 := hide (own_below Ru5.out hb)
    have Rw6 := hide (own_below Rw5.out hb)
    have Rwf6 := hide (own_below Rwf5.out hb)
    clear BB5 Bap5 Bw5 Ru5 Rw5 Rwf5
    have Rx6 := hide ho
    have Dx : Hid (∀ k, (Value.slice Ax l.length cx).ownBlock = some k → W4.heap.size ≤ k ∧ k < w5.heap.size) := fun k hk => ho.lt k hk
    clear ho hb
    go_wp2_with fail
    obtain ⟨hA, b1⟩ := entry1 w5 #[.int .i64 a0x0, .int .i64 a0x1, .string a0x2, .slice Ax l.length cx] 27
    generalize (w5.alloc (.cells #[.int .i64 a0x0, .int .i64 a0x1, .string a0x2, .slice Ax l.length cx] 27)) = W6 at *
    have Z7 : Hid (w5.heap.size ≤ W6.heap.size) := hA.size
    have BB7 := hide (BB6.out.trans (hA.mono BB6.out.size))
    have Bap7 := hide (Bap6.out.below hA)
    have Bw7 := hide (Bw6.out.below hA)
    have Ru7 := hide (own_below Ru6.out hA)
    have Rw7 := hide (own_below Rw6.out hA)
    have Rwf7 := hide (own_below Rwf6.out hA)
    have Rx7 := hide (own_below Rx6.out hA)
    clear BB6 Bap6 Bw6 Ru6 Rw6 Rwf6 Rx6
    have Yx : Hid (w5.heap.size < W6.heap.size) := b1.1
    have Bx7 : Hid (Box W6 (w5.heap.size) [.int .i64 a0x0, .int .i64 a0x1, .string a0x2, .slice Ax l.length cx]) := b1
    clear hA b1
    refine (i_TakeFrames _ _ _ _ _ _ l _ _ _ _ _ (RI.of_own Rx7.out) hn (by omega) TF.out).mono ?_
    rintro e w7 ⟨v1, v2, rfl, ho, hof, hap, hb⟩
    obtain ⟨Ag, cg, rfl⟩ := own_form ho
    obtain ⟨Agf, cgf, rfl⟩ := own_form hof
    have Z8 : Hid (W6.heap.size ≤ w7.heap.size) := hb.size
    have BB8 := hide (BB7.out.trans (hb.mono BB7.out.size))
    have Bap8 := hide (Bap7.out.below hb)
    have Bw8 := hide (Bw7.out.below hb)
    have Bx8 := hide (Bx7.out.below hb)
    have Ru8 := hide (own_below Ru7.out hb)
    have Rw8 := hide (own_below Rw7.out hb)
    have Rwf8 := hide (own_below Rwf7.out hb)
    have Rx8 := hide (own_below Rx7.out hb)
    clear BB7 Bap7 Bw7 Bx7 Ru7 Rw7 Rwf7 Rx7
    have Rg8 := hide ho
    have Dg : Hid (∀ k, (Value.slice Ag lF.length cg).ownBlock = some k → W6.heap.size ≤ k ∧ k < w7.heap.size) := fun k hk => ho.lt k hk
    have Rgf8 := hide hof
    have Dgf : Hid (∀ k, (Value.slice Agf fF.length cgf).ownBlock = some k → W6.heap.size ≤ k ∧ k < w7.heap.size) := fun k hk => hof.lt k hk
    have APg := hide hap
    clear ho hof hap hb
    have cw0 := Bw8.out.c 0 rfl
    have cw1 := Bw8.out.c 1 rfl
    have cw2 := Bw8.out.c 2 rfl
    have cw3 := Bw8.out.c 3 rfl
    have lw : w3.heap.size < w7.heap.size := Bw8.out.1
    have nw : ¬ w3.heap.size = w7.heap.size := by omega
    go_wp2_with fail
    obtain ⟨hA, b1⟩ := entry1 w7 #[.int .i64 a0x0, .int .i64 bF, .string rF, .slice Ag lF.length cg] 27
    generalize (w7.alloc (.cells #[.int .i64 a0x0, .int .i64 bF, .string rF, .slice Ag lF.length cg] 27)) = W8 at *
    clear cw0 cw1 cw2 cw3 lw nw
    have Z9 : Hid (w7.heap.size ≤ W8.heap.size) := hA.size
    have BB9 := hide (BB8.out.trans (hA.mono BB8.out.size))
    have Bap9 := hide (Bap8.out.below hA)
    have Bw9 := hide (Bw8.out.below hA)
    have Bx9 := hide (Bx8.out.below hA)
    have Ru9 := hide (own_below Ru8.out hA)
    have Rw9 := hide (own_below Rw8.out hA)
    have Rwf9 := hide (own_below Rwf8.out hA)
    have Rx9 := hide (own_below Rx8.out hA)
    have Rg9 := hide (own_below Rg8.out hA)
    have Rgf9 := hide (own_below Rgf8.out hA)
    clear BB8 Bap8 Bw8 Bx8 Ru8 Rw8 Rwf8 Rx8 Rg8 Rgf8
    have Yg : Hid (w7.heap.size < W8.heap.size) := b1.1
    have Bg9 : Hid (Box W8 (w7.heap.size) [.int .i64 a0x0, .int .i64 bF, .string rF, .slice Ag lF.length cg]) := b1
    clear hA b1
    refine (l_eqPacker _ _ _ _ _ _ _ lF _ Rg9.out Rw9.out hn').mono ?_
    rintro e w9 ⟨rfl, hb⟩
    have Z10 : Hid (W8.heap.size ≤ w9.heap.size) := hb.size
    have BB10 := hide (BB9.out.trans (hb.mono BB9.out.size))
    have Bap10 := hide (Bap9.out.below hb)
    have Bw10 := hide (Bw9.out.below hb)
    have Bx10 := hide (Bx9.out.below hb)
    have Bg10 := hide (Bg9.out.below hb)
    have Ru10 := hide (own_below Ru9.out hb)
    have Rw10 := hide (own_below Rw9.out hb)
    have Rwf10 := hide (own_below Rwf9.out hb)
    have Rx10 := hide (own_below Rx9.out hb)
    have Rg10 := hide (own_below Rg9.out hb)
    have Rgf10 := hide (own_below Rgf9.out hb)
    clear BB9 Bap9 Bw9 Bx9 Bg9 Ru9 Rw9 Rwf9 Rx9 Rg9 Rgf9
    clear hb
    go_wp2_with fail
    refine (l_eqFrameS _ _ _ _ fF _ Rgf10.out Rwf10.out (by omega)).mono ?_
    rintro e w10 ⟨rfl, hb⟩
    have Z11 : Hid (w9.heap.size ≤ w10.heap.size) := hb.size
    have BB11 := hide (BB10.out.trans (hb.mono BB10.out.size))
    have Bap11 := hide (Bap10.out.below hb)
    have Bw11 := hide (Bw10.out.below hb)
    have Bx11 := hide (Bx10.out.below hb)
    have Bg11 := hide (Bg10.out.below hb)
    have Ru11 := hide (own_below Ru10.out hb)
    have Rw11 := hide (own_below Rw10.out hb)
    have Rwf11 := hide (own_below Rwf10.out hb)
    have Rx11 := hide (own_below Rx10.out hb)
    have Rg11 := hide (own_below Rg10.out hb)
    have Rgf11 := hide (own_below Rgf10.out hb)
    clear BB10 Bap10 Bw10 Bx10 Bg10 Ru10 Rw10 Rwf10 Rx10 Rg10 Rgf10
    clear hb
    have cap0 := Bap11.out.c 0 rfl
    have cap1 := Bap11.out.c 1 rfl
    have cap2 := Bap11.out.c 2 rfl
    have cap3 := Bap11.out.c 3 rfl
    have cx0 := Bx11.out.c 0 rfl
    have cx1 := Bx11.out.c 1 rfl
    have cx2 := Bx11.out.c 2 rfl
    have cx3 := Bx11.out.c 3 rfl
    go_wp2_with fail
    have RIc := hide (RI0x.out.below BB11.out)
    go_region_held3 (fun w' => w'.cell? ⟨w.heap.size, 0, none⟩ = some (.int .i64 a0x0) ∧ w'.cell? ⟨w.heap.size, 1, none⟩ = some (.int .i64 a0x1) ∧ w'.cell? ⟨w.heap.size, 2, none⟩ = some (.string a0x2) ∧ w'.cell? ⟨w.heap.size, 3, none⟩ = some (.slice A l.length c) ∧ w'.cell? ⟨w5.heap.size, 0, none⟩ = some (.int .i64 a0x0) ∧ w'.cell? ⟨w5.heap.size, 1, none⟩ = some (.int .i64 a0x1) ∧ w'.cell? ⟨w5.heap.size, 2, none⟩ = some (.string a0x2) ∧ w'.cell? ⟨w5.heap.size, 3, none⟩ = some (.slice Ax l.length cx)) (first | go_keep | exact ⟨(Bap11.out.below ‹Below w10.heap.size w10 _›).c 0 rfl, (Bap11.out.below ‹Below w10.heap.size w10 _›).c 1 rfl, (Bap11.out.below ‹Below w10.heap.size w10 _›).c 2 rfl, (Bap11.out.below ‹Below w10.heap.size w10 _›).c 3 rfl, (Bx11.out.below ‹Below w10.heap.size w10 _›).c 0 rfl, (Bx11.out.below ‹Below w10.heap.size w10 _›).c 1 rfl, (Bx11.out.below ‹Below w10.heap.size w10 _›).c 2 rfl, (Bx11.out.below ‹Below w10.heap.size w10 _›).c 3 rfl⟩) (first | (go_at_call 12; (first | refine (l_toPacker _ _ _ _ _ _ l _ (show RI w10.drew A l.length l from RIc.out) hn).mono ?_ | refine (l_toPacker _ _ _ _ _ _ l _ RIc.out hn).mono ?_); rintro e w11 ⟨v7, rfl, ho7, hb7⟩; obtain ⟨A7, c7, rfl⟩ := own_form ho7; (first | replace hb7 : Below w10.heap.size w10 w11 := below_undrew hb7 | skip); have P7 := hide ho7; clear ho7) | (go_at_call 14; (first | refine (l_eqPacker _ _ _ _ _ _ _ l _ (own_below Rx11.out hb7) P7.out hn).mono ?_ | refine (l_eqPacker _ _ _ _ _ _ _ l _ (own_below Rx11.out hb7).drew P7.out.drew hn).mono ?_); rintro e w12 ⟨rfl, hb8⟩; (first | replace hb8 : Below w11.heap.size w11 w12 := below_undrew hb8 | skip); replace hb8 : Below w10.heap.size w10 w12 := below_trans hb7 hb8))
    all_goals
      clear hb7 P7 RIc
      clear cap0 cap1 cap2 cap3 cx0 cx1 cx2 cx3
      have Z12 : Hid (w10.heap.size ≤ w12.heap.size) := hb8.size
      have BB12 := hide (BB11.out.trans (hb8.mono BB11.out.size))
      have Bap12 := hide (Bap11.out.below hb8)
      have Bw12 := hide (Bw11.out.below hb8)
      have Bx12 := hide (Bx11.out.below hb8)
      have Bg12 := hide (Bg11.out.below hb8)
      have Ru12 := hide (own_below Ru11.out hb8)
      have Rw12 := hide (own_below Rw11.out hb8)
      have Rwf12 := hide (own_below Rwf11.out hb8)
      have Rx12 := hide (own_below Rx11.out hb8)
      have Rg12 := hide (own_below Rg11.out hb8)
      have Rgf12 := hide (own_below Rgf11.out hb8)
      clear BB11 Bap11 Bw11 Bx11 Bg11 Ru11 Rw11 Rwf11 Rx11 Rg11 Rgf11
      clear hb8
      have cx0 := Bx12.out.c 0 rfl
      have cx1 := Bx12.out.c 1 rfl
      have cx2 := Bx12.out.c 2 rfl
      have cx3 := Bx12.out.c 3 rfl
      go_wp2_with fail
      refine (l_markPacker _ _ _ (W4.heap.size) l.length 1 _ (Is l) _ Rx12.out hn (by omega) (by have := Z1.out; have := Yap.out; have := Z2.out; have := Z3.out; have := Z4.out; have := Z5.out; have := Yw.out; have := Z6.out; have := Z7.out; have := Yx.out; have := Z8.out; have := Z9.out; have := Yg.out; have := Z10.out; have := Z11.out; have := Z12.out; omega)).mono ?_
      rintro e w13 ⟨rfl, ho, hb, hs⟩
      clear cx0 cx1 cx2 cx3
      have Z13 : Hid (w12.heap.size ≤ w13.heap.size) := hb.size
      have BB13 := hide (BB12.out.trans (hb.mono (by have := BB12.out.size; have := Z1.out; have := Yap.out; have := Z2.out; have := Z3.out; have := Z4.out; have := Z5.out; have := Yw.out; have := Z6.out; have := Z7.out; have := Yx.out; have := Z8.out; have := Z9.out; have := Yg.out; have := Z10.out; have := Z11.out; have := Z12.out; omega)))
      have Bap13 := hide (Bap12.out.same hs Z13.out (by intro e; have h := Dx.out _ e; have := Z1.out; have := Yap.out; have := Z2.out; have := Z3.out; have := Z4.out; have := Z5.out; have := Yw.out; have := Z6.out; have := Z7.out; have := Yx.out; have := Z8.out; have := Z9.out; have := Yg.out; have := Z10.out; have := Z11.out; have := Z12.out; omega))
      have Bw13 := hide (Bw12.out.same hs Z13.out (by intro e; have h := Dx.out _ e; have := Z1.out; have := Yap.out; have := Z2.out; have := Z3.out; have := Z4.out; have := Z5.out; have := Yw.out; have := Z6.out; have := Z7.out; have := Yx.out; have := Z8.out; have := Z9.out; have := Yg.out; have := Z10.out; have := Z11.out; have := Z12.out; omega))
      have Bx13 := hide (Bx12.out.same hs Z13.out (by intro e; have h := Dx.out _ e; have := Z1.out; have := Yap.out; have := Z2.out; have := Z3.out; have := Z4.out; have := Z5.out; have := Yw.out; have := Z6.out; have := Z7.out; have := Yx.out; have := Z8.out; have := Z9.out; have := Yg.out; have := Z10.out; have := Z11.out; have := Z12.out; omega))
      have Bg13 := hide (Bg12.out.same hs Z13.out (by intro e; have h := Dx.out _ e; have := Z1.out; have := Yap.out; have := Z2.out; have := Z3.out; have := Z4.out; have := Z5.out; have := Yw.out; have := Z6.out; have := Z7.out; have := Yx.out; have := Z8.out; have := Z9.out; have := Yg.out; have := Z10.out; have := Z11.out; have := Z12.out; omega))
      have Ru13 := hide (own_apart Ru12.out hs (by intro k hk e; have h := Dx.out _ e; have h2 := Du.out _ hk; have := Z1.out; have := Yap.out; have := Z2.out; have := Z3.out; have := Z4.out; have := Z5.out; have := Yw.out; have := Z6.out; have := Z7.out; have := Yx.out; have := Z8.out; have := Z9.out; have := Yg.out; have := Z10.out; have := Z11.out; have := Z12.out; omega))
      have Rw13 := hide (own_apart Rw12.out hs (by intro k hk e; have h := Dx.out _ e; have h2 := Dw.out _ hk; have := Z1.out; have := Yap.out; have := Z2.out; have := Z3.out; have := Z4.out; have := Z5.out; have := Yw.out; have := Z6.out; have := Z7.out; have := Yx.out; have := Z8.out; have := Z9.out; have := Yg.out; have := Z10.out; have := Z11.out; have := Z12.out; omega))
      have Rwf13 := hide (own_apart Rwf12.out hs (by intro k hk e; have h := Dx.out _ e; have h2 := Dwf.out _ hk; have := Z1.out; have := Yap.out; have := Z2.out; have := Z3.out; have := Z4.out; have := Z5.out; have := Yw.out; have := Z6.out; have := Z7.out; have := Yx.out; have := Z8.out; have := Z9.out; have := Yg.out; have := Z10.out; have := Z11.out; have := Z12.out; omega))
      have Rg13 := hide (own_apart Rg12.out hs (by intro k hk e; have h := Dx.out _ e; have h2 := Dg.out _ hk; have := Z1.out; have := Yap.out; have := Z2.out; have := Z3.out; have := Z4.out; have := Z5.out; have := Yw.out; have := Z6.out; have := Z7.out; have := Yx.out; have := Z8.out; have := Z9.out; have := Yg.out; have := Z10.out; have := Z11.out; have := Z12.out; omega))
      have Rgf13 := hide (own_apart Rgf12.out hs (by intro k hk e; have h := Dx.out _ e; have h2 := Dgf.out _ hk; have := Z1.out; have := Yap.out; have := Z2.out; have := Z3.out; have := Z4.out; have := Z5.out; have := Yw.out; have := Z6.out; have := Z7.out; have := Yx.out; have := Z8.out; have := Z9.out; have := Yg.out; have := Z10.out; have := Z11.out; have := Z12.out; omega))
      clear BB12 Bap12 Bw12 Bx12 Bg12 Ru12 Rw12 Rwf12 Rg12 Rgf12
      have Rx13 := hide ho
      clear ho hb hs Rx12
      have cg0 := Bg13.out.c 0 rfl
      have cg1 := Bg13.out.c 1 rfl
      have cg2 := Bg13.out.c 2 rfl
      have cg3 := Bg13.out.c 3 rfl
      have cw0 := Bw13.out.c 0 rfl
      have cw1 := Bw13.out.c 1 rfl
      have cw2 := Bw13.out.c 2 rfl
      have cw3 := Bw13.out.c 3 rfl
      go_wp2_with fail
      refine (l_eqPacker _ _ _ _ _ _ _ lF _ Rg13.out Rw13.out hn').mono ?_
      rintro e w14 ⟨rfl, hb⟩
      clear cg0 cg1 cg2 cg3 cw0 cw1 cw2 cw3
      have Z14 : Hid (w13.heap.size ≤ w14.heap.size) := hb.size
      have BB14 := hide (BB13.out.trans (hb.mono BB13.out.size))
      have Bap14 := hide (Bap13.out.below hb)
      have Bw14 := hide (Bw13.out.below hb)
      have Bx14 := hide (Bx13.out.below hb)
      have Bg14 := hide (Bg13.out.below hb)
      have Ru14 := hide (own_below Ru13.out hb)
      have Rw14 := hide (own_below Rw13.out hb)
      have Rwf14 := hide (own_below Rwf13.out hb)
      have Rx14 := hide (own_below Rx13.out hb)
      have Rg14 := hide (own_below Rg13.out hb)
      have Rgf14 := hide (own_below Rgf13.out hb)
      clear BB13 Bap13 Bw13 Bx13 Bg13 Ru13 Rw13 Rwf13 Rx13 Rg13 Rgf13
      clear hb
      go_wp2_with fail
      refine (l_eqFrameS _ _ _ _ fF _ Rgf14.out Rwf14.out (by omega)).mono ?_
      rintro e w15 ⟨rfl, hb⟩
      have Z15 : Hid (w14.heap.size ≤ w15.heap.size) := hb.size
      have BB15 := hide (BB14.out.trans (hb.mono BB14.out.size))
      have Bap15 := hide (Bap14.out.below hb)
      have Bw15 := hide (Bw14.out.below hb)
      have Bx15 := hide (Bx14.out.below hb)
      have Bg15 := hide (Bg14.out.below hb)
      have Ru15 := hide (own_below Ru14.out hb)
      have Rw15 := hide (own_below Rw14.out hb)
      have Rwf15 := hide (own_below Rwf14.out hb)
      have Rx15 := hide (own_below Rx14.out hb)
      have Rg15 := hide (own_below Rg14.out hb)
      have Rgf15 := hide (own_below Rgf14.out hb)
      clear BB14 Bap14 Bw14 Bx14 Bg14 Ru14 Rw14 Rwf14 Rx14 Rg14 Rgf14
      clear hb
      have cg0 := Bg15.out.c 0 rfl
      have cg1 := Bg15.out.c 1 rfl
      have cg2 := Bg15.out.c 2 rfl
      have cg3 := Bg15.out.c 3 rfl
      go_wp2_with fail
      refine (l_markPacker _ _ _ (W6.heap.size) lF.length 1 _ (Is lF) _ Rg15.out hn' (by omega) (by have := Z1.out; have := Yap.out; have := Z2.out; have := Z3.out; have := Z4.out; have := Z5.out; have := Yw.out; have := Z6.out; have := Z7.out; have := Yx.out; have := Z8.out; have := Z9.out; have := Yg.out; have := Z10.out; have := Z11.out; have := Z12.out; have := Z13.out; have := Z14.out; have := Z15.out; omega)).mono ?_
      rintro e w16 ⟨rfl, ho, hb, hs⟩
      clear cg0 cg1 cg2 cg3
      have Z16 : Hid (w15.heap.size ≤ w16.heap.size) := hb.size
      have BB16 := hide (BB15.out.trans (hb.mono (by have := BB15.out.size; have := Z1.out; have := Yap.out; have := Z2.out; have := Z3.out; have := Z4.out; have := Z5.out; have := Yw.out; have := Z6.out; have := Z7.out; have := Yx.out; have := Z8.out; have := Z9.out; have := Yg.out; have := Z10.out; have := Z11.out; have := Z12.out; have := Z13.out; have := Z14.out; have := Z15.out; omega)))
      have Bap16 := hide (Bap15.out.same hs Z16.out (by intro e; have h := Dg.out _ e; have := Z1.out; have := Yap.out; have := Z2.out; have := Z3.out; have := Z4.out; have := Z5.out; have := Yw.out; have := Z6.out; have := Z7.out; have := Yx.out; have := Z8.out; have := Z9.out; have := Yg.out; have := Z10.out; have := Z11.out; have := Z12.out; have := Z13.out; have := Z14.out; have := Z15.out; omega))
      have Bw16 := hide (Bw15.out.same hs Z16.out (by intro e; have h := Dg.out _ e; have := Z1.out; have := Yap.out; have := Z2.out; have := Z3.out; have := Z4.out; have := Z5.out; have := Yw.out; have := Z6.out; have := Z7.out; have := Yx.out; have := Z8.out; have := Z9.out; have := Yg.out; have := Z10.out; have := Z11.out; have := Z12.out; have := Z13.out; have := Z14.out; have := Z15.out; omega))
      have Bx16 := hide (Bx15.out.same hs Z16.out (by intro e; have h := Dg.out _ e; have := Z1.out; have := Yap.out; have := Z2.out; have := Z3.out; have := Z4.out; have := Z5.out; have := Yw.out; have := Z6.out; have := Z7.out; have := Yx.out; have := Z8.out; have := Z9.out; have := Yg.out; have := Z10.out; have := Z11.out; have := Z12.out; have := Z13.out; have := Z14.out; have := Z15.out; omega))
      have Bg16 := hide (Bg15.out.same hs Z16.out (by intro e; have h := Dg.out _ e; have := Z1.out; have := Yap.out; have := Z2.out; have := Z3.out; have := Z4.out; have := Z5.out; have := Yw.out; have := Z6.out; have := Z7.out; have := Yx.out; have := Z8.out; have := Z9.out; have := Yg.out; have := Z10.out; have := Z11.out; have := Z12.out; have := Z13.out; have := Z14.out; have := Z15.out; omega))
      have Ru16 := hide (own_apart Ru15.out hs (by intro k hk e; have h := Dg.out _ e; have h2 := Du.out _ hk; have := Z1.out; have := Yap.out; have := Z2.out; have := Z3.out; have := Z4.out; have := Z5.out; have := Yw.out; have := Z6.out; have := Z7.out; have := Yx.out; have := Z8.out; have := Z9.out; have := Yg.out; have := Z10.out; have := Z11.out; have := Z12.out; have := Z13.out; have := Z14.out; have := Z15.out; omega))
      have Rw16 := hide (own_apart Rw15.out hs (by intro k hk e; have h := Dg.out _ e; have h2 := Dw.out _ hk; have := Z1.out; have := Yap.out; have := Z2.out; have := Z3.out; have := Z4.out; have := Z5.out; have := Yw.out; have := Z6.out; have := Z7.out; have := Yx.out; have := Z8.out; have := Z9.out; have := Yg.out; have := Z10.out; have := Z11.out; have := Z12.out; have := Z13.out; have := Z14.out; have := Z15.out; omega))
      have Rwf16 := hide (own_apart Rwf15.out hs (by intro k hk e; have h := Dg.out _ e; have h2 := Dwf.out _ hk; have := Z1.out; have := Yap.out; have := Z2.out; have := Z3.out; have := Z4.out; have := Z5.out; have := Yw.out; have := Z6.out; have := Z7.out; have := Yx.out; have := Z8.out; have := Z9.out; have := Yg.out; have := Z10.out; have := Z11.out; have := Z12.out; have := Z13.out; have := Z14.out; have := Z15.out; omega))
      have Rx16 := hide (own_apart Rx15.out hs (by intro k hk e; have h := Dg.out _ e; have h2 := Dx.out _ hk; have := Z1.out; have := Yap.out; have := Z2.out; have := Z3.out; have := Z4.out; have := Z5.out; have := Yw.out; have := Z6.out; have := Z7.out; have := Yx.out; have := Z8.out; have := Z9.out; have := Yg.out; have := Z10.out; have := Z11.out; have := Z12.out; have := Z13.out; have := Z14.out; have := Z15.out; omega))
      have Rgf16 := hide (own_apart Rgf15.out hs (fun k h1 h2 => APg.out k h2 h1))
      clear BB15 Bap15 Bw15 Bx15 Bg15 Ru15 Rw15 Rwf15 Rx15 Rgf15
      have Rg16 := hide ho
      clear ho hb hs Rg15
      go_wp2_with fail
      refine (l_markFrameS (W6.heap.size) fF.length (1 + lF.length) _ (Frs fF) _ Rgf16.out (by omega) (by omega) (by have := Z1.out; have := Yap.out; have := Z2.out; have := Z3.out; have := Z4.out; have := Z5.out; have := Yw.out; have := Z6.out; have := Z7.out; have := Yx.out; have := Z8.out; have := Z9.out; have := Yg.out; have := Z10.out; have := Z11.out; have := Z12.out; have := Z13.out; have := Z14.out; have := Z15.out; have := Z16.out; omega)).mono ?_
      rintro e w17 ⟨rfl, ho, hb, hs⟩
      have Z17 : Hid (w16.heap.size ≤ w17.heap.size) := hb.size
      have BB17 := hide (BB16.out.trans (hb.mono (by have := BB16.out.size; have := Z1.out; have := Yap.out; have := Z2.out; have := Z3.out; have := Z4.out; have := Z5.out; have := Yw.out; have := Z6.out; have := Z7.out; have := Yx.out; have := Z8.out; have := Z9.out; have := Yg.out; have := Z10.out; have := Z11.out; have := Z12.out; have := Z13.out; have := Z14.out; have := Z15.out; have := Z16.out; omega)))
      have Bap17 := hide (Bap16.out.same hs Z17.out (by intro e; have h := Dgf.out _ e; have := Z1.out; have := Yap.out; have := Z2.out; have := Z3.out; have := Z4.out; have := Z5.out; have := Yw.out; have := Z6.out; have := Z7.out; have := Yx.out; have := Z8.out; have := Z9.out; have := Yg.out; have := Z10.out; have := Z11.out; have := Z12.out; have := Z13.out; have := Z14.out; have := Z15.out; have := Z16.out; omega))
      have Bw17 := hide (Bw16.out.same hs Z17.out (by intro e; have h := Dgf.out _ e; have := Z1.out; have := Yap.out; have := Z2.out; have := Z3.out; have := Z4.out; have := Z5.out; have := Yw.out; have := Z6.out; have := Z7.out; have := Yx.out; have := Z8.out; have := Z9.out; have := Yg.out; have := Z10.out; have := Z11.out; have := Z12.out; have := Z13.out; have := Z14.out; have := Z15.out; have := Z16.out; omega))
      have Bx17 := hide (Bx16.out.same hs Z17.out (by intro e; have h := Dgf.out _ e; have := Z1.out; have := Yap.out; have := Z2.out; have := Z3.out; have := Z4.out; have := Z5.out; have := Yw.out; have := Z6.out; have := Z7.out; have := Yx.out; have := Z8.out; have := Z9.out; have := Yg.out; have := Z10.out; have := Z11.out; have := Z12.out; have := Z13.out; have := Z14.out; have := Z15.out; have := Z16.out; omega))
      have Bg17 := hide (Bg16.out.same hs Z17.out (by intro e; have h := Dgf.out _ e; have := Z1.out; have := Yap.out; have := Z2.out; have := Z3.out; have := Z4.out; have := Z5.out; have := Yw.out; have := Z6.out; have := Z7.out; have := Yx.out; have := Z8.out; have := Z9.out; have := Yg.out; have := Z10.out; have := Z11.out; have := Z12.out; have := Z13.out; have := Z14.out; have := Z15.out; have := Z16.out; omega))
      have Ru17 := hide (own_apart Ru16.out hs (by intro k hk e; have h := Dgf.out _ e; have h2 := Du.out _ hk; have := Z1.out; have := Yap.out; have := Z2.out; have := Z3.out; have := Z4.out; have := Z5.out; have := Yw.out; have := Z6.out; have := Z7.out; have := Yx.out; have := Z8.out; have := Z9.out; have := Yg.out; have := Z10.out; have := Z11.out; have := Z12.out; have := Z13.out; have := Z14.out; have := Z15.out; have := Z16.out; omega))
      have Rw17 := hide (own_apart Rw16.out hs (by intro k hk e; have h := Dgf.out _ e; have h2 := Dw.out _ hk; have := Z1.out; have := Yap.out; have := Z2.out; have := Z3.out; have := Z4.out; have := Z5.out; have := Yw.out; have := Z6.out; have := Z7.out; have := Yx.out; have := Z8.out; have := Z9.out; have := Yg.out; have := Z10.out; have := Z11.out; have := Z12.out; have := Z13.out; have := Z14.out; have := Z15.out; have := Z16.out; omega))
      have Rwf17 := hide (own_apart Rwf16.out hs (by intro k hk e; have h := Dgf.out _ e; have h2 := Dwf.out _ hk; have := Z1.out; have := Yap.out; have := Z2.out; have := Z3.out; have := Z4.out; have := Z5.out; have := Yw.out; have := Z6.out; have := Z7.out; have := Yx.out; have := Z8.out; have := Z9.out; have := Yg.out; have := Z10.out; have := Z11.out; have := Z12.out; have := Z13.out; have := Z14.out; have := Z15.out; have := Z16.out; omega))
      have Rx17 := hide (own_apart Rx16.out hs (by intro k hk e; have h := Dgf.out _ e; have h2 := Dx.out _ hk; have := Z1.out; have := Yap.out; have := Z2.out; have := Z3.out; have := Z4.out; have := Z5.out; have := Yw.out; have := Z6.out; have := Z7.out; have := Yx.out; have := Z8.out; have := Z9.out; have := Yg.out; have := Z10.out; have := Z11.out; have := Z12.out; have := Z13.out; have := Z14.out; have := Z15.out; have := Z16.out; omega))
      have Rg17 := hide (own_apart Rg16.out hs APg.out)
      clear BB16 Bap16 Bw16 Bx16 Bg16 Ru16 Rw16 Rwf16 Rx16 Rg16
      have Rgf17 := hide ho
      clear ho hb hs Rgf16
      have q0 : decide (((1 + lF.length : Nat) : Int) < 0) = false := decide_eq_false (by omega)
      have q1 : decide (((1 + lF.length + fF.length * 4 : Nat) : Int) < 0) = false := decide_eq_false (by omega)
      have cg0 := Bg17.out.c 0 rfl
      have cg1 := Bg17.out.c 1 rfl
      have cg2 := Bg17.out.c 2 rfl
      have cg3 := Bg17.out.c 3 rfl
      go_wp2_with fail
      refine (l_heldPacker _ _ _ _ lF.length 1 _ _ Rg17.out hn' (by omega)).mono ?_
      rintro e w18 ⟨rfl, hb⟩
      clear cg0 cg1 cg2 cg3
      have Z18 : Hid (w17.heap.size ≤ w18.heap.size) := hb.size
      have BB18 := hide (BB17.out.trans (hb.mono BB17.out.size))
      have Bap18 := hide (Bap17.out.below hb)
      have Bw18 := hide (Bw17.out.below hb)
      have Bx18 := hide (Bx17.out.below hb)
      have Bg18 := hide (Bg17.out.below hb)
      have Ru18 := hide (own_below Ru17.out hb)
      have Rw18 := hide (own_below Rw17.out hb)
      have Rwf18 := hide (own_below Rwf17.out hb)
      have Rx18 := hide (own_below Rx17.out hb)
      have Rg18 := hide (own_below Rg17.out hb)
      have Rgf18 := hide (own_below Rgf17.out hb)
      clear BB17 Bap17 Bw17 Bx17 Bg17 Ru17 Rw17 Rwf17 Rx17 Rg17 Rgf17
      clear hb
      go_wp2_with fail
      refine (l_heldFrameS _ fF.length (1 + lF.length) _ _ Rgf18.out (by omega) (by omega)).mono ?_
      rintro e w19 ⟨rfl, hb⟩
      have Z19 : Hid (w18.heap.size ≤ w19.heap.size) := hb.size
      have BB19 := hide (BB18.out.trans (hb.mono BB18.out.size))
      have Bap19 := hide (Bap18.out.below hb)
      have Bw19 := hide (Bw18.out.below hb)
      have Bx19 := hide (Bx18.out.below hb)
      have Bg19 := hide (Bg18.out.below hb)
      have Ru19 := hide (own_below Ru18.out hb)
      have Rw19 := hide (own_below Rw18.out hb)
      have Rwf19 := hide (own_below Rwf18.out hb)
      have Rx19 := hide (own_below Rx18.out hb)
      have Rg19 := hide (own_below Rg18.out hb)
      have Rgf19 := hide (own_below Rgf18.out hb)
      clear BB18 Bap18 Bw18 Bx18 Bg18 Ru18 Rw18 Rwf18 Rx18 Rg18 Rgf18
      clear hb
      have cap0 := Bap19.out.c 0 rfl
      have cap1 := Bap19.out.c 1 rfl
      have cap2 := Bap19.out.c 2 rfl
      have cap3 := Bap19.out.c 3 rfl
      go_wp2_with fail
      refine (l_toPacker _ _ _ _ _ _ l _ (RI0x.out.below BB19.out) hn).mono ?_
      rintro e w20 ⟨vy, rfl, ho, hb⟩
      obtain ⟨Ay, cy, rfl⟩ := own_form ho
      clear cap0 cap1 cap2 cap3
      have Z20 : Hid (w19.heap.size ≤ w20.heap.size) := hb.size
      have BB20 := hide (BB19.out.trans (hb.mono BB19.out.size))
      have Bap20 := hide (Bap19.out.below hb)
      have Bw20 := hide (Bw19.out.below hb)
      have Bx20 := hide (Bx19.out.below hb)
      have Bg20 := hide (Bg19.out.below hb)
      have Ru20 := hide (own_below Ru19.out hb)
      have Rw20 := hide (own_below Rw19.out hb)
      have Rwf20 := hide (own_below Rwf19.out hb)
      have Rx20 := hide (own_below Rx19.out hb)
      have Rg20 := hide (own_below Rg19.out hb)
      have Rgf20 := hide (own_below Rgf19.out hb)
      clear BB19 Bap19 Bw19 Bx19 Bg19 Ru19 Rw19 Rwf19 Rx19 Rg19 Rgf19
      have Ry20 := hide ho
      have Dy : Hid (∀ k, (Value.slice Ay l.length cy).ownBlock = some k → w19.heap.size ≤ k ∧ k < w20.heap.size) := fun k hk => ho.lt k hk
      clear ho hb
      go_wp2_with fail
      refine (i_TakeFrames _ _ _ _ _ _ l _ _ _ _ _ (RI.of_own Ry20.out) hn (by omega) TF.out).mono ?_
      rintro e w21 ⟨v1, v2, rfl, ho, hof, hap, hb⟩
      obtain ⟨Ak, ck, rfl⟩ := own_form ho
      obtain ⟨Akf, ckf, rfl⟩ := own_form hof
      have Z21 : Hid (w20.heap.size ≤ w21.heap.size) := hb.size
      have BB21 := hide (BB20.out.trans (hb.mono BB20.out.size))
      have Bap21 := hide (Bap20.out.below hb)
      have Bw21 := hide (Bw20.out.below hb)
      have Bx21 := hide (Bx20.out.below hb)
      have Bg21 := hide (Bg20.out.below hb)
      have Ru21 := hide (own_below Ru20.out hb)
      have Rw21 := hide (own_below Rw20.out hb)
      have Rwf21 := hide (own_below Rwf20.out hb)
      have Rx21 := hide (own_below Rx20.out hb)
      have Rg21 := hide (own_below Rg20.out hb)
      have Rgf21 := hide (own_below Rgf20.out hb)
      have Ry21 := hide (own_below Ry20.out hb)
      clear BB20 Bap20 Bw20 Bx20 Bg20 Ru20 Rw20 Rwf20 Rx20 Rg20 Rgf20 Ry20
      have Rk21 := hide ho
      have Dk : Hid (∀ k, (Value.slice Ak lF.length ck).ownBlock = some k → w20.heap.size ≤ k ∧ k < w21.heap.size) := fun k hk => ho.lt k hk
      have Rkf21 := hide hof
      have Dkf : Hid (∀ k, (Value.slice Akf fF.length ckf).ownBlock = some k → w20.heap.size ≤ k ∧ k < w21.heap.size) := fun k hk => hof.lt k hk
      have APk := hide hap
      clear ho hof hap hb
      have cw0 := Bw21.out.c 0 rfl
      have cw1 := Bw21.out.c 1 rfl
      have cw2 := Bw21.out.c 2 rfl
      have cw3 := Bw21.out.c 3 rfl
      have lw : w3.heap.size < w21.heap.size := Bw21.out.1
      have nw : ¬ w3.heap.size = w21.heap.size := by omega
      go_wp2_with fail
      obtain ⟨hA, b1⟩ := entry1 w21 #[.int .i64 a0x0, .int .i64 bF, .string rF, .slice Ak lF.length ck] 27
      generalize (w21.alloc (.cells #[.int .i64 a0x0, .int .i64 bF, .string rF, .slice Ak lF.length ck] 27)) = W22 at *
      clear cw0 cw1 cw2 cw3 lw nw
      have Z22 : Hid (w21.heap.size ≤ W22.heap.size) := hA.size
      have BB22 := hide (BB21.out.trans (hA.mono BB21.out.size))
      have Bap22 := hide (Bap21.out.below hA)
      have Bw22 := hide (Bw21.out.below hA)
      have Bx22 := hide (Bx21.out.below hA)
      have Bg22 := hide (Bg21.out.below hA)
      have Ru22 := hide (own_below Ru21.out hA)
      have Rw22 := hide (own_below Rw21.out hA)
      have Rwf22 := hide (own_below Rwf21.out hA)
      have Rx22 := hide (own_below Rx21.out hA)
      have Rg22 := hide (own_below Rg21.out hA)
      have Rgf22 := hide (own_below Rgf21.out hA)
      have Ry22 := hide (own_below Ry21.out hA)
      have Rk22 := hide (own_below Rk21.out hA)
      have Rkf22 := hide (own_below Rkf21.out hA)
      clear BB21 Bap21 Bw21 Bx21 Bg21 Ru21 Rw21 Rwf21 Rx21 Rg21 Rgf21 Ry21 Rk21 Rkf21
      have Yk : Hid (w21.heap.size < W22.heap.size) := b1.1
      have Bk22 : Hid (Box W22 (w21.heap.size) [.int .i64 a0x0, .int .i64 bF, .string rF, .slice Ak lF.length ck]) := b1
      clear hA b1
      refine (l_eqPacker _ _ _ _ _ _ _ lF _ Rk22.out Rw22.out hn').mono ?_
      rintro e w23 ⟨rfl, hb⟩
      have Z23 : Hid (W22.heap.size ≤ w23.heap.size) := hb.size
      have BB23 := hide (BB22.out.trans (hb.mono BB22.out.size))
      have Bap23 := hide (Bap22.out.below hb)
      have Bw23 := hide (Bw22.out.below hb)
      have Bx23 := hide (Bx22.out.below hb)
      have Bg23 := hide (Bg22.out.below hb)
      have Bk23 := hide (Bk22.out.below hb)
      have Ru23 := hide (own_below Ru22.out hb)
      have Rw23 := hide (own_below Rw22.out hb)
      have Rwf23 := hide (own_below Rwf22.out hb)
      have Rx23 := hide (own_below Rx22.out hb)
      have Rg23 := hide (own_below Rg22.out hb)
      have Rgf23 := hide (own_below Rgf22.out hb)
      have Ry23 := hide (own_below Ry22.out hb)
      have Rk23 := hide (own_below Rk22.out hb)
      have Rkf23 := hide (own_below Rkf22.out hb)
      clear BB22 Bap22 Bw22 Bx22 Bg22 Bk22 Ru22 Rw22 Rwf22 Rx22 Rg22 Rgf22 Ry22 Rk22 Rkf22
      clear hb
      go_wp2_with fail
      refine (l_eqFrameS _ _ _ _ fF _ Rkf23.out Rwf23.out (by omega)).mono ?_
      rintro e w24 ⟨rfl, hb⟩
      have Z24 : Hid (w23.heap.size ≤ w24.heap.size) := hb.size
      have BB24 := hide (BB23.out.trans (hb.mono BB23.out.size))
      have Bap24 := hide (Bap23.out.below hb)
      have Bw24 := hide (Bw23.out.below hb)
      have Bx24 := hide (Bx23.out.below hb)
      have Bg24 := hide (Bg23.out.below hb)
      have Bk24 := hide (Bk23.out.below hb)
      have Ru24 := hide (own_below Ru23.out hb)
      have Rw24 := hide (own_below Rw23.out hb)
      have Rwf24 := hide (own_below Rwf23.out hb)
      have Rx24 := hide (own_below Rx23.out hb)
      have Rg24 := hide (own_below Rg23.out hb)
      have Rgf24 := hide (own_below Rgf23.out hb)
      have Ry24 := hide (own_below Ry23.out hb)
      have Rk24 := hide (own_below Rk23.out hb)
      have Rkf24 := hide (own_below Rkf23.out hb)
      clear BB23 Bap23 Bw23 Bx23 Bg23 Bk23 Ru23 Rw23 Rwf23 Rx23 Rg23 Rgf23 Ry23 Rk23 Rkf23
      clear hb
      have cg0 := Bg24.out.c 0 rfl
      have cg1 := Bg24.out.c 1 rfl
      have cg2 := Bg24.out.c 2 rfl
      have cg3 := Bg24.out.c 3 rfl
      go_wp2_with fail
      refine (l_heldPacker _ _ _ _ lF.length 1 _ _ Rg24.out hn' (by omega)).mono ?_
      rintro e w25 ⟨rfl, hb⟩
      clear cg0 cg1 cg2 cg3
      have Z25 : Hid (w24.heap.size ≤ w25.heap.size) := hb.size
      have BB25 := hide (BB24.out.trans (hb.mono BB24.out.size))
      have Bap25 := hide (Bap24.out.below hb)
      have Bw25 := hide (Bw24.out.below hb)
      have Bx25 := hide (Bx24.out.below hb)
      have Bg25 := hide (Bg24.out.below hb)
      have Bk25 := hide (Bk24.out.below hb)
      have Ru25 := hide (own_below Ru24.out hb)
      have Rw25 := hide (own_below Rw24.out hb)
      have Rwf25 := hide (own_below Rwf24.out hb)
      have Rx25 := hide (own_below Rx24.out hb)
      have Rg25 := hide (own_below Rg24.out hb)
      have Rgf25 := hide (own_below Rgf24.out hb)
      have Ry25 := hide (own_below Ry24.out hb)
      have Rk25 := hide (own_below Rk24.out hb)
      have Rkf25 := hide (own_below Rkf24.out hb)
      clear BB24 Bap24 Bw24 Bx24 Bg24 Bk24 Ru24 Rw24 Rwf24 Rx24 Rg24 Rgf24 Ry24 Rk24 Rkf24
      clear hb
      go_wp2_with fail
      refine (l_heldFrameS _ fF.length (1 + lF.length) _ _ Rgf25.out (by omega) (by omega)).mono ?_
      rintro e w26 ⟨rfl, hb⟩
      have Z26 : Hid (w25.heap.size ≤ w26.heap.size) := hb.size
      have BB26 := hide (BB25.out.trans (hb.mono BB25.out.size))
      have Bap26 := hide (Bap25.out.below hb)
      have Bw26 := hide (Bw25.out.below hb)
      have Bx26 := hide (Bx25.out.below hb)
      have Bg26 := hide (Bg25.out.below hb)
      have Bk26 := hide (Bk25.out.below hb)
      have Ru26 := hide (own_below Ru25.out hb)
      have Rw26 := hide (own_below Rw25.out hb)
      have Rwf26 := hide (own_below Rwf25.out hb)
      have Rx26 := hide (own_below Rx25.out hb)
      have Rg26 := hide (own_below Rg25.out hb)
      have Rgf26 := hide (own_below Rgf25.out hb)
      have Ry26 := hide (own_below Ry25.out hb)
      have Rk26 := hide (own_below Rk25.out hb)
      have Rkf26 := hide (own_below Rkf25.out hb)
      clear BB25 Bap25 Bw25 Bx25 Bg25 Bk25 Ru25 Rw25 Rwf25 Rx25 Rg25 Rgf25 Ry25 Rk25 Rkf25
      clear hb
      go_wp2_with fail
      go_ret
      exact ⟨rfl, BB26.out⟩
set_option maxRecDepth 100000 in
theorem lifted (os : Os) (started : os.Started) (H : Type) (enc : TypeId × Value → H) :
    ReturnsInHanded {} Try.checked os 6 .any (Rows.fnExactTakeFramesSpec.pre6 enc Try.prog Try.f6 Rows.fnExactTakeFramesRow.domain false) (Rows.fnExactTakeFramesSpec.post enc Try.prog Try.f6 false true false false) := by
  refine returnsInHanded_of_change (C := Try.checked) own started (by kernel_rfl) Try.func6
    (ChangeSpec.witness6 (enc := enc) (C := Try.checked) false ⟨#[], #[.agg #[.int .i64 0, .int .i64 0, .string ByteArray.empty, .slice none 0 0]], []⟩ 8 (by kernel_rfl) (by kernel_rfl) (by kernel_rfl) (by kernel_rfl)) ?_
  intro W base args ds gs before hval0 hW hcnd _
  have hval : ∀ (j : Nat) t v, Try.f6.params[j]? = some t → args[j]? = some v → Value.okWide Try.prog W .any base t v := hval0
  have hW' := hW
  obtain ⟨p, q, hA0, hV, rfl, hfz, hnd⟩ := hW
  have hA : DataW.TrodAll enc Try.prog W 0 (fun _ => true) true Try.f6.params.toList args.toList ds p := hA0
  rw [Try.params6] at hA hval
  obtain ⟨v0, vs0, d0, ds0, p0, q0, hargs, rfl, rfl, h0, r0⟩ := trodAll_cons hA
  obtain ⟨rfl, rfl, rfl⟩ := trodAll_nil r0
  obtain rfl : args = #[v0] := by cases args; simp_all
  obtain ⟨rfl, rfl⟩ := trodVars_none hV
  have k0 := h0
  have lt0 : ∀ x ∈ p0, x.block < W.heap.size := by obtain ⟨m, hm⟩ := k0; exact DataW.trod_lt m _ _ _ hm
  obtain ⟨v0x0, v0x1, v0x2, v0x3, y0x0, y0x1, y0x2, y0x3, n0, rfl, rfl, rfl, f0x0, f0x1, f0x2, f0x3⟩ := open_agg4_ Try.underlying24 (by kernel_rfl) (by kernel_rfl) (hval 0 24 v0 rfl rfl) h0
  obtain ⟨a0x0, rfl, b0x0⟩ := field_int Try.underlying3 f0x0
  obtain ⟨a0x1, rfl, b0x1⟩ := field_int Try.underlying3 f0x1
  obtain ⟨a0x2, rfl, b0x2⟩ := field_string Try.underlying9 f0x2
  obtain ⟨a0x3, n0x3, c0x3, z0x3, rfl, r0x3, m0x3⟩ := field_ints Try.underlying22 Try.underlying3 (by kernel_rfl) f0x3
  clear hA0 hval0
  refine (walk a0x0 (bounds_i64 b0x0).1 (bounds_i64 b0x0).2 a0x1 (bounds_i64 b0x1).1 (bounds_i64 b0x1).2 a0x2 b0x2 a0x3 n0x3 c0x3 z0x3 m0x3 W r0x3).mono fun e W' ⟨he, bel⟩ => ?_
  subst he
  exact ⟨_, rfl, _, _, _, [], _, [], hW', trodAll_mk1 (shut_bool Try.underlying4 _), (trodAll_cons_mk (Below.trod laidOut (by kernel_rfl) (of_decide_eq_true (by kernel_rfl)) k0 bel lt0) trodAll_mk0), rfl, bel.frame _, fun h => by cases h⟩
theorem closed : joinedFacts Try.prog 6 Try.f6 Rows.fnExactTakeFramesSpec Rows.fnExactTakeFramesRow = true :=
  joined_of (by as_aux_lemma => kernel_rfl) laidOut mapsRowed_ (by as_aux_lemma => kernel_rfl) (by as_aux_lemma => kernel_rfl) (by kernel_rfl) (by as_aux_lemma => kernel_rfl) (by kernel_rfl) (by as_aux_lemma => kernel_rfl)
    (by as_aux_lemma => kernel_rfl) (by as_aux_lemma => kernel_rfl) (by as_aux_lemma => kernel_rfl) (by as_aux_lemma => kernel_rfl) (by as_aux_lemma => kernel_rfl) (by as_aux_lemma => kernel_rfl) (by as_aux_lemma => kernel_rfl) (by as_aux_lemma => kernel_rfl) (by as_aux_lemma => kernel_rfl) (by as_aux_lemma => kernel_rfl)
    (by as_aux_lemma => kernel_rfl) (by as_aux_lemma => kernel_rfl) (by as_aux_lemma => kernel_rfl) (by as_aux_lemma => kernel_rfl) (by kernel_rfl) stopsHeard_ mayEnter_ (by rw [liftsFinal_]; kernel_rfl) (by rw [make_]; kernel_rfl) (by as_aux_lemma => kernel_rfl) (by kernel_rfl) (by as_aux_lemma => kernel_rfl) (by as_aux_lemma => kernel_rfl)
theorem over : Rows.fnExactTakeFramesRow.holds Try.pinned (OpenSpec.ofChange Rows.fnExactTakeFramesSpec) :=
  OpenClaim.holds_of_wide 6 Try.f6 rfl rfl rfl rfl rfl rfl rfl ⟨rfl, rfl, rfl, rfl, rfl⟩ rfl rfl rfl rfl rfl (by kernel_rfl) Try.func6 closed
    (of_decide_eq_true (by kernel_rfl)) (by unfold Func.isWrapper; first | (rw [if_pos (by decide +kernel)]; kernel_rfl) | (rw [if_neg (by decide +kernel)]; exact ⟨rfl, rfl⟩))
    (fun os started H enc _ => lifted os started H enc)
theorem proved : Rows.FnExactTakeFramesSaid := over
#print axioms proved
end Go.Proofs.Ytnelfadmcpacbaa.fnExactTakeFrames
