/- The program's TakeFrame returns what the reference's returns, leaves the packer as it was and shares no memory with it, for all packers of at most 2^20 bytes and starts (greater ones the law lets pass). -/
import Derived.Test.YtnelfadmcpacbaaRowPack
import Derived.Test.YtnelfadmcpacbaaPckE
import Derived.Test.YtnelfadmcpacbaaPckF
namespace Go.Proofs.Ytnelfadmcpacbaa.fnExactTakeFrame
open Go.ChangeShapes Go.WideShapes Go.ChangeAt Go.RowKit Sat
open Go.ChangeMaps (open_string shut_string)
set_option linter.unusedVariables false
attribute [local go_sem ↓] Go.wp_at_zero Go.wp_at_succ

theorem one_box (w : World) (a0 a1 a2 a3 : Value) (t : TypeId) : Below w.heap.size w (w.alloc (.cells #[a0, a1, a2, a3] t)) ∧ Box (w.alloc (.cells #[a0, a1, a2, a3] t)) w.heap.size [a0, a1, a2, a3] :=
  ⟨(Below.refl _ _).alloc (Nat.le_refl _) _, by simpa using Box.new w #[a0, a1, a2, a3] t⟩
theorem two_boxes (w : World) (a0 a1 a2 a3 b0 b1 b2 b3 : Value) (t u : TypeId) : Below w.heap.size w ((w.alloc (.cells #[a0, a1, a2, a3] t)).alloc (.cells #[b0, b1, b2, b3] u)) ∧ Box ((w.alloc (.cells #[a0, a1, a2, a3] t)).alloc (.cells #[b0, b1, b2, b3] u)) w.heap.size [a0, a1, a2, a3] ∧ Box ((w.alloc (.cells #[a0, a1, a2, a3] t)).alloc (.cells #[b0, b1, b2, b3] u)) (w.heap.size + 1) [b0, b1, b2, b3] :=
  ⟨((Below.refl _ _).alloc (Nat.le_refl _) _).alloc (by simp) _, by simpa using (Box.new w #[a0, a1, a2, a3] t).alloc (.cells #[b0, b1, b2, b3] u), by simpa using Box.new (w.alloc (.cells #[a0, a1, a2, a3] t)) #[b0, b1, b2, b3] u⟩
def Took (a b' : Int) (r' : ByteArray) (l' : List Int) (fa fb ff : Int) (fd : ByteArray) (ok : Bool) (w : World) (e : Ending) (w' : World) : Prop := ∃ v, e = .returned (.tuple #[.agg #[.int .i64 a, .int .i64 b', .string r', v], .agg #[.int .i64 fa, .int .i64 fb, .int .i64 ff, .string fd], .bool ok]) ∧ w'.ownsRow w.heap.size 3 1 v l'.length (Is l') ∧ Below w.heap.size w w'
theorem took_of {a b : Int} {r : ByteArray} {l : List Int} {b' : Int} {r' : ByteArray} {l' : List Int} {fa fb ff : Int} {fd : ByteArray} {ok : Bool} {w w' : World} {e : Ending} (h : MadeTake a b r l w e w') (hP : tkP a b r l = (b', r', l')) (hF : tkFr a b r l = (fa, fb, ff, fd)) (hk : tkOk a b r l = ok) : Took a b' r' l' fa fb ff fd ok w e w' := by
  obtain ⟨v, h1, h2, h3⟩ := h
  rw [hP, hF, hk] at h1
  rw [hP] at h2
  exact ⟨v, h1, h2, h3⟩
theorem s_Take_is (a b : Int) (r : ByteArray) (A : Option Addr) (n c : Nat) (l : List Int) (b' : Int) (r' : ByteArray) (l' : List Int) (fa fb ff : Int) (fd : ByteArray) (ok : Bool) (w : World) (h : RI w A n l) (hc : A = none → c = 0) (hn : n ≤ 1048576) (hr : r.size ≤ 1099511627776) (hP : tkP a b r l = (b', r', l')) (hF : tkFr a b r l = (fa, fb, ff, fd)) (hk : tkOk a b r l = ok) :
    Calls Try.prog 21 #[.agg #[.int .i64 a, .int .i64 b, .string r, .slice A n c]] w (Took a b' r' l' fa fb ff fd ok w) :=
  (s_TakeFrame a b r A n c l w h hc hn hr).mono fun _ _ h => took_of h hP hF hk
theorem i_Take_is (a b : Int) (r : ByteArray) (A : Option Addr) (n c : Nat) (l : List Int) (b' : Int) (r' : ByteArray) (l' : List Int) (fa fb ff : Int) (fd : ByteArray) (ok : Bool) (w : World) (h : RI w A n l) (hn : n ≤ 1048576) (hr : r.size ≤ 1099511627776) (hP : tkP a b r l = (b', r', l')) (hF : tkFr a b r l = (fa, fb, ff, fd)) (hk : tkOk a b r l = ok) :
    Calls Try.prog 22 #[.agg #[.int .i64 a, .int .i64 b, .string r, .slice A n c]] w (Took a b' r' l' fa fb ff fd ok w) :=
  (i_TakeFrame a b r A n c l w h hn hr).mono fun _ _ h => took_of h hP hF hk
theorem tkP_len (a b : Int) (r : ByteArray) (l : List Int) : (tkP a b r l).2.2.length ≤ l.length := by
  unfold tkP
  split
  · exact tkTo_len l l.length
  · exact Nat.le_refl _
set_option maxHeartbeats 6400000 in
theorem walk (a0x0 : Int) (l0x0 : -9223372036854775808 ≤ a0x0) (u0x0 : a0x0 ≤ 9223372036854775807) (a0x1 : Int) (l0x1 : -9223372036854775808 ≤ a0x1) (u0x1 : a0x1 ≤ 9223372036854775807) (a0x2 : ByteArray) (s0x2 : a0x2.size ≤ maxLen) (A : Option Addr) (n c : Nat) (l : List Int) (hn0 : n ≤ 9223372036854775807) (w : World) (h : RI w A n l) :
    Calls Try.prog 5 #[.agg #[.int .i64 a0x0, .int .i64 a0x1, .string a0x2, .slice A n c]] w fun e w' => e = .returned (.bool true) ∧ Below w.heap.size w w' := by
  unfold maxLen at s0x2
  obtain ⟨hn', h'⟩ := h
  subst hn'
  have h : RI w A l.length l := ⟨rfl, h'⟩
  have H := hide h
  clear h'
  clear h
  by_cases hbig : 1048576 < a0x2.size + l.length
  · go_enter Try.func5, Try.ntmps5
    go_wp2_with fail
    refine (l_szPacker_big _ _ _ _ _ _ _ _ (by omega) (by omega) (by omega) (by omega) (by omega)).mono ?_
    rintro e w1 ⟨rfl, hb⟩
    go_wp2_with fail
    go_ret
    exact ⟨rfl, box_below hb⟩
  · have hsm : a0x2.size + l.length ≤ 1048576 := by omega
    have hn : l.length ≤ 1048576 := by omega
    clear hbig
    have hpl := tkP_len a0x0 a0x1 a0x2 l
    obtain ⟨P, hP⟩ : ∃ P, tkP a0x0 a0x1 a0x2 l = P := ⟨_, rfl⟩
    obtain ⟨F, hF⟩ : ∃ F, tkFr a0x0 a0x1 a0x2 l = F := ⟨_, rfl⟩
    obtain ⟨ok, hO⟩ : ∃ ok, tkOk a0x0 a0x1 a0x2 l = ok := ⟨_, rfl⟩
    rw [hP] at hpl
    obtain ⟨b', r', l'⟩ := P
    obtain ⟨fa, fb, ff, fd⟩ := F
    have hn' : l'.length ≤ 1048576 := by have : l'.length ≤ l.length := hpl; omega
    have TP := hide hP
    have TF := hide hF
    have TO := hide hO
    clear hP hF hO hpl
    go_enter Try.func5, Try.ntmps5
    go_wp2_with fail
    obtain ⟨hbW, bx⟩ := one_box w (.int .i64 a0x0) (.int .i64 a0x1) (.string a0x2) (.slice A l.length c) 24
    generalize w.alloc (.cells #[.int .i64 a0x0, .int .i64 a0x1, .string a0x2, .slice A l.length c] 24) = W at *
    have Z0 : Hid (w.heap.size < W.heap.size) := bx.1
    have BB0 := hide hbW
    have RI0 := hide (H.out.below hbW)
    have RI0x := H
    have Bap0 := hide bx
    clear hbW bx H
    refine (l_szPacker_no _ _ _ _ _ _ _ _ (by omega) (by omega) (by omega) (by omega)).mono ?_
    rintro e w1 ⟨rfl, hb⟩
    have Z1 : Hid (W.heap.size ≤ w1.heap.size) := hb.size
    have BB1 := hide (BB0.out.trans (hb.mono BB0.out.size))
    have RI1 := hide (RI0.out.below hb)
    have Bap1 := hide (Bap0.out.below hb)
    clear BB0 RI0 Bap0
    clear hb
    have cap0 := Bap1.out.c 0 rfl
    have cap1 := Bap1.out.c 1 rfl
    have cap2 := Bap1.out.c 2 rfl
    have cap3 := Bap1.out.c 3 rfl
    go_wp2_with fail
    refine (l_toPacker _ _ _ _ _ _ l _ RI1.out hn).mono ?_
    rintro e w2 ⟨vu, rfl, ho, hb⟩
    obtain ⟨Au, cu, rfl⟩ := own_form ho
    clear cap0 cap1 cap2 cap3
    have Z2 : Hid (w1.heap.size ≤ w2.heap.size) := hb.size
    have BB2 := hide (BB1.out.trans (hb.mono BB1.out.size))
    have RI2 := hide (RI1.out.below hb)
    have Bap2 := hide (Bap1.out.below hb)
    clear BB1 RI1 Bap1
    have Ru2 := hide ho
    have Du : Hid (∀ k, (Value.slice Au l.length cu).ownBlock = some k → w1.heap.size ≤ k ∧ k < w2.heap.size) := fun k hk => ho.lt k hk
    clear ho hb
    go_wp2_with fail
    refine (s_Take_is _ _ _ _ _ _ l _ _ _ _ _ _ _ _ _ (RI.of_own Ru2.out) (own_nilc Ru2.out) hn (by omega) TP.out TF.out TO.out).mono ?_
    rintro e w3 ⟨vw, rfl, ho, hb⟩
    obtain ⟨Aw, cw, rfl⟩ := own_form ho
    have Z3 : Hid (w2.heap.size ≤ w3.heap.size) := hb.size
    have BB3 := hide (BB2.out.trans (hb.mono BB2.out.size))
    have RI3 := hide (RI2.out.below hb)
    have Bap3 := hide (Bap2.out.below hb)
    have Ru3 := hide (own_below Ru2.out hb)
    clear BB2 RI2 Bap2 Ru2
    have Rw3 := hide ho
    have Dw : Hid (∀ k, (Value.slice Aw l'.length cw).ownBlock = some k → w2.heap.size ≤ k ∧ k < w3.heap.size) := fun k hk => ho.lt k hk
    clear ho hb
    have cap0 := Bap3.out.c 0 rfl
    have cap1 := Bap3.out.c 1 rfl
    have cap2 := Bap3.out.c 2 rfl
    have cap3 := Bap3.out.c 3 rfl
    have lap : w.heap.size < w3.heap.size := Bap3.out.1
    have nap : ¬ w.heap.size = w3.heap.size := by omega
    go_wp2_with fail
    obtain ⟨hA, b1, b2⟩ := two_boxes w3 (.int .i64 a0x0) (.int .i64 b') (.string r') (.slice Aw l'.length cw) (.int .i64 fa) (.int .i64 fb) (.int .i64 ff) (.string fd) 27 41
    generalize ((w3.alloc (.cells #[.int .i64 a0x0, .int .i64 b', .string r', .slice Aw l'.length cw] 27)).alloc (.cells #[.int .i64 fa, .int .i64 fb, .int .i64 ff, .string fd] 41)) = W4 at *
    clear cap0 cap1 cap2 cap3 lap nap
    have Z4 : Hid (w3.heap.size ≤ W4.heap.size) := hA.size
    have BB4 := hide (BB3.out.trans (hA.mono BB3.out.size))
    have RI4 := hide (RI3.out.below hA)
    have Bap4 := hide (Bap3.out.below hA)
    have Ru4 := hide (own_below Ru3.out hA)
    have Rw4 := hide (own_below Rw3.out hA)
    clear BB3 RI3 Bap3 Ru3 Rw3
    have Yw : Hid (w3.heap.size < W4.heap.size) := b1.1
    have Bw4 := hide b1
    have Yf : Hid (w3.heap.size + 1 < W4.heap.size) := b2.1
    have Bf4 := hide b2
    clear hA b1 b2
    refine (l_toPacker _ _ _ _ _ _ l _ RI4.out hn).mono ?_
    rintro e w5 ⟨vx, rfl, ho, hb⟩
    obtain ⟨Ax, cx, rfl⟩ := own_form ho
    have Z5 : Hid (W4.heap.size ≤ w5.heap.size) := hb.size
    have BB5 := hide (BB4.out.trans (hb.mono BB4.out.size))
    have RI5 := hide (RI4.out.below hb)
    have Bap5 := hide (Bap4.out.below hb)
    have Bw5 := hide (Bw4.out.below hb)
    have Bf5 := hide (Bf4.out.below hb)
    have Ru5 := hide (own_below Ru4.out hb)
    have Rw5 := hide (own_below Rw4.out hb)
    clear BB4 RI4 Bap4 Bw4 Bf4 Ru4 Rw4
    have Rx5 := hide ho
    have Dx : Hid (∀ k, (Value.slice Ax l.length cx).ownBlock = some k → W4.heap.size ≤ k ∧ k < w5.heap.size) := fun k hk => ho.lt k hk
    clear ho hb
    go_wp2_with fail
    obtain ⟨hA, b1⟩ := one_box w5 (.int .i64 a0x0) (.int .i64 a0x1) (.string a0x2) (.slice Ax l.length cx) 27
    generalize (w5.alloc (.cells #[.int .i64 a0x0, .int .i64 a0x1, .string a0x2, .slice Ax l.length cx] 27)) = W6 at *
    have Z6 : Hid (w5.heap.size ≤ W6.heap.size) := hA.size
    have BB6 := hide (BB5.out.trans (hA.mono BB5.out.size))
    have RI6 := hide (RI5.out.below hA)
    have Bap6 := hide (Bap5.out.below hA)
    have Bw6 := hide (Bw5.out.below hA)
    have Bf6 := hide (Bf5.out.below hA)
    have Ru6 := hide (own_below Ru5.out hA)
    have Rw6 := hide (own_below Rw5.out hA)
    have Rx6 := hide (own_below Rx5.out hA)
    clear BB5 RI5 Bap5 Bw5 Bf5 Ru5 Rw5 Rx5
    have Yx : Hid (w5.heap.size < W6.heap.size) := b1.1
    have Bx6 := hide b1
    clear hA b1
    refine (i_Take_is _ _ _ _ _ _ l _ _ _ _ _ _ _ _ _ (RI.of_own Rx6.out) hn (by omega) TP.out TF.out TO.out).mono ?_
    rintro e w7 ⟨vg, rfl, ho, hb⟩
    obtain ⟨Ag, cg, rfl⟩ := own_form ho
    have Z7 : Hid (W6.heap.size ≤ w7.heap.size) := hb.size
    have BB7 := hide (BB6.out.trans (hb.mono BB6.out.size))
    have RI7 := hide (RI6.out.below hb)
    have Bap7 := hide (Bap6.out.below hb)
    have Bw7 := hide (Bw6.out.below hb)
    have Bf7 := hide (Bf6.out.below hb)
    have Bx7 := hide (Bx6.out.below hb)
    have Ru7 := hide (own_below Ru6.out hb)
    have Rw7 := hide (own_below Rw6.out hb)
    have Rx7 := hide (own_below Rx6.out hb)
    clear BB6 RI6 Bap6 Bw6 Bf6 Bx6 Ru6 Rw6 Rx6
    have Rg7 := hide ho
    have Dg : Hid (∀ k, (Value.slice Ag l'.length cg).ownBlock = some k → W6.heap.size ≤ k ∧ k < w7.heap.size) := fun k hk => ho.lt k hk
    clear ho hb
    have cw0 := Bw7.out.c 0 rfl
    have cw1 := Bw7.out.c 1 rfl
    have cw2 := Bw7.out.c 2 rfl
    have cw3 := Bw7.out.c 3 rfl
    have lw : w3.heap.size < w7.heap.size := Bw7.out.1
    have nw : ¬ w3.heap.size = w7.heap.size := by omega
    go_wp2_with fail
    obtain ⟨hA, b1, b2⟩ := two_boxes w7 (.int .i64 a0x0) (.int .i64 b') (.string r') (.slice Ag l'.length cg) (.int .i64 fa) (.int .i64 fb) (.int .i64 ff) (.string fd) 27 41
    generalize ((w7.alloc (.cells #[.int .i64 a0x0, .int .i64 b', .string r', .slice Ag l'.length cg] 27)).alloc (.cells #[.int .i64 fa, .int .i64 fb, .int .i64 ff, .string fd] 41)) = W8 at *
    clear cw0 cw1 cw2 cw3 lw nw
    have Z8 : Hid (w7.heap.size ≤ W8.heap.size) := hA.size
    have BB8 := hide (BB7.out.trans (hA.mono BB7.out.size))
    have RI8 := hide (RI7.out.below hA)
    have Bap8 := hide (Bap7.out.below hA)
    have Bw8 := hide (Bw7.out.below hA)
    have Bf8 := hide (Bf7.out.below hA)
    have Bx8 := hide (Bx7.out.below hA)
    have Ru8 := hide (own_below Ru7.out hA)
    have Rw8 := hide (own_below Rw7.out hA)
    have Rx8 := hide (own_below Rx7.out hA)
    have Rg8 := hide (own_below Rg7.out hA)
    clear BB7 RI7 Bap7 Bw7 Bf7 Bx7 Ru7 Rw7 Rx7 Rg7
    have Yg : Hid (w7.heap.size < W8.heap.size) := b1.1
    have Bg8 := hide b1
    have Yh : Hid (w7.heap.size + 1 < W8.heap.size) := b2.1
    have Bh8 := hide b2
    clear hA b1 b2
    refine (l_eqPacker _ _ _ _ _ _ _ l' _ Rg8.out Rw8.out hn').mono ?_
    rintro e w9 ⟨rfl, hb⟩
    have Z9 : Hid (W8.heap.size ≤ w9.heap.size) := hb.size
    have BB9 := hide (BB8.out.trans (hb.mono BB8.out.size))
    have RI9 := hide (RI8.out.below hb)
    have Bap9 := hide (Bap8.out.below hb)
    have Bw9 := hide (Bw8.out.below hb)
    have Bf9 := hide (Bf8.out.below hb)
    have Bx9 := hide (Bx8.out.below hb)
    have Bg9 := hide (Bg8.out.below hb)
    have Bh9 := hide (Bh8.out.below hb)
    have Ru9 := hide (own_below Ru8.out hb)
    have Rw9 := hide (own_below Rw8.out hb)
    have Rx9 := hide (own_below Rx8.out hb)
    have Rg9 := hide (own_below Rg8.out hb)
    clear BB8 RI8 Bap8 Bw8 Bf8 Bx8 Bg8 Bh8 Ru8 Rw8 Rx8 Rg8
    clear hb
    have ch0 := Bh9.out.c 0 rfl
    have ch1 := Bh9.out.c 1 rfl
    have ch2 := Bh9.out.c 2 rfl
    have ch3 := Bh9.out.c 3 rfl
    have cf0 := Bf9.out.c 0 rfl
    have cf1 := Bf9.out.c 1 rfl
    have cf2 := Bf9.out.c 2 rfl
    have cf3 := Bf9.out.c 3 rfl
    go_wp2_with fail
    refine (l_eqFrame _ _ _ _ _).mono ?_
    rintro e w10 ⟨rfl, hb⟩
    clear ch0 ch1 ch2 ch3 cf0 cf1 cf2 cf3
    have Z10 : Hid (w9.heap.size ≤ w10.heap.size) := hb.size
    have BB10 := hide (BB9.out.trans (hb.mono BB9.out.size))
    have RI10 := hide (RI9.out.below hb)
    have Bap10 := hide (Bap9.out.below hb)
    have Bw10 := hide (Bw9.out.below hb)
    have Bf10 := hide (Bf9.out.below hb)
    have Bx10 := hide (Bx9.out.below hb)
    have Bg10 := hide (Bg9.out.below hb)
    have Bh10 := hide (Bh9.out.below hb)
    have Ru10 := hide (own_below Ru9.out hb)
    have Rw10 := hide (own_below Rw9.out hb)
    have Rx10 := hide (own_below Rx9.out hb)
    have Rg10 := hide (own_below Rg9.out hb)
    clear BB9 RI9 Bap9 Bw9 Bf9 Bx9 Bg9 Bh9 Ru9 Rw9 Rx9 Rg9
    clear hb
    have cap0 := Bap10.out.c 0 rfl
    have cap1 := Bap10.out.c 1 rfl
    have cap2 := Bap10.out.c 2 rfl
    have cap3 := Bap10.out.c 3 rfl
    have cx0 := Bx10.out.c 0 rfl
    have cx1 := Bx10.out.c 1 rfl
    have cx2 := Bx10.out.c 2 rfl
    have cx3 := Bx10.out.c 3 rfl
    go_wp2_with fail
    go_region_held3 (fun w' => w'.cell? ⟨w.heap.size, 0, none⟩ = some (.int .i64 a0x0) ∧ w'.cell? ⟨w.heap.size, 1, none⟩ = some (.int .i64 a0x1) ∧ w'.cell? ⟨w.heap.size, 2, none⟩ = some (.string a0x2) ∧ w'.cell? ⟨w.heap.size, 3, none⟩ = some (.slice A l.length c) ∧ w'.cell? ⟨w5.heap.size, 0, none⟩ = some (.int .i64 a0x0) ∧ w'.cell? ⟨w5.heap.size, 1, none⟩ = some (.int .i64 a0x1) ∧ w'.cell? ⟨w5.heap.size, 2, none⟩ = some (.string a0x2) ∧ w'.cell? ⟨w5.heap.size, 3, none⟩ = some (.slice Ax l.length cx)) (first | go_keep | exact keep44 Bap10.out Bx10.out ‹Below w10.heap.size w10 _›) (first | (go_at_call 12; refine (l_toPacker _ _ _ _ _ _ l _ (show RI w10.drew A l.length l from RI10.out) hn).mono ?_; rintro e w11 ⟨v7, rfl, ho7, hb7⟩; obtain ⟨A7, c7, rfl⟩ := own_form ho7; replace hb7 : Below w10.heap.size w10 w11 := below_undrew hb7; have O7 := hide (own_below Rx10.out hb7); have P7 := hide ho7; clear ho7) | (go_at_call 14; refine (l_eqPacker _ _ _ _ _ _ _ l _ O7.out P7.out hn).mono ?_; rintro e w12 ⟨rfl, hb8⟩; replace hb8 : Below w10.heap.size w10 w12 := below_trans hb7 hb8))
    all_goals
      clear hb7 O7 P7
      clear cap0 cap1 cap2 cap3 cx0 cx1 cx2 cx3
      have Z11 : Hid (w10.heap.size ≤ w12.heap.size) := hb8.size
      have BB11 := hide (BB10.out.trans (hb8.mono BB10.out.size))
      have RI11 := hide (RI10.out.below hb8)
      have Bap11 := hide (Bap10.out.below hb8)
      have Bw11 := hide (Bw10.out.below hb8)
      have Bf11 := hide (Bf10.out.below hb8)
      have Bx11 := hide (Bx10.out.below hb8)
      have Bg11 := hide (Bg10.out.below hb8)
      have Bh11 := hide (Bh10.out.below hb8)
      have Ru11 := hide (own_below Ru10.out hb8)
      have Rw11 := hide (own_below Rw10.out hb8)
      have Rx11 := hide (own_below Rx10.out hb8)
      have Rg11 := hide (own_below Rg10.out hb8)
      clear BB10 RI10 Bap10 Bw10 Bf10 Bx10 Bg10 Bh10 Ru10 Rw10 Rx10 Rg10
      clear hb8
      have cx0 := Bx11.out.c 0 rfl
      have cx1 := Bx11.out.c 1 rfl
      have cx2 := Bx11.out.c 2 rfl
      have cx3 := Bx11.out.c 3 rfl
      go_wp2_with fail
      refine (l_markPacker _ _ _ W4.heap.size l.length 1 _ (Is l) _ Rx11.out hn (by omega) (by have := Z0.out; have := Z1.out; have := Z2.out; have := Z3.out; have := Z4.out; have := Yw.out; have := Yf.out; have := Z5.out; have := Z6.out; have := Yx.out; have := Z7.out; have := Z8.out; have := Yg.out; have := Yh.out; have := Z9.out; have := Z10.out; have := Z11.out; omega)).mono ?_
      rintro e w13 ⟨rfl, ho, hb, hs⟩
      clear cx0 cx1 cx2 cx3
      have Z12 : Hid (w12.heap.size ≤ w13.heap.size) := hb.size
      have BB12 := hide (BB11.out.trans (hb.mono (by have := BB11.out.size; have := Z0.out; have := Z1.out; have := Z2.out; have := Z3.out; have := Z4.out; have := Yw.out; have := Yf.out; have := Z5.out; have := Z6.out; have := Yx.out; have := Z7.out; have := Z8.out; have := Yg.out; have := Yh.out; have := Z9.out; have := Z10.out; have := Z11.out; omega)))
      have RI12 := hide (RI0x.out.below BB12.out)
      have Bap12 := hide (Bap11.out.same hs Z12.out (by intro e; have h := Dx.out _ e; have := Z0.out; have := Z1.out; have := Z2.out; have := Z3.out; have := Z4.out; have := Yw.out; have := Yf.out; have := Z5.out; have := Z6.out; have := Yx.out; have := Z7.out; have := Z8.out; have := Yg.out; have := Yh.out; have := Z9.out; have := Z10.out; have := Z11.out; omega))
      have Bw12 := hide (Bw11.out.same hs Z12.out (by intro e; have h := Dx.out _ e; have := Z0.out; have := Z1.out; have := Z2.out; have := Z3.out; have := Z4.out; have := Yw.out; have := Yf.out; have := Z5.out; have := Z6.out; have := Yx.out; have := Z7.out; have := Z8.out; have := Yg.out; have := Yh.out; have := Z9.out; have := Z10.out; have := Z11.out; omega))
      have Bf12 := hide (Bf11.out.same hs Z12.out (by intro e; have h := Dx.out _ e; have := Z0.out; have := Z1.out; have := Z2.out; have := Z3.out; have := Z4.out; have := Yw.out; have := Yf.out; have := Z5.out; have := Z6.out; have := Yx.out; have := Z7.out; have := Z8.out; have := Yg.out; have := Yh.out; have := Z9.out; have := Z10.out; have := Z11.out; omega))
      have Bx12 := hide (Bx11.out.same hs Z12.out (by intro e; have h := Dx.out _ e; have := Z0.out; have := Z1.out; have := Z2.out; have := Z3.out; have := Z4.out; have := Yw.out; have := Yf.out; have := Z5.out; have := Z6.out; have := Yx.out; have := Z7.out; have := Z8.out; have := Yg.out; have := Yh.out; have := Z9.out; have := Z10.out; have := Z11.out; omega))
      have Bg12 := hide (Bg11.out.same hs Z12.out (by intro e; have h := Dx.out _ e; have := Z0.out; have := Z1.out; have := Z2.out; have := Z3.out; have := Z4.out; have := Yw.out; have := Yf.out; have := Z5.out; have := Z6.out; have := Yx.out; have := Z7.out; have := Z8.out; have := Yg.out; have := Yh.out; have := Z9.out; have := Z10.out; have := Z11.out; omega))
      have Bh12 := hide (Bh11.out.same hs Z12.out (by intro e; have h := Dx.out _ e; have := Z0.out; have := Z1.out; have := Z2.out; have := Z3.out; have := Z4.out; have := Yw.out; have := Yf.out; have := Z5.out; have := Z6.out; have := Yx.out; have := Z7.out; have := Z8.out; have := Yg.out; have := Yh.out; have := Z9.out; have := Z10.out; have := Z11.out; omega))
      have Ru12 := hide (own_apart Ru11.out hs (by intro k hk e; have h := Dx.out _ e; have h2 := Du.out _ hk; have := Z0.out; have := Z1.out; have := Z2.out; have := Z3.out; have := Z4.out; have := Yw.out; have := Yf.out; have := Z5.out; have := Z6.out; have := Yx.out; have := Z7.out; have := Z8.out; have := Yg.out; have := Yh.out; have := Z9.out; have := Z10.out; have := Z11.out; omega))
      have Rw12 := hide (own_apart Rw11.out hs (by intro k hk e; have h := Dx.out _ e; have h2 := Dw.out _ hk; have := Z0.out; have := Z1.out; have := Z2.out; have := Z3.out; have := Z4.out; have := Yw.out; have := Yf.out; have := Z5.out; have := Z6.out; have := Yx.out; have := Z7.out; have := Z8.out; have := Yg.out; have := Yh.out; have := Z9.out; have := Z10.out; have := Z11.out; omega))
      have Rg12 := hide (own_apart Rg11.out hs (by intro k hk e; have h := Dx.out _ e; have h2 := Dg.out _ hk; have := Z0.out; have := Z1.out; have := Z2.out; have := Z3.out; have := Z4.out; have := Yw.out; have := Yf.out; have := Z5.out; have := Z6.out; have := Yx.out; have := Z7.out; have := Z8.out; have := Yg.out; have := Yh.out; have := Z9.out; have := Z10.out; have := Z11.out; omega))
      clear BB11 RI11 Bap11 Bw11 Bf11 Bx11 Bg11 Bh11 Ru11 Rw11 Rg11
      have Rx12 := hide ho
      clear ho hb hs Rx11
      have cg0 := Bg12.out.c 0 rfl
      have cg1 := Bg12.out.c 1 rfl
      have cg2 := Bg12.out.c 2 rfl
      have cg3 := Bg12.out.c 3 rfl
      have cw0 := Bw12.out.c 0 rfl
      have cw1 := Bw12.out.c 1 rfl
      have cw2 := Bw12.out.c 2 rfl
      have cw3 := Bw12.out.c 3 rfl
      go_wp2_with fail
      refine (l_eqPacker _ _ _ _ _ _ _ l' _ Rg12.out Rw12.out hn').mono ?_
      rintro e w14 ⟨rfl, hb⟩
      clear cg0 cg1 cg2 cg3 cw0 cw1 cw2 cw3
      have Z13 : Hid (w13.heap.size ≤ w14.heap.size) := hb.size
      have BB13 := hide (BB12.out.trans (hb.mono BB12.out.size))
      have RI13 := hide (RI12.out.below hb)
      have Bap13 := hide (Bap12.out.below hb)
      have Bw13 := hide (Bw12.out.below hb)
      have Bf13 := hide (Bf12.out.below hb)
      have Bx13 := hide (Bx12.out.below hb)
      have Bg13 := hide (Bg12.out.below hb)
      have Bh13 := hide (Bh12.out.below hb)
      have Ru13 := hide (own_below Ru12.out hb)
      have Rw13 := hide (own_below Rw12.out hb)
      have Rx13 := hide (own_below Rx12.out hb)
      have Rg13 := hide (own_below Rg12.out hb)
      clear BB12 RI12 Bap12 Bw12 Bf12 Bx12 Bg12 Bh12 Ru12 Rw12 Rx12 Rg12
      clear hb
      have ch0 := Bh13.out.c 0 rfl
      have ch1 := Bh13.out.c 1 rfl
      have ch2 := Bh13.out.c 2 rfl
      have ch3 := Bh13.out.c 3 rfl
      have cf0 := Bf13.out.c 0 rfl
      have cf1 := Bf13.out.c 1 rfl
      have cf2 := Bf13.out.c 2 rfl
      have cf3 := Bf13.out.c 3 rfl
      go_wp2_with fail
      refine (l_eqFrame _ _ _ _ _).mono ?_
      rintro e w15 ⟨rfl, hb⟩
      clear ch0 ch1 ch2 ch3 cf0 cf1 cf2 cf3
      have Z14 : Hid (w14.heap.size ≤ w15.heap.size) := hb.size
      have BB14 := hide (BB13.out.trans (hb.mono BB13.out.size))
      have RI14 := hide (RI13.out.below hb)
      have Bap14 := hide (Bap13.out.below hb)
      have Bw14 := hide (Bw13.out.below hb)
      have Bf14 := hide (Bf13.out.below hb)
      have Bx14 := hide (Bx13.out.below hb)
      have Bg14 := hide (Bg13.out.below hb)
      have Bh14 := hide (Bh13.out.below hb)
      have Ru14 := hide (own_below Ru13.out hb)
      have Rw14 := hide (own_below Rw13.out hb)
      have Rx14 := hide (own_below Rx13.out hb)
      have Rg14 := hide (own_below Rg13.out hb)
      clear BB13 RI13 Bap13 Bw13 Bf13 Bx13 Bg13 Bh13 Ru13 Rw13 Rx13 Rg13
      clear hb
      have cg0 := Bg14.out.c 0 rfl
      have cg1 := Bg14.out.c 1 rfl
      have cg2 := Bg14.out.c 2 rfl
      have cg3 := Bg14.out.c 3 rfl
      go_wp2_with fail
      refine (l_markPacker _ _ _ W6.heap.size l'.length 1 _ (Is l') _ Rg14.out hn' (by omega) (by have := Z0.out; have := Z1.out; have := Z2.out; have := Z3.out; have := Z4.out; have := Yw.out; have := Yf.out; have := Z5.out; have := Z6.out; have := Yx.out; have := Z7.out; have := Z8.out; have := Yg.out; have := Yh.out; have := Z9.out; have := Z10.out; have := Z11.out; have := Z12.out; have := Z13.out; have := Z14.out; omega)).mono ?_
      rintro e w16 ⟨rfl, ho, hb, hs⟩
      clear cg0 cg1 cg2 cg3
      have Z15 : Hid (w15.heap.size ≤ w16.heap.size) := hb.size
      have BB15 := hide (BB14.out.trans (hb.mono (by have := BB14.out.size; have := Z0.out; have := Z1.out; have := Z2.out; have := Z3.out; have := Z4.out; have := Yw.out; have := Yf.out; have := Z5.out; have := Z6.out; have := Yx.out; have := Z7.out; have := Z8.out; have := Yg.out; have := Yh.out; have := Z9.out; have := Z10.out; have := Z11.out; have := Z12.out; have := Z13.out; have := Z14.out; omega)))
      have RI15 := hide (RI0x.out.below BB15.out)
      have Bap15 := hide (Bap14.out.same hs Z15.out (by intro e; have h := Dg.out _ e; have := Z0.out; have := Z1.out; have := Z2.out; have := Z3.out; have := Z4.out; have := Yw.out; have := Yf.out; have := Z5.out; have := Z6.out; have := Yx.out; have := Z7.out; have := Z8.out; have := Yg.out; have := Yh.out; have := Z9.out; have := Z10.out; have := Z11.out; have := Z12.out; have := Z13.out; have := Z14.out; omega))
      have Bw15 := hide (Bw14.out.same hs Z15.out (by intro e; have h := Dg.out _ e; have := Z0.out; have := Z1.out; have := Z2.out; have := Z3.out; have := Z4.out; have := Yw.out; have := Yf.out; have := Z5.out; have := Z6.out; have := Yx.out; have := Z7.out; have := Z8.out; have := Yg.out; have := Yh.out; have := Z9.out; have := Z10.out; have := Z11.out; have := Z12.out; have := Z13.out; have := Z14.out; omega))
      have Bf15 := hide (Bf14.out.same hs Z15.out (by intro e; have h := Dg.out _ e; have := Z0.out; have := Z1.out; have := Z2.out; have := Z3.out; have := Z4.out; have := Yw.out; have := Yf.out; have := Z5.out; have := Z6.out; have := Yx.out; have := Z7.out; have := Z8.out; have := Yg.out; have := Yh.out; have := Z9.out; have := Z10.out; have := Z11.out; have := Z12.out; have := Z13.out; have := Z14.out; omega))
      have Bx15 := hide (Bx14.out.same hs Z15.out (by intro e; have h := Dg.out _ e; have := Z0.out; have := Z1.out; have := Z2.out; have := Z3.out; have := Z4.out; have := Yw.out; have := Yf.out; have := Z5.out; have := Z6.out; have := Yx.out; have := Z7.out; have := Z8.out; have := Yg.out; have := Yh.out; have := Z9.out; have := Z10.out; have := Z11.out; have := Z12.out; have := Z13.out; have := Z14.out; omega))
      have Bg15 := hide (Bg14.out.same hs Z15.out (by intro e; have h := Dg.out _ e; have := Z0.out; have := Z1.out; have := Z2.out; have := Z3.out; have := Z4.out; have := Yw.out; have := Yf.out; have := Z5.out; have := Z6.out; have := Yx.out; have := Z7.out; have := Z8.out; have := Yg.out; have := Yh.out; have := Z9.out; have := Z10.out; have := Z11.out; have := Z12.out; have := Z13.out; have := Z14.out; omega))
      have Bh15 := hide (Bh14.out.same hs Z15.out (by intro e; have h := Dg.out _ e; have := Z0.out; have := Z1.out; have := Z2.out; have := Z3.out; have := Z4.out; have := Yw.out; have := Yf.out; have := Z5.out; have := Z6.out; have := Yx.out; have := Z7.out; have := Z8.out; have := Yg.out; have := Yh.out; have := Z9.out; have := Z10.out; have := Z11.out; have := Z12.out; have := Z13.out; have := Z14.out; omega))
      have Ru15 := hide (own_apart Ru14.out hs (by intro k hk e; have h := Dg.out _ e; have h2 := Du.out _ hk; have := Z0.out; have := Z1.out; have := Z2.out; have := Z3.out; have := Z4.out; have := Yw.out; have := Yf.out; have := Z5.out; have := Z6.out; have := Yx.out; have := Z7.out; have := Z8.out; have := Yg.out; have := Yh.out; have := Z9.out; have := Z10.out; have := Z11.out; have := Z12.out; have := Z13.out; have := Z14.out; omega))
      have Rw15 := hide (own_apart Rw14.out hs (by intro k hk e; have h := Dg.out _ e; have h2 := Dw.out _ hk; have := Z0.out; have := Z1.out; have := Z2.out; have := Z3.out; have := Z4.out; have := Yw.out; have := Yf.out; have := Z5.out; have := Z6.out; have := Yx.out; have := Z7.out; have := Z8.out; have := Yg.out; have := Yh.out; have := Z9.out; have := Z10.out; have := Z11.out; have := Z12.out; have := Z13.out; have := Z14.out; omega))
      have Rx15 := hide (own_apart Rx14.out hs (by intro k hk e; have h := Dg.out _ e; have h2 := Dx.out _ hk; have := Z0.out; have := Z1.out; have := Z2.out; have := Z3.out; have := Z4.out; have := Yw.out; have := Yf.out; have := Z5.out; have := Z6.out; have := Yx.out; have := Z7.out; have := Z8.out; have := Yg.out; have := Yh.out; have := Z9.out; have := Z10.out; have := Z11.out; have := Z12.out; have := Z13.out; have := Z14.out; omega))
      clear BB14 RI14 Bap14 Bw14 Bf14 Bx14 Bg14 Bh14 Ru14 Rw14 Rx14
      have Rg15 := hide ho
      clear ho hb hs Rg14
      have cg0 := Bg15.out.c 0 rfl
      have cg1 := Bg15.out.c 1 rfl
      have cg2 := Bg15.out.c 2 rfl
      have cg3 := Bg15.out.c 3 rfl
      go_wp2_with fail
      refine (l_heldPacker _ _ _ _ l'.length 1 _ _ Rg15.out hn' (by omega)).mono ?_
      rintro e w17 ⟨rfl, hb⟩
      clear cg0 cg1 cg2 cg3
      have Z16 : Hid (w16.heap.size ≤ w17.heap.size) := hb.size
      have BB16 := hide (BB15.out.trans (hb.mono BB15.out.size))
      have RI16 := hide (RI15.out.below hb)
      have Bap16 := hide (Bap15.out.below hb)
      have Bw16 := hide (Bw15.out.below hb)
      have Bf16 := hide (Bf15.out.below hb)
      have Bx16 := hide (Bx15.out.below hb)
      have Bg16 := hide (Bg15.out.below hb)
      have Bh16 := hide (Bh15.out.below hb)
      have Ru16 := hide (own_below Ru15.out hb)
      have Rw16 := hide (own_below Rw15.out hb)
      have Rx16 := hide (own_below Rx15.out hb)
      have Rg16 := hide (own_below Rg15.out hb)
      clear BB15 RI15 Bap15 Bw15 Bf15 Bx15 Bg15 Bh15 Ru15 Rw15 Rx15 Rg15
      clear hb
      have cap0 := Bap16.out.c 0 rfl
      have cap1 := Bap16.out.c 1 rfl
      have cap2 := Bap16.out.c 2 rfl
      have cap3 := Bap16.out.c 3 rfl
      have q0 : decide (((1 + l'.length : Nat) : Int) < 0) = false := decide_eq_false (by omega)
      go_wp2_with fail
      refine (l_toPacker _ _ _ _ _ _ l _ RI16.out hn).mono ?_
      rintro e w18 ⟨vy, rfl, ho, hb⟩
      obtain ⟨Ay, cy, rfl⟩ := own_form ho
      clear cap0 cap1 cap2 cap3
      have Z17 : Hid (w17.heap.size ≤ w18.heap.size) := hb.size
      have BB17 := hide (BB16.out.trans (hb.mono BB16.out.size))
      have RI17 := hide (RI16.out.below hb)
      have Bap17 := hide (Bap16.out.below hb)
      have Bw17 := hide (Bw16.out.below hb)
      have Bf17 := hide (Bf16.out.below hb)
      have Bx17 := hide (Bx16.out.below hb)
      have Bg17 := hide (Bg16.out.below hb)
      have Bh17 := hide (Bh16.out.below hb)
      have Ru17 := hide (own_below Ru16.out hb)
      have Rw17 := hide (own_below Rw16.out hb)
      have Rx17 := hide (own_below Rx16.out hb)
      have Rg17 := hide (own_below Rg16.out hb)
      clear BB16 RI16 Bap16 Bw16 Bf16 Bx16 Bg16 Bh16 Ru16 Rw16 Rx16 Rg16
      have Ry17 := hide ho
      have Dy : Hid (∀ k, (Value.slice Ay l.length cy).ownBlock = some k → w17.heap.size ≤ k ∧ k < w18.heap.size) := fun k hk => ho.lt k hk
      clear ho hb
      go_wp2_with fail
      refine (i_Take_is _ _ _ _ _ _ l _ _ _ _ _ _ _ _ _ (RI.of_own Ry17.out) hn (by omega) TP.out TF.out TO.out).mono ?_
      rintro e w19 ⟨vk, rfl, ho, hb⟩
      obtain ⟨Ak, ck, rfl⟩ := own_form ho
      have Z18 : Hid (w18.heap.size ≤ w19.heap.size) := hb.size
      have BB18 := hide (BB17.out.trans (hb.mono BB17.out.size))
      have RI18 := hide (RI17.out.below hb)
      have Bap18 := hide (Bap17.out.below hb)
      have Bw18 := hide (Bw17.out.below hb)
      have Bf18 := hide (Bf17.out.below hb)
      have Bx18 := hide (Bx17.out.below hb)
      have Bg18 := hide (Bg17.out.below hb)
      have Bh18 := hide (Bh17.out.below hb)
      have Ru18 := hide (own_below Ru17.out hb)
      have Rw18 := hide (own_below Rw17.out hb)
      have Rx18 := hide (own_below Rx17.out hb)
      have Rg18 := hide (own_below Rg17.out hb)
      have Ry18 := hide (own_below Ry17.out hb)
      clear BB17 RI17 Bap17 Bw17 Bf17 Bx17 Bg17 Bh17 Ru17 Rw17 Rx17 Rg17 Ry17
      have Rk18 := hide ho
      have Dk : Hid (∀ k, (Value.slice Ak l'.length ck).ownBlock = some k → w18.heap.size ≤ k ∧ k < w19.heap.size) := fun k hk => ho.lt k hk
      clear ho hb
      have cw0 := Bw18.out.c 0 rfl
      have cw1 := Bw18.out.c 1 rfl
      have cw2 := Bw18.out.c 2 rfl
      have cw3 := Bw18.out.c 3 rfl
      have lw : w3.heap.size < w19.heap.size := Bw18.out.1
      have nw : ¬ w3.heap.size = w19.heap.size := by omega
      go_wp2_with fail
      obtain ⟨hA, b1, b2⟩ := two_boxes w19 (.int .i64 a0x0) (.int .i64 b') (.string r') (.slice Ak l'.length ck) (.int .i64 fa) (.int .i64 fb) (.int .i64 ff) (.string fd) 27 41
      generalize ((w19.alloc (.cells #[.int .i64 a0x0, .int .i64 b', .string r', .slice Ak l'.length ck] 27)).alloc (.cells #[.int .i64 fa, .int .i64 fb, .int .i64 ff, .string fd] 41)) = W20 at *
      clear cw0 cw1 cw2 cw3 lw nw
      have Z19 : Hid (w19.heap.size ≤ W20.heap.size) := hA.size
      have BB19 := hide (BB18.out.trans (hA.mono BB18.out.size))
      have RI19 := hide (RI18.out.below hA)
      have Bap19 := hide (Bap18.out.below hA)
      have Bw19 := hide (Bw18.out.below hA)
      have Bf19 := hide (Bf18.out.below hA)
      have Bx19 := hide (Bx18.out.below hA)
      have Bg19 := hide (Bg18.out.below hA)
      have Bh19 := hide (Bh18.out.below hA)
      have Ru19 := hide (own_below Ru18.out hA)
      have Rw19 := hide (own_below Rw18.out hA)
      have Rx19 := hide (own_below Rx18.out hA)
      have Rg19 := hide (own_below Rg18.out hA)
      have Ry19 := hide (own_below Ry18.out hA)
      have Rk19 := hide (own_below Rk18.out hA)
      clear BB18 RI18 Bap18 Bw18 Bf18 Bx18 Bg18 Bh18 Ru18 Rw18 Rx18 Rg18 Ry18 Rk18
      have Yk : Hid (w19.heap.size < W20.heap.size) := b1.1
      have Bk19 := hide b1
      have Yl : Hid (w19.heap.size + 1 < W20.heap.size) := b2.1
      have Bl19 := hide b2
      clear hA b1 b2
      refine (l_eqPacker _ _ _ _ _ _ _ l' _ Rk19.out Rw19.out hn').mono ?_
      rintro e w21 ⟨rfl, hb⟩
      have Z20 : Hid (W20.heap.size ≤ w21.heap.size) := hb.size
      have BB20 := hide (BB19.out.trans (hb.mono BB19.out.size))
      have RI20 := hide (RI19.out.below hb)
      have Bap20 := hide (Bap19.out.below hb)
      have Bw20 := hide (Bw19.out.below hb)
      have Bf20 := hide (Bf19.out.below hb)
      have Bx20 := hide (Bx19.out.below hb)
      have Bg20 := hide (Bg19.out.below hb)
      have Bh20 := hide (Bh19.out.below hb)
      have Bk20 := hide (Bk19.out.below hb)
      have Bl20 := hide (Bl19.out.below hb)
      have Ru20 := hide (own_below Ru19.out hb)
      have Rw20 := hide (own_below Rw19.out hb)
      have Rx20 := hide (own_below Rx19.out hb)
      have Rg20 := hide (own_below Rg19.out hb)
      have Ry20 := hide (own_below Ry19.out hb)
      have Rk20 := hide (own_below Rk19.out hb)
      clear BB19 RI19 Bap19 Bw19 Bf19 Bx19 Bg19 Bh19 Bk19 Bl19 Ru19 Rw19 Rx19 Rg19 Ry19 Rk19
      clear hb
      have cl0 := Bl20.out.c 0 rfl
      have cl1 := Bl20.out.c 1 rfl
      have cl2 := Bl20.out.c 2 rfl
      have cl3 := Bl20.out.c 3 rfl
      have cf0 := Bf20.out.c 0 rfl
      have cf1 := Bf20.out.c 1 rfl
      have cf2 := Bf20.out.c 2 rfl
      have cf3 := Bf20.out.c 3 rfl
      go_wp2_with fail
      refine (l_eqFrame _ _ _ _ _).mono ?_
      rintro e w22 ⟨rfl, hb⟩
      clear cl0 cl1 cl2 cl3 cf0 cf1 cf2 cf3
      have Z21 : Hid (w21.heap.size ≤ w22.heap.size) := hb.size
      have BB21 := hide (BB20.out.trans (hb.mono BB20.out.size))
      have RI21 := hide (RI20.out.below hb)
      have Bap21 := hide (Bap20.out.below hb)
      have Bw21 := hide (Bw20.out.below hb)
      have Bf21 := hide (Bf20.out.below hb)
      have Bx21 := hide (Bx20.out.below hb)
      have Bg21 := hide (Bg20.out.below hb)
      have Bh21 := hide (Bh20.out.below hb)
      have Bk21 := hide (Bk20.out.below hb)
      have Bl21 := hide (Bl20.out.below hb)
      have Ru21 := hide (own_below Ru20.out hb)
      have Rw21 := hide (own_below Rw20.out hb)
      have Rx21 := hide (own_below Rx20.out hb)
      have Rg21 := hide (own_below Rg20.out hb)
      have Ry21 := hide (own_below Ry20.out hb)
      have Rk21 := hide (own_below Rk20.out hb)
      clear BB20 RI20 Bap20 Bw20 Bf20 Bx20 Bg20 Bh20 Bk20 Bl20 Ru20 Rw20 Rx20 Rg20 Ry20 Rk20
      clear hb
      have cg0 := Bg21.out.c 0 rfl
      have cg1 := Bg21.out.c 1 rfl
      have cg2 := Bg21.out.c 2 rfl
      have cg3 := Bg21.out.c 3 rfl
      go_wp2_with fail
      refine (l_heldPacker _ _ _ _ l'.length 1 _ _ Rg21.out hn' (by omega)).mono ?_
      rintro e w23 ⟨rfl, hb⟩
      clear cg0 cg1 cg2 cg3
      have Z22 : Hid (w22.heap.size ≤ w23.heap.size) := hb.size
      have BB22 := hide (BB21.out.trans (hb.mono BB21.out.size))
      have RI22 := hide (RI21.out.below hb)
      have Bap22 := hide (Bap21.out.below hb)
      have Bw22 := hide (Bw21.out.below hb)
      have Bf22 := hide (Bf21.out.below hb)
      have Bx22 := hide (Bx21.out.below hb)
      have Bg22 := hide (Bg21.out.below hb)
      have Bh22 := hide (Bh21.out.below hb)
      have Bk22 := hide (Bk21.out.below hb)
      have Bl22 := hide (Bl21.out.below hb)
      have Ru22 := hide (own_below Ru21.out hb)
      have Rw22 := hide (own_below Rw21.out hb)
      have Rx22 := hide (own_below Rx21.out hb)
      have Rg22 := hide (own_below Rg21.out hb)
      have Ry22 := hide (own_below Ry21.out hb)
      have Rk22 := hide (own_below Rk21.out hb)
      clear BB21 RI21 Bap21 Bw21 Bf21 Bx21 Bg21 Bh21 Bk21 Bl21 Ru21 Rw21 Rx21 Rg21 Ry21 Rk21
      clear hb
      go_wp2_with fail
      go_ret
      exact ⟨rfl, BB22.out⟩
set_option maxRecDepth 100000 in
theorem lifted (os : Os) (started : os.Started) (H : Type) (enc : TypeId × Value → H) :
    ReturnsInHanded {} Try.checked os 5 .any (Rows.fnExactTakeFrameSpec.pre6 enc Try.prog Try.f5 Rows.fnExactTakeFrameRow.domain false) (Rows.fnExactTakeFrameSpec.post enc Try.prog Try.f5 false true false false) := by
  refine returnsInHanded_of_change (C := Try.checked) own started (by kernel_rfl) Try.func5
    (ChangeSpec.witness6 (enc := enc) (C := Try.checked) false ⟨#[], #[.agg #[.int .i64 0, .int .i64 0, .string ByteArray.empty, .slice none 0 0]], []⟩ 8 (by kernel_rfl) (by kernel_rfl) (by kernel_rfl) (by kernel_rfl)) ?_
  intro W base args ds gs before hval0 hW hcnd _
  have hval : ∀ (j : Nat) t v, Try.f5.params[j]? = some t → args[j]? = some v → Value.okWide Try.prog W .any base t v := hval0
  have hW' := hW
  obtain ⟨p, q, hA0, hV, rfl, hfz, hnd⟩ := hW
  have hA : DataW.TrodAll enc Try.prog W 0 (fun _ => true) true Try.f5.params.toList args.toList ds p := hA0
  rw [Try.params5] at hA hval
  obtain ⟨v0, vs0, d0, ds0, p0, q0, hargs, rfl, rfl, h0, r0⟩ := trodAll_cons hA
  obtain ⟨rfl, rfl, rfl⟩ := trodAll_nil r0
  obtain rfl : args = #[v0] := by cases args; simp_all
  obtain ⟨rfl, rfl⟩ := trodVars_none hV
  have k0 := h0
  have lt0 : ∀ x ∈ p0, x.block < W.heap.size := by obtain ⟨m, hm⟩ := k0; exact DataW.trod_lt m _ _ _ hm
  obtain ⟨v0x0, v0x1, v0x2, v0x3, y0x0, y0x1, y0x2, y0x3, n0, rfl, rfl, rfl, f0x0, f0x1, f0x2, f0x3⟩ := open_agg4_ Try.underlying24 (by kernel_rfl) (by kernel_rfl) (hval 0 24 v0 rfl rfl) h0
  obtain ⟨a0x0, rfl, b0x0⟩ := field_int Try.underlying3 f0x0
  obtain ⟨a0x1, rfl, b0x1⟩ := field_int Try.underlying3 f0x1
  obtain ⟨a0x2, rfl, b0x2⟩ := field_string Try.underlying9 f0x2
  obtain ⟨a0x3, n0x3, c0x3, z0x3, rfl, r0x3, m0x3⟩ := field_ints Try.underlying22 Try.underlying3 (by kernel_rfl) f0x3
  clear hA0 hval0
  refine (walk a0x0 (bounds_i64 b0x0).1 (bounds_i64 b0x0).2 a0x1 (bounds_i64 b0x1).1 (bounds_i64 b0x1).2 a0x2 b0x2 a0x3 n0x3 c0x3 z0x3 m0x3 W r0x3).mono fun e W' ⟨he, bel⟩ => ?_
  subst he
  exact ⟨_, rfl, _, _, _, [], _, [], hW', trodAll_mk1 (shut_bool Try.underlying4 _), (trodAll_cons_mk (Below.trod laidOut (by kernel_rfl) (of_decide_eq_true (by kernel_rfl)) k0 bel lt0) trodAll_mk0), rfl, bel.frame _, fun h => by cases h⟩
theorem closed : joinedFacts Try.prog 5 Try.f5 Rows.fnExactTakeFrameSpec Rows.fnExactTakeFrameRow = true :=
  joined_of (by as_aux_lemma => kernel_rfl) laidOut mapsRowed_ (by as_aux_lemma => kernel_rfl) (by as_aux_lemma => kernel_rfl) (by kernel_rfl) (by as_aux_lemma => kernel_rfl) (by kernel_rfl) (by as_aux_lemma => kernel_rfl)
    (by as_aux_lemma => kernel_rfl) (by as_aux_lemma => kernel_rfl) (by as_aux_lemma => kernel_rfl) (by as_aux_lemma => kernel_rfl) (by as_aux_lemma => kernel_rfl) (by as_aux_lemma => kernel_rfl) (by as_aux_lemma => kernel_rfl) (by as_aux_lemma => kernel_rfl) (by as_aux_lemma => kernel_rfl) (by as_aux_lemma => kernel_rfl)
    (by as_aux_lemma => kernel_rfl) (by as_aux_lemma => kernel_rfl) (by as_aux_lemma => kernel_rfl) (by as_aux_lemma => kernel_rfl) (by kernel_rfl) stopsHeard_ mayEnter_ (by rw [liftsFinal_]; kernel_rfl) (by rw [make_]; kernel_rfl) (by as_aux_lemma => kernel_rfl) (by kernel_rfl) (by as_aux_lemma => kernel_rfl) (by as_aux_lemma => kernel_rfl)
theorem over : Rows.fnExactTakeFrameRow.holds Try.pinned (OpenSpec.ofChange Rows.fnExactTakeFrameSpec) :=
  OpenClaim.holds_of_wide 5 Try.f5 rfl rfl rfl rfl rfl rfl rfl ⟨rfl, rfl, rfl, rfl, rfl⟩ rfl rfl rfl rfl rfl (by kernel_rfl) Try.func5 closed
    (of_decide_eq_true (by kernel_rfl)) (by unfold Func.isWrapper; first | (rw [if_pos (by decide +kernel)]; kernel_rfl) | (rw [if_neg (by decide +kernel)]; exact ⟨rfl, rfl⟩))
    (fun os started H enc _ => lifted os started H enc)
theorem proved : Rows.FnExactTakeFrameSaid := over
#print axioms proved
end Go.Proofs.Ytnelfadmcpacbaa.fnExactTakeFrame
