/- What EncodePacket, EncodeFrame, DecodePacket, DecodeFrame and NewUnpacker return, in the program and in the reference, and the laws' comparisons. -/
import Derived.Test.YtnelfadmcpacbaaFrmA
import Derived.Test.YtnelfadmcpacbaaWordB
import Derived.Test.YtnelfadmcpacbaaWordC
import Derived.Test.YtnelfadmcpacbaaWordF
import Derived.Deep.RegionHeld3
namespace Go.Proofs.Ytnelfadmcpacbaa
open Go.RowKit Sat
set_option linter.unusedVariables false
set_option linter.unusedSimpArgs false

def pktE (a q : Int) (d : ByteArray) : ByteArray := if pktOk a q d then putB a 1 ++ putB q 2 ++ putB d.size 1 ++ d else str []
theorem bc2 {W w1 : World} (hb : Below W.heap.size W w1) : (∀ b o, b < W.heap.size → w1.cell? ⟨b, o, none⟩ = W.cell? ⟨b, o, none⟩) ∧ (∀ b o, b < W.heap.size → w1.frozen? ⟨b, o, none⟩ = W.frozen? ⟨b, o, none⟩) :=
  ⟨fun b o h => hb.cell (p := ⟨b, o, none⟩) h, fun b o h => hb.frozen (p := ⟨b, o, none⟩) h⟩
set_option maxHeartbeats 1600000 in
theorem l_eqUnpacker (c n : Int) (y : Bool) (r : ByteArray) (o : Int) (w : World) :
    Calls Try.prog 35 #[.agg #[.int .i64 c, .int .i64 n, .bool y, .string r, .int .i64 o], .agg #[.int .i64 c, .int .i64 n, .bool y, .string r, .int .i64 o]] w fun e w' => e = .returned (.bool true) ∧ Below w.heap.size w w' := by
  go_enter Try.func35, Try.ntmps35
  go_wp2
  go_ret
  exact ⟨rfl, (by repeat (first | exact Below.refl _ _ | refine Below.drew ?_ | refine below_drewN ?_ _ | refine Below.alloc ?_ (by first | exact Nat.le_refl _ | (simp; done) | (simp; omega)) _))⟩
set_option maxHeartbeats 1600000 in
theorem l_eqPacket (a q : Int) (d : ByteArray) (w : World) :
    Calls Try.prog 75 #[.agg #[.int .i64 a, .int .i64 q, .string d], .agg #[.int .i64 a, .int .i64 q, .string d]] w fun e w' => e = .returned (.bool true) ∧ Below w.heap.size w w' := by
  go_enter Try.func75, Try.ntmps75
  go_wp2
  go_ret
  exact ⟨rfl, (by repeat (first | exact Below.refl _ _ | refine Below.drew ?_ | refine below_drewN ?_ _ | refine Below.alloc ?_ (by first | exact Nat.le_refl _ | (simp; done) | (simp; omega)) _))⟩
set_option maxHeartbeats 1600000 in
theorem l_eqFrame (c n f : Int) (d : ByteArray) (w : World) :
    Calls Try.prog 23 #[.agg #[.int .i64 c, .int .i64 n, .int .i64 f, .string d], .agg #[.int .i64 c, .int .i64 n, .int .i64 f, .string d]] w fun e w' => e = .returned (.bool true) ∧ Below w.heap.size w w' := by
  go_enter Try.func23, Try.ntmps23
  go_wp2
  go_ret
  exact ⟨rfl, (by repeat (first | exact Below.refl _ _ | refine Below.drew ?_ | refine below_drewN ?_ _ | refine Below.alloc ?_ (by first | exact Nat.le_refl _ | (simp; done) | (simp; omega)) _))⟩
theorem i_PacketOk_is (a q : Int) (d : ByteArray) (r : Bool) (w : World) (hd : d.size ≤ 1099511627776) (h : pktOk a q d = r) :
    Calls Try.prog 61 #[.agg #[.int .i64 a, .int .i64 q, .string d]] w fun e w' => e = .returned (.bool r) ∧ Below w.heap.size w w' := by
  subst h; exact i_PacketOk a q d w hd
theorem s_PacketOk_is (a q : Int) (d : ByteArray) (r : Bool) (w : World) (hd : d.size ≤ 1099511627776) (h : pktOk a q d = r) :
    Calls Try.prog 59 #[.agg #[.int .i64 a, .int .i64 q, .string d]] w fun e w' => e = .returned (.bool r) ∧ Below w.heap.size w w' := by
  subst h; exact s_PacketOk a q d w hd
theorem i_FrameOk_is (c n f : Int) (d : ByteArray) (r : Bool) (w : World) (hd : d.size ≤ 1099511627776) (h : frmOk c n f d = r) :
    Calls Try.prog 72 #[.agg #[.int .i64 c, .int .i64 n, .int .i64 f, .string d]] w fun e w' => e = .returned (.bool r) ∧ Below w.heap.size w w' := by
  subst h; exact i_FrameOk c n f d w hd
theorem s_FrameOk_is (c n f : Int) (d : ByteArray) (r : Bool) (w : World) (hd : d.size ≤ 1099511627776) (h : frmOk c n f d = r) :
    Calls Try.prog 68 #[.agg #[.int .i64 c, .int .i64 n, .int .i64 f, .string d]] w fun e w' => e = .returned (.bool r) ∧ Below w.heap.size w w' := by
  subst h; exact s_FrameOk c n f d w hd
theorem box_cell {w w' : World} {cs : Array Value} {t : TypeId} (h : Below (w.alloc (.cells cs t)).heap.size (w.alloc (.cells cs t)) w') (j : Nat) : w'.cell? ⟨w.heap.size, j, none⟩ = cs[j]? :=
  (h.cell (p := ⟨w.heap.size, j, none⟩) (by simp)).trans (World.cell?_alloc_mark w _ _ (0, 0) j)
theorem box_below {w w' : World} {o : Obj} (h : Below (w.alloc o).heap.size (w.alloc o) w') : Below w.heap.size w w' := ((Below.refl w.heap.size w).alloc (Nat.le_refl _) _).trans (h.mono (by simp))
theorem i_PutWord_from (W0 : World) (n k : Int) (w : World) (h : Below W0.heap.size W0 w) :
    Calls Try.prog 46 #[.int .i64 n, .int .i64 k] w fun e w' => e = .returned (.string (putB n k)) ∧ Below W0.heap.size W0 w' :=
  (i_PutWord n k w).mono fun _ _ ⟨h1, h2⟩ => ⟨h1, below_trans h h2⟩
theorem s_PutWord_from (W0 : World) (n k : Int) (w : World) (h : Below W0.heap.size W0 w) :
    Calls Try.prog 80 #[.int .i64 n, .int .i64 k] w fun e w' => e = .returned (.string (putB n k)) ∧ Below W0.heap.size W0 w' :=
  (s_PutWord n k w).mono fun _ _ ⟨h1, h2⟩ => ⟨h1, below_trans h h2⟩
set_option maxHeartbeats 1600000 in
theorem i_EncodePacket_yes (a q : Int) (d : ByteArray) (w : World) (h : pktOk a q d = true) :
    Calls Try.prog 63 #[.agg #[.int .i64 a, .int .i64 q, .string d]] w fun e w' => e = .returned (.string (pktE a q d)) ∧ Below w.heap.size w w' := by
  have hh := h
  unfold pktOk at hh
  simp only [Bool.and_eq_true, decide_eq_true_eq] at hh
  have ha := of_inR hh.1.1
  have hq := of_inR hh.1.2
  have hd40 := hh.2
  have HE := hide (show pktE a q d = putB a 1 ++ putB q 2 ++ putB d.size 1 ++ d by unfold pktE; rw [if_pos h])
  have HO := hide h
  have z1 := putB_size a 1
  have z2 := putB_size q 2
  have z3 := putB_size d.size 1
  clear h hh
  go_enter Try.func63, Try.ntmps63
  go_wp2_with fail
  refine (i_PacketOk_is _ _ _ _ _ (by omega) HO.out).mono ?_
  rintro e w1 ⟨rfl, hb⟩
  have hz1 := hb.size
  simp only [World.size_alloc] at hz1
  have hy1 : w.heap.size < w1.heap.size := by omega
  have hbd := hb.drew
  clear hz1 hy1 hb
  have hadd1 := fun w => run_string_add_sum (P := Try.prog) (w := w) (putB a 1) (putB q 2) (by omega)
  have hz12 : (putB a 1 ++ putB q 2).size ≤ 8 := by rw [ByteArray.size_append]; omega
  have hadd2 := fun w => run_string_add_sum (P := Try.prog) (w := w) (putB a 1 ++ putB q 2) (putB d.size 1) (by omega)
  have hz123 : (putB a 1 ++ putB q 2 ++ putB d.size 1).size ≤ 12 := by rw [ByteArray.size_append]; omega
  have hadd3 := fun w => run_string_add_sum (P := Try.prog) (w := w) (putB a 1 ++ putB q 2 ++ putB d.size 1) d (by omega)
  go_wp2_with fail
  go_region_held3 (fun w' => w'.cell? ⟨w.heap.size, 0, none⟩ = some (.int .i64 a) ∧ w'.cell? ⟨w.heap.size, 1, none⟩ = some (.int .i64 q) ∧ w'.cell? ⟨w.heap.size, 2, none⟩ = some (.string d)) (first | exact ⟨box_cell ‹Below _ (World.alloc w _) _› 0, box_cell ‹Below _ (World.alloc w _) _› 1, box_cell ‹Below _ (World.alloc w _) _› 2⟩) (first | (go_at_call 46; refine (i_PutWord_from (w.alloc (.cells #[.int .i64 a, .int .i64 q, .string d] 36)) _ _ _ ?_).mono ?_; assumption; rintro e w2 ⟨rfl, hb2⟩))
  all_goals
    go_wp2_with fail
    go_ret
    exact ⟨ret_str HE.out.symm, box_below ‹Below _ (World.alloc w _) _›⟩
set_option maxHeartbeats 400000 in
theorem i_EncodePacket (a q : Int) (d : ByteArray) (w : World) (hd : d.size ≤ 1099511627776) :
    Calls Try.prog 63 #[.agg #[.int .i64 a, .int .i64 q, .string d]] w fun e w' => e = .returned (.string (pktE a q d)) ∧ Below w.heap.size w w' := by
  cases h : pktOk a q d with
  | true => exact i_EncodePacket_yes a q d w h
  | false =>
    have HE := hide (show pktE a q d = str [] by unfold pktE; rw [h]; rfl)
    have HO := hide h
    clear h
    go_enter Try.func63, Try.ntmps63
    go_wp2_with fail
    refine (i_PacketOk_is _ _ _ _ _ hd HO.out).mono ?_
    rintro e w1 ⟨rfl, hb⟩
    go_wp2_with fail
    go_ret
    exact ⟨ret_str HE.out.symm, box_below hb⟩
set_option maxHeartbeats 1600000 in
theorem s_EncodePacket_yes (a q : Int) (d : ByteArray) (w : World) (h : pktOk a q d = true) :
    Calls Try.prog 60 #[.agg #[.int .i64 a, .int .i64 q, .string d]] w fun e w' => e = .returned (.string (pktE a q d)) ∧ Below w.heap.size w w' := by
  have hh := h
  unfold pktOk at hh
  simp only [Bool.and_eq_true, decide_eq_true_eq] at hh
  have ha := of_inR hh.1.1
  have hq := of_inR hh.1.2
  have hd40 := hh.2
  have HE := hide (show pktE a q d = putB a 1 ++ putB q 2 ++ putB d.size 1 ++ d by unfold pktE; rw [if_pos h])
  have HO := hide h
  have z1 := putB_size a 1
  have z2 := putB_size q 2
  have z3 := putB_size d.size 1
  clear h hh
  go_enter Try.func60, Try.ntmps60
  go_wp2_with fail
  refine (s_PacketOk_is _ _ _ _ _ (by omega) HO.out).mono ?_
  rintro e w1 ⟨rfl, hb⟩
  have hz1 := hb.size
  simp only [World.size_alloc] at hz1
  have hy1 : w.heap.size < w1.heap.size := by omega
  have hbd := hb.drew
  clear hz1 hy1 hb
  have hadd1 := fun w => run_string_add_sum (P := Try.prog) (w := w) (putB a 1) (putB q 2) (by omega)
  have hz12 : (putB a 1 ++ putB q 2).size ≤ 8 := by rw [ByteArray.size_append]; omega
  have hadd2 := fun w => run_string_add_sum (P := Try.prog) (w := w) (putB a 1 ++ putB q 2) (putB d.size 1) (by omega)
  have hz123 : (putB a 1 ++ putB q 2 ++ putB d.size 1).size ≤ 12 := by rw [ByteArray.size_append]; omega
  have hadd3 := fun w => run_string_add_sum (P := Try.prog) (w := w) (putB a 1 ++ putB q 2 ++ putB d.size 1) d (by omega)
  go_wp2_with fail
  go_region_held3 (fun w' => w'.cell? ⟨w.heap.size, 0, none⟩ = some (.int .i64 a) ∧ w'.cell? ⟨w.heap.size, 1, none⟩ = some (.int .i64 q) ∧ w'.cell? ⟨w.heap.size, 2, none⟩ = some (.string d)) (first | exact ⟨box_cell ‹Below _ (World.alloc w _) _› 0, box_cell ‹Below _ (World.alloc w _) _› 1, box_cell ‹Below _ (World.alloc w _) _› 2⟩) (first | (go_at_call 80; refine (s_PutWord_from (w.alloc (.cells #[.int .i64 a, .int .i64 q, .string d] 36)) _ _ _ ?_).mono ?_; assumption; rintro e w2 ⟨rfl, hb2⟩))
  all_goals
    go_wp2_with fail
    go_ret
    exact ⟨ret_str HE.out.symm, box_below ‹Below _ (World.alloc w _) _›⟩
set_option maxHeartbeats 400000 in
theorem s_EncodePacket (a q : Int) (d : ByteArray) (w : World) (hd : d.size ≤ 1099511627776) :
    Calls Try.prog 60 #[.agg #[.int .i64 a, .int .i64 q, .string d]] w fun e w' => e = .returned (.string (pktE a q d)) ∧ Below w.heap.size w w' := by
  cases h : pktOk a q d with
  | true => exact s_EncodePacket_yes a q d w h
  | false =>
    have HE := hide (show pktE a q d = str [] by unfold pktE; rw [h]; rfl)
    have HO := hide h
    clear h
    go_enter Try.func60, Try.ntmps60
    go_wp2_with fail
    refine (s_PacketOk_is _ _ _ _ _ hd HO.out).mono ?_
    rintro e w1 ⟨rfl, hb⟩
    go_wp2_with fail
    go_ret
    exact ⟨ret_str HE.out.symm, box_below hb⟩
def frmE (c n f : Int) (d : ByteArray) : ByteArray := if frmOk c n f d then sealB (putB c 1 ++ putB n 1 ++ putB f 1 ++ d) else str []
theorem i_SealText_from (W0 : World) (s : ByteArray) (w : World) (hs : s.size ≤ 70368744177664) (h : Below W0.heap.size W0 w) :
    Calls Try.prog 48 #[.string s] w fun e w' => e = .returned (.string (sealB s)) ∧ Below W0.heap.size W0 w' :=
  (i_SealText s w hs).mono fun _ _ ⟨h1, h2⟩ => ⟨h1, below_trans h h2⟩
end Go.Proofs.Ytnelfadmcpacbaa
