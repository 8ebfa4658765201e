/- What PushFrame leaves of an unpacker, and the packets that it finds: plain functions; what a lost part leaves, in the program and in the reference. -/
import Derived.Test.YtnelfadmcpacbaaPckG
import Derived.Test.YtnelfadmcpacbaaFrmD
import Derived.Deep.DeepCutAuto
namespace Go.Proofs.Ytnelfadmcpacbaa
open Go.RowKit Sat
set_option linter.unusedVariables false
set_option linter.unusedSimpArgs false
attribute [local go_sem ↓] Go.wp_at_zero Go.wp_at_succ

def loseO (o : Int) : Int := if o < 1000000 then o + 1 else o
abbrev Pk3 := Int × Int × ByteArray
def Pks (l : List Pk3) : List Value := l.flatMap fun p => [.int .i64 p.1, .int .i64 p.2.1, .string p.2.2]
theorem Pks_length (l : List Pk3) : (Pks l).length = l.length * 3 := by
  induction l with
  | nil => rfl
  | cons p l ih => simp [Pks] at *; omega
theorem Pks_snoc (l : List Pk3) (p : Pk3) : Pks (l ++ [p]) = Pks l ++ [.int .i64 p.1, .int .i64 p.2.1, .string p.2.2] := by simp [Pks]
def dpRun : Nat → ByteArray → List Pk3 → ByteArray × List Pk3
  | 0, s, acc => (s, acc)
  | f + 1, s, acc => if dpOk s 0 then dpRun f (s.extract (dpL s 0).toNat s.size) (if dpA s 0 = 15 then acc else acc ++ [(dpA s 0, dpQ s 0, dpD s 0)]) else (s, acc)
/-- the unpacker behind the test of the frame's count -/
def psLost (n m : Int) : Bool := decide (n ≠ -1) && decide (n ≠ m)
def psY1 (n : Int) (y : Bool) (m : Int) : Bool := if psLost n m then false else y
def psR1 (n : Int) (r : ByteArray) (m : Int) : ByteArray := if psLost n m then ⟨#[]⟩ else r
def psO1 (n o m : Int) : Int := if psLost n m then loseO o else o
/-- and behind the frame's data -/
def psY2 (n : Int) (y : Bool) (m t : Int) : Bool := psY1 n y m || decide (t ≠ 255)
def psR2 (n : Int) (y : Bool) (r : ByteArray) (m t : Int) (d : ByteArray) : ByteArray := if psY1 n y m then psR1 n r m ++ d else if t ≠ 255 then d.extract t.toNat d.size else psR1 n r m
theorem psO1_in {n o m : Int} (h0 : 0 ≤ o) (h1 : o ≤ 1000000) : 0 ≤ psO1 n o m ∧ psO1 n o m ≤ 1000000 := by
  unfold psO1 loseO
  split
  · split
    · omega
    · omega
  · omega
theorem psR1_size {n : Int} {r : ByteArray} {m : Int} (h : r.size ≤ 43) : (psR1 n r m).size ≤ 43 := by
  unfold psR1
  split
  · exact Nat.zero_le _
  · exact h
theorem ps_size {y1 : Bool} {r1 d : ByteArray} {t : Int} (h1 : r1.size ≤ 43) (h2 : d.size ≤ 24) : (if y1 then r1 ++ d else if t ≠ 255 then d.extract t.toNat d.size else r1).size ≤ 100 := by
  split
  · rw [ByteArray.size_append]; omega
  · split
    · rw [ByteArray.size_extract]; omega
    · omega
def psRun (s : ByteArray) : ByteArray × List Pk3 := dpRun (s.size + 1) s []
def psBad (s : ByteArray) : Bool := if h : 4 ≤ s.size then decide (15 < (s[0]'(by omega)).toNat) || decide (40 < (s[3]'(by omega)).toNat) else false
def psOk (c n : Int) (y : Bool) (r : ByteArray) (o k m t : Int) (d : ByteArray) : Bool := unpOk c n y r o && frmOk k m t d && decide (c = k)
/-- the whole: next, synced, rest, lost -/
def psU (c n : Int) (y : Bool) (r : ByteArray) (o k m t : Int) (d : ByteArray) : Int × Bool × ByteArray × Int :=
  if psOk c n y r o k m t d then
    if psBad (psRun (psR2 n y r m t d)).1 then ((m + 1) % 256, false, ⟨#[]⟩, loseO (psO1 n o m)) else ((m + 1) % 256, psY2 n y m t, (psRun (psR2 n y r m t d)).1, psO1 n o m)
  else (n, y, r, o)
def psP (c n : Int) (y : Bool) (r : ByteArray) (o k m t : Int) (d : ByteArray) : List Pk3 := if psOk c n y r o k m t d then (psRun (psR2 n y r m t d)).2 else []
def MadePush (c n : Int) (y : Bool) (r : ByteArray) (o k m t : Int) (d : ByteArray) (w : World) (e : Ending) (w' : World) : Prop := ∃ v, e = .returned (.tuple #[.agg #[.int .i64 c, .int .i64 (psU c n y r o k m t d).1, .bool (psU c n y r o k m t d).2.1, .string (psU c n y r o k m t d).2.2.1, .int .i64 (psU c n y r o k m t d).2.2.2], v]) ∧ w'.ownsRow w.heap.size 36 3 v (psP c n y r o k m t d).length (Pks (psP c n y r o k m t d)) ∧ Below w.heap.size w w'
theorem psBad_short {s : ByteArray} (h : ¬ 4 ≤ s.size) : psBad s = false := by unfold psBad; rw [dif_neg h]
theorem psBad_0 {s : ByteArray} (h : 4 ≤ s.size) (h0 : 15 < (s[0]'(by omega)).toNat) : psBad s = true := by unfold psBad; rw [dif_pos h, decide_eq_true h0]; rfl
theorem psBad_3 {s : ByteArray} (h : 4 ≤ s.size) (h0 : 40 < (s[3]'(by omega)).toNat) : psBad s = true := by unfold psBad; rw [dif_pos h, decide_eq_true h0]; simp
theorem psBad_no {s : ByteArray} (h : 4 ≤ s.size) (h0 : ¬ 15 < (s[0]'(by omega)).toNat) (h3 : ¬ 40 < (s[3]'(by omega)).toNat) : psBad s = false := by unfold psBad; rw [dif_pos h, decide_eq_false h0, decide_eq_false h3]; rfl
theorem made_push_yes {c n : Int} {y : Bool} {r : ByteArray} {o k m t : Int} {d : ByteArray} {w w' : World} {v : Value} {r2 s : ByteArray} {acc : List Pk3} {y2 : Bool} {o1 : Int} (h : psOk c n y r o k m t d = true) (hR : psR2 n y r m t d = r2) (hrun : psRun r2 = (s, acc)) (hy : psY2 n y m t = y2) (ho1 : psO1 n o m = o1) (hb : psBad s = false)
    (ho : w'.ownsRow w.heap.size 36 3 v acc.length (Pks acc)) (hB : Below w.heap.size w w') :
    MadePush c n y r o k m t d w (.returned (.tuple #[.agg #[.int .i64 c, .int .i64 ((m + 1) % 256), .bool y2, .string s, .int .i64 o1], v])) w' := by
  have e1 : psU c n y r o k m t d = ((m + 1) % 256, y2, s, o1) := by unfold psU; rw [if_pos h, hR, hrun, hb, hy, ho1]; rfl
  have e2 : psP c n y r o k m t d = acc := by unfold psP; rw [if_pos h, hR, hrun]
  exact ⟨v, by rw [e1], by rw [e2]; exact ho, hB⟩
theorem made_push_bad {c n : Int} {y : Bool} {r : ByteArray} {o k m t : Int} {d : ByteArray} {w w' : World} {v : Value} {r2 s : ByteArray} {acc : List Pk3} {o1 : Int} (h : psOk c n y r o k m t d = true) (hR : psR2 n y r m t d = r2) (hrun : psRun r2 = (s, acc)) (ho1 : psO1 n o m = o1) (hb : psBad s = true)
    (ho : w'.ownsRow w.heap.size 36 3 v acc.length (Pks acc)) (hB : Below w.heap.size w w') :
    MadePush c n y r o k m t d w (.returned (.tuple #[.agg #[.int .i64 c, .int .i64 ((m + 1) % 256), .bool false, .string ⟨#[]⟩, .int .i64 (loseO o1)], v])) w' := by
  have e1 : psU c n y r o k m t d = ((m + 1) % 256, false, ⟨#[]⟩, loseO o1) := by unfold psU; rw [if_pos h, hR, hrun, hb, ho1]; rfl
  have e2 : psP c n y r o k m t d = acc := by unfold psP; rw [if_pos h, hR, hrun]
  exact ⟨v, by rw [e1], by rw [e2]; exact ho, hB⟩
set_option maxHeartbeats 800000 in
theorem i_losePart (c n : Int) (y : Bool) (r : ByteArray) (o : Int) (w : World) (h0 : 0 ≤ o) (h1 : o ≤ 1000000) :
    Calls Try.prog 73 #[.agg #[.int .i64 c, .int .i64 n, .bool y, .string r, .int .i64 o]] w fun e w' => e = .returned (.agg #[.int .i64 c, .int .i64 n, .bool false, .string ⟨#[]⟩, .int .i64 (loseO o)]) ∧ Below w.heap.size w w' := by
  by_cases h : o < 1000000
  · have HE := hide (show loseO o = o + 1 by unfold loseO; rw [if_pos h])
    rw [HE.out]
    go_enter Try.func73, Try.ntmps73
    go_wp2
    exact bodyPost_ret (v := .agg #[.int .i64 c, .int .i64 n, .bool false, .string ⟨#[]⟩, .int .i64 (o + 1)]) (by simp [results, Try.results73, go_sem]) rfl ⟨rfl, (by repeat (first | exact Below.refl _ _ | refine Below.drew ?_ | refine Below.alloc ?_ (by first | exact Nat.le_refl _ | (simp; done) | (simp; omega)) _))⟩
  · have HE := hide (show loseO o = o by unfold loseO; rw [if_neg h])
    rw [HE.out]
    go_enter Try.func73, Try.ntmps73
    go_wp2
    exact bodyPost_ret (v := .agg #[.int .i64 c, .int .i64 n, .bool false, .string ⟨#[]⟩, .int .i64 o]) (by simp [results, Try.results73, go_sem]) rfl ⟨rfl, (by repeat (first | exact Below.refl _ _ | refine Below.drew ?_ | refine Below.alloc ?_ (by first | exact Nat.le_refl _ | (simp; done) | (simp; omega)) _))⟩
set_option maxHeartbeats 800000 in
theorem s_Lose (c n : Int) (y : Bool) (r : ByteArray) (o : Int) (w : World) (h0 : 0 ≤ o) (h1 : o ≤ 1000000) :
    Calls Try.prog 69 #[.agg #[.int .i64 c, .int .i64 n, .bool y, .string r, .int .i64 o]] w fun e w' => e = .returned (.agg #[.int .i64 c, .int .i64 n, .bool false, .string ⟨#[]⟩, .int .i64 (loseO o)]) ∧ Below w.heap.size w w' := by
  by_cases h : o < 1000000
  · have HE := hide (show loseO o = o + 1 by unfold loseO; rw [if_pos h])
    rw [HE.out]
    go_enter Try.func69, Try.ntmps69
    go_wp2
    exact bodyPost_ret (v := .agg #[.int .i64 c, .int .i64 n, .bool false, .string ⟨#[]⟩, .int .i64 (o + 1)]) (by simp [results, Try.results69, go_sem] <;> omega) rfl ⟨rfl, (by repeat (first | exact Below.refl _ _ | refine Below.drew ?_ | refine Below.alloc ?_ (by first | exact Nat.le_refl _ | (simp; done) | (simp; omega)) _))⟩
  · obtain rfl : o = 1000000 := by omega
    have HE := hide (show loseO 1000000 = 1000000 by decide)
    rw [HE.out]
    go_enter Try.func69, Try.ntmps69
    go_wp2
    exact bodyPost_ret (v := .agg #[.int .i64 c, .int .i64 n, .bool false, .string ⟨#[]⟩, .int .i64 1000000]) (by simp [results, Try.results69, go_sem]) rfl ⟨rfl, (by repeat (first | exact Below.refl _ _ | refine Below.drew ?_ | refine Below.alloc ?_ (by first | exact Nat.le_refl _ | (simp; done) | (simp; omega)) _))⟩
theorem infoP : (Try.prog.info? 36).map (fun i => (i.zero, i.size, i.bytes)) = some (some (.agg #[.int .i64 0, .int .i64 0, .string ⟨#[]⟩]), 3, 32) := by kernel_rfl
theorem one_pk (a q : Int) (dd : ByteArray) : ∀ u ∈ [Value.int .i64 a, .int .i64 q, .string dd], u.oneCell' = true := by
  intro u hu
  simp only [List.mem_cons, List.not_mem_nil, or_false] at hu
  rcases hu with rfl | rfl | rfl <;> rfl
theorem dpRun_stop {s : ByteArray} (h : dpOk s 0 = false) {f : Nat} {acc : List Pk3} : dpRun f s acc = (s, acc) := by
  cases f with
  | zero => rfl
  | succ f => rw [dpRun, h]; rfl
theorem dp_forms (s : ByteArray) : ∃ (a q : Int) (dd : ByteArray) (L : Int) (ok : Bool), dpV s 0 = .agg #[.int .i64 a, .int .i64 q, .string dd] ∧ dpL s 0 = L ∧ dpOk s 0 = ok := by
  obtain ⟨a, q, d, h⟩ := dpV_form s 0
  exact ⟨a, q, d, _, _, h, rfl, rfl⟩
theorem dp_true {s : ByteArray} {a q : Int} {dd : ByteArray} {L : Int} (h : dpV s 0 = .agg #[.int .i64 a, .int .i64 q, .string dd] ∧ dpL s 0 = L ∧ dpOk s 0 = true) : dpA s 0 = a ∧ dpQ s 0 = q ∧ dpD s 0 = dd ∧ 4 ≤ L ∧ L ≤ s.size := by
  obtain ⟨h1, h2, h3⟩ := h
  obtain ⟨e1, e2⟩ := dp_yes h3
  rw [e1] at h1
  simp only [Value.agg.injEq, Array.mk.injEq, List.cons.injEq, Value.int.injEq, Value.string.injEq, true_and, and_true] at h1
  unfold dpOk at h3
  rw [decide_eq_true_eq] at h3
  have hn : 0 ≤ dpN s 0 := by unfold dpN getV; split <;> omega
  rw [e2] at h2
  exact ⟨h1.1, h1.2.1, h1.2.2, by omega, by omega⟩
theorem i_Dec_is (s : ByteArray) (a q : Int) (dd : ByteArray) (L : Int) (ok : Bool) (w : World) (hs : s.size ≤ 1099511627776) (h1 : dpV s 0 = .agg #[.int .i64 a, .int .i64 q, .string dd]) (h2 : dpL s 0 = L) (h3 : dpOk s 0 = ok) :
    Calls Try.prog 74 #[.string s, .int .i64 0] w fun e w' => e = .returned (.tuple #[.agg #[.int .i64 a, .int .i64 q, .string dd], .int .i64 L, .bool ok]) ∧ Below w.heap.size w w' := by
  have := i_DecodePacket s 0 w hs (by omega) (by omega)
  rw [h1, h2, h3] at this; exact this
theorem s_Dec_is (s : ByteArray) (a q : Int) (dd : ByteArray) (L : Int) (ok : Bool) (w : World) (hs : s.size ≤ 1099511627776) (h1 : dpV s 0 = .agg #[.int .i64 a, .int .i64 q, .string dd]) (h2 : dpL s 0 = L) (h3 : dpOk s 0 = ok) :
    Calls Try.prog 70 #[.string s, .int .i64 0] w fun e w' => e = .returned (.tuple #[.agg #[.int .i64 a, .int .i64 q, .string dd], .int .i64 L, .bool ok]) ∧ Below w.heap.size w w' := by
  have := s_DecodePacket s 0 w hs (by omega) (by omega)
  rw [h1, h2, h3] at this; exact this
theorem i_UnpackerOk_is (c n : Int) (y : Bool) (r : ByteArray) (o : Int) (ok : Bool) (w : World) (hd : r.size ≤ 1099511627776) (h : unpOk c n y r o = ok) :
    Calls Try.prog 71 #[.agg #[.int .i64 c, .int .i64 n, .bool y, .string r, .int .i64 o]] w fun e w' => e = .returned (.bool ok) ∧ Below w.heap.size w w' := by
  subst h; exact i_UnpackerOk c n y r o w hd
theorem s_UnpackerOk_is (c n : Int) (y : Bool) (r : ByteArray) (o : Int) (ok : Bool) (w : World) (hd : r.size ≤ 1099511627776) (h : unpOk c n y r o = ok) :
    Calls Try.prog 67 #[.agg #[.int .i64 c, .int .i64 n, .bool y, .string r, .int .i64 o]] w fun e w' => e = .returned (.bool ok) ∧ Below w.heap.size w w' := by
  subst h; exact s_UnpackerOk c n y r o w hd
end Go.Proofs.Ytnelfadmcpacbaa
