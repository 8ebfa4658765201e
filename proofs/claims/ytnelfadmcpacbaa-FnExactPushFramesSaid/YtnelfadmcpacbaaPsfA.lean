/- What PushFrames leaves of an unpacker, and the packets that it finds: PushFrame's answer from frame to frame. -/
import Derived.Test.YtnelfadmcpacbaaPshD
import Derived.Test.YtnelfadmcpacbaaOwnF
namespace Go.Proofs.Ytnelfadmcpacbaa
open Go.RowKit Sat
set_option linter.unusedVariables false
set_option linter.unusedSimpArgs false

/-- the slice of length n at A reads as the frames l -/
def RF (w : World) (A : Option Addr) (n : Nat) (l : List Fr4) : Prop := l.length = n ∧ (0 < n → ∃ g, A = some ⟨g, 0, none⟩ ∧ g < w.heap.size ∧ ∀ j, j < n * 4 → w.cell? ⟨g, j, none⟩ = (Frs l)[j]?)
theorem RF.below {w w' : World} {A : Option Addr} {n : Nat} {l : List Fr4} (h : RF w A n l) (hb : Below w.heap.size w w') : RF w' A n l :=
  ⟨h.1, fun hp => by
    obtain ⟨g, e, hlt, hc⟩ := h.2 hp
    exact ⟨g, e, Nat.lt_of_lt_of_le hlt hb.size, fun j hj => (hb.cell (p := ⟨g, j, none⟩) hlt).trans (hc j hj)⟩⟩
theorem RF.of_own {w : World} {B : Nat} {A : Option Addr} {n c : Nat} {l : List Fr4} (h : w.ownsRow B 41 4 (.slice A n c) n (Frs l)) : RF w A n l := by
  have hl : l.length = n := by have := h.1; rw [Frs_length] at this; omega
  refine ⟨hl, fun hp => ?_⟩
  obtain ⟨g, e, hc, _, _, hg⟩ := own_cells h hp
  exact ⟨g, e, hg, hc⟩
abbrev Un5 := Int × Bool × ByteArray × Int
/-- next, synced, rest, lost, and the packets, behind the first k frames -/
def pfS (c : Int) (st : Un5) (l : List Fr4) : Nat → Un5 × List Pk3
  | 0 => (st, [])
  | k + 1 => (psU c (pfS c st l k).1.1 (pfS c st l k).1.2.1 (pfS c st l k).1.2.2.1 (pfS c st l k).1.2.2.2 (l.getD k (0, 0, 0, ⟨#[]⟩)).1 (l.getD k (0, 0, 0, ⟨#[]⟩)).2.1 (l.getD k (0, 0, 0, ⟨#[]⟩)).2.2.1 (l.getD k (0, 0, 0, ⟨#[]⟩)).2.2.2,
      (pfS c st l k).2 ++ psP c (pfS c st l k).1.1 (pfS c st l k).1.2.1 (pfS c st l k).1.2.2.1 (pfS c st l k).1.2.2.2 (l.getD k (0, 0, 0, ⟨#[]⟩)).1 (l.getD k (0, 0, 0, ⟨#[]⟩)).2.1 (l.getD k (0, 0, 0, ⟨#[]⟩)).2.2.1 (l.getD k (0, 0, 0, ⟨#[]⟩)).2.2.2)
theorem pfS_succ {c : Int} {st : Un5} {l : List Fr4} {k : Nat} {n o : Int} {y : Bool} {r : ByteArray} {acc : List Pk3} {fk fm ft : Int} {fd : ByteArray} {n' o' : Int} {y' : Bool} {r' : ByteArray} {pk : List Pk3} (h : pfS c st l k = ((n, y, r, o), acc)) (hf : l.getD k (0, 0, 0, ⟨#[]⟩) = (fk, fm, ft, fd)) (hU : psU c n y r o fk fm ft fd = (n', y', r', o')) (hP : psP c n y r o fk fm ft fd = pk) : pfS c st l (k + 1) = ((n', y', r', o'), acc ++ pk) := by
  rw [pfS, h, hf]
  show (psU c n y r o fk fm ft fd, acc ++ psP c n y r o fk fm ft fd) = _
  rw [hU, hP]
theorem dpRun_size : ∀ (f : Nat) (s : ByteArray) (acc : List Pk3), (dpRun f s acc).1.size ≤ s.size := by
  intro f
  induction f with
  | zero => intro s acc; exact Nat.le_refl _
  | succ f ih =>
    intro s acc
    obtain ⟨a, q, dd, L, ok, h⟩ := dp_forms s
    cases ok with
    | false => rw [dpRun_stop h.2.2]; exact Nat.le_refl _
    | true =>
      obtain ⟨h1, h2, h3, h4, h5⟩ := dp_true h
      rw [dpRun, if_pos h.2.2, h.2.1, h1, h2, h3]
      refine Nat.le_trans (ih _ _) ?_
      rw [ByteArray.size_extract]; omega
theorem psU_size {c n : Int} {y : Bool} {r : ByteArray} {o k m t : Int} {d : ByteArray} {n' o' : Int} {y' : Bool} {r' : ByteArray} (h : psU c n y r o k m t d = (n', y', r', o')) (hr : r.size ≤ 1048576) : r'.size ≤ 1048576 := by
  unfold psU at h
  split at h
  · rename_i hk
    unfold psOk at hk
    rw [Bool.and_eq_true, Bool.and_eq_true] at hk
    have hu := hk.1.1
    have hf := hk.1.2
    unfold unpOk at hu
    unfold frmOk at hf
    simp only [Bool.and_eq_true, decide_eq_true_eq] at hu hf
    have hz : (psR2 n y r m t d).size ≤ 100 := by unfold psR2; exact ps_size (psR1_size hu.2) (by omega)
    split at h
    · injection h with _ h; injection h with _ h; injection h with h _; subst h; exact Nat.zero_le _
    · injection h with _ h; injection h with _ h; injection h with h _; subst h
      have := dpRun_size ((psR2 n y r m t d).size + 1) (psR2 n y r m t d) []
      unfold psRun
      omega
  · injection h with _ h; injection h with _ h; injection h with h _; subst h; exact hr
theorem ps_forms (c n : Int) (y : Bool) (r : ByteArray) (o k m t : Int) (d : ByteArray) : ∃ (n' o' : Int) (y' : Bool) (r' : ByteArray) (pk : List Pk3), psU c n y r o k m t d = (n', y', r', o') ∧ psP c n y r o k m t d = pk ∧ pk.length ≤ 100 := ⟨_, _, _, _, _, rfl, rfl, psP_len c n y r o k m t d⟩
def MadePushes (c n' : Int) (y' : Bool) (r' : ByteArray) (o' : Int) (pk : List Pk3) (w : World) (e : Ending) (w' : World) : Prop := Pushed c n' y' r' o' pk w e w'
end Go.Proofs.Ytnelfadmcpacbaa
