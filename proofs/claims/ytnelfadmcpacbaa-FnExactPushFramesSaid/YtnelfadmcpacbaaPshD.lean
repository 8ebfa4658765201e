/- PushFrame's answer in plain values, for the law's calls; that few packets are found. -/
import Derived.Test.YtnelfadmcpacbaaPshC
import Derived.Test.YtnelfadmcpacbaaOwnP
namespace Go.Proofs.Ytnelfadmcpacbaa
open Go.RowKit Sat
set_option linter.unusedVariables false

def Pushed (c n' : Int) (y' : Bool) (r' : ByteArray) (o' : Int) (pk : List Pk3) (w : World) (e : Ending) (w' : World) : Prop := ∃ v, e = .returned (.tuple #[.agg #[.int .i64 c, .int .i64 n', .bool y', .string r', .int .i64 o'], v]) ∧ w'.ownsRow w.heap.size 36 3 v pk.length (Pks pk) ∧ Below w.heap.size w w'
theorem pushed_of {c n : Int} {y : Bool} {r : ByteArray} {o k m t : Int} {d : ByteArray} {w w' : World} {e : Ending} {n' : Int} {y' : Bool} {r' : ByteArray} {o' : Int} {pk : List Pk3} (h : MadePush c n y r o k m t d w e w') (hU : psU c n y r o k m t d = (n', y', r', o')) (hP : psP c n y r o k m t d = pk) : Pushed c n' y' r' o' pk w e w' := by
  obtain ⟨v, h1, h2, h3⟩ := h
  rw [hU] at h1
  rw [hP] at h2
  exact ⟨v, h1, h2, h3⟩
theorem dpRun_len : ∀ (f : Nat) (s : ByteArray) (acc : List Pk3), (dpRun f s acc).2.length ≤ acc.length + s.size := by
  intro f
  induction f with
  | zero => intro s acc; exact Nat.le_add_right _ _
  | succ f ih =>
    intro s acc
    obtain ⟨a, q, dd, L, ok, h⟩ := dp_forms s
    cases ok with
    | false => rw [dpRun_stop h.2.2]; exact Nat.le_add_right _ _
    | true =>
      obtain ⟨h1, h2, h3, h4, h5⟩ := dp_true h
      rw [dpRun, if_pos h.2.2, h.2.1, h1, h2, h3]
      refine Nat.le_trans (ih _ _) ?_
      rw [ByteArray.size_extract]
      split
      · omega
      · rw [List.length_append, List.length_singleton]; omega
theorem psP_len (c n : Int) (y : Bool) (r : ByteArray) (o k m t : Int) (d : ByteArray) : (psP c n y r o k m t d).length ≤ 100 := by
  unfold psP
  split
  · rename_i h
    unfold psOk at h
    rw [Bool.and_eq_true, Bool.and_eq_true] at h
    have hu := h.1.1
    have hf := h.1.2
    unfold unpOk at hu
    unfold frmOk at hf
    simp only [Bool.and_eq_true, decide_eq_true_eq] at hu hf
    have := dpRun_len ((psR2 n y r m t d).size + 1) (psR2 n y r m t d) []
    have hz : (psR2 n y r m t d).size ≤ 100 := by unfold psR2; exact ps_size (psR1_size hu.2) (by omega)
    unfold psRun
    simp only [List.length_nil] at this
    omega
  · exact Nat.zero_le _
theorem i_Push_is (c n : Int) (y : Bool) (r : ByteArray) (o k m t : Int) (d : ByteArray) (n' : Int) (y' : Bool) (r' : ByteArray) (o' : Int) (pk : List Pk3) (w : World) (hr : r.size ≤ 1048576) (hd : d.size ≤ 1048576) (hU : psU c n y r o k m t d = (n', y', r', o')) (hP : psP c n y r o k m t d = pk) :
    Calls Try.prog 34 #[.agg #[.int .i64 c, .int .i64 n, .bool y, .string r, .int .i64 o], .agg #[.int .i64 k, .int .i64 m, .int .i64 t, .string d]] w (Pushed c n' y' r' o' pk w) := (i_PushFrame c n y r o k m t d w hr hd).mono fun _ _ h => pushed_of h hU hP
theorem s_Push_is (c n : Int) (y : Bool) (r : ByteArray) (o k m t : Int) (d : ByteArray) (n' : Int) (y' : Bool) (r' : ByteArray) (o' : Int) (pk : List Pk3) (w : World) (hr : r.size ≤ 1048576) (hd : d.size ≤ 1048576) (hU : psU c n y r o k m t d = (n', y', r', o')) (hP : psP c n y r o k m t d = pk) :
    Calls Try.prog 31 #[.agg #[.int .i64 c, .int .i64 n, .bool y, .string r, .int .i64 o], .agg #[.int .i64 k, .int .i64 m, .int .i64 t, .string d]] w (Pushed c n' y' r' o' pk w) := (s_PushFrame c n y r o k m t d w hr hd).mono fun _ _ h => pushed_of h hU hP
end Go.Proofs.Ytnelfadmcpacbaa
