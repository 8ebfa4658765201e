/- That TakeFrames takes few frames and leaves no more starts. -/
import Derived.Test.YtnelfadmcpacbaaTksC
import Derived.Test.YtnelfadmcpacbaaOwnF
namespace Go.Proofs.Ytnelfadmcpacbaa
open Go.RowKit Sat

theorem tkRun_len (a : Int) : ∀ (f : Nat) (b : Int) (r : ByteArray) (l : List Int) (acc : List Fr4), (tkRun a f b r l acc).2.length ≤ acc.length + r.size ∧ (tkRun a f b r l acc).1.2.2.length ≤ l.length := by
  intro f
  induction f with
  | zero => intro b r l acc; exact ⟨Nat.le_add_right _ _, Nat.le_refl _⟩
  | succ f ih =>
    intro b r l acc
    obtain ⟨b', r', l', fa, fb, ff, fd, ok, hP, hF, hO⟩ := tk_forms a b r l
    cases ok with
    | false => rw [tkRun_stop hO]; exact ⟨Nat.le_add_right _ _, Nat.le_refl _⟩
    | true =>
      obtain ⟨hz1, hz2⟩ := tk_less hO hP
      rw [tkRun_go hO hP hF]
      obtain ⟨h1, h2⟩ := ih b' r' l' (acc ++ [(fa, fb, ff, fd)])
      refine ⟨Nat.le_trans h1 ?_, Nat.le_trans h2 hz2⟩
      rw [List.length_append, List.length_singleton]; omega
theorem tkAll_len {a b : Int} {r : ByteArray} {l : List Int} {bF : Int} {rF : ByteArray} {lF : List Int} {fF : List Fr4} (h : tkAll a b r l = ((bF, rF, lF), fF)) : fF.length ≤ r.size ∧ lF.length ≤ l.length := by
  have := tkRun_len a (r.size + 1) b r l []
  unfold tkAll at h
  rw [h] at this
  simpa using this
end Go.Proofs.Ytnelfadmcpacbaa
