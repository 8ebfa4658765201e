/- What a walk is told of a slice of frames that came in: its frames; nil let in; it may begin anywhere in its block. -/
import Derived.Test.YtnelfadmcpacbaaRowPack
import Derived.Test.YtnelfadmcpacbaaPsfE
import Derived.Deep.Slices
namespace Go.Proofs.Ytnelfadmcpacbaa
open Go.Joins Go.ChangeShapes Go.WideShapes Go.ChangeAt Go.RowKit Go.Deep Sat
open Go.ChangeMaps (open_string shut_string)
theorem pick {P : Nat → Fr4 → Prop} : ∀ n, (∀ i, i < n → ∃ p, P i p) → ∃ l : List Fr4, l.length = n ∧ ∀ i, i < n → P i (l.getD i (0, 0, 0, ⟨#[]⟩)) := by
  intro n
  induction n with
  | zero => intro _; exact ⟨[], rfl, fun i h => absurd h (by omega)⟩
  | succ n ih =>
    intro h
    obtain ⟨l, hl, hp⟩ := ih fun i hi => h i (by omega)
    obtain ⟨p, hq⟩ := h n (by omega)
    refine ⟨l ++ [p], by simp [hl], fun i hi => ?_⟩
    by_cases e : i < n
    · have := hp i e
      rw [List.getD_eq_getElem?_getD, List.getElem?_append_left (by omega), ← List.getD_eq_getElem?_getD]; exact this
    · obtain rfl : i = n := by omega
      rw [List.getD_eq_getElem?_getD, List.getElem?_append_right (by omega), hl, Nat.sub_self]; exact hq
theorem Frs_of_at {l : List Fr4} {F : Nat → Option Value} (h : ∀ k, k < l.length → F (k * 4) = some (.int .i64 (l.getD k (0, 0, 0, ⟨#[]⟩)).1) ∧ F (k * 4 + 1) = some (.int .i64 (l.getD k (0, 0, 0, ⟨#[]⟩)).2.1) ∧ F (k * 4 + 2) = some (.int .i64 (l.getD k (0, 0, 0, ⟨#[]⟩)).2.2.1) ∧ F (k * 4 + 3) = some (.string (l.getD k (0, 0, 0, ⟨#[]⟩)).2.2.2)) : ∀ j, j < l.length * 4 → F j = (Frs l)[j]? := by
  intro j hj
  have hk : j / 4 < l.length := by omega
  obtain ⟨p0, p1, p2, p3⟩ := Frs_at l (j / 4) hk
  obtain ⟨q0, q1, q2, q3⟩ := h (j / 4) hk
  have hc : j = j / 4 * 4 ∨ j = j / 4 * 4 + 1 ∨ j = j / 4 * 4 + 2 ∨ j = j / 4 * 4 + 3 := by omega
  generalize j / 4 = k at *
  rcases hc with rfl | rfl | rfl | rfl
  · rw [p0, q0]
  · rw [p1, q1]
  · rw [p2, q2]
  · rw [p3, q3]
end Go.Proofs.Ytnelfadmcpacbaa
