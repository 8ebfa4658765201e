/- What a walk is told of a slice of frames that came in: its frames; nil let in; it may begin anywhere in its block. -/
import Derived.Test.YtnelfadmcpacbaaRowPack
import Derived.Test.YtnelfadmcpacbaaRowFrames
import Derived.Deep.Slices
namespace Go.Proofs.Ytnelfadmcpacbaa
open Go.Joins Go.ChangeShapes Go.WideShapes Go.ChangeAt Go.RowKit Go.Deep Sat
open Go.ChangeMaps (open_string shut_string)
set_option maxRecDepth 100000 in
theorem frames_of {H : Type} {enc : TypeId × Value → H} {W : World} {t e : TypeId} {f0 f1 f2 f3 : Field} {n : Nat} {v : Value} {y : DataW H × List MemPlace} (ht : Try.prog.underlying t = some (.slice e)) (he : Try.prog.underlying e = some (.struct #[f0, f1, f2, f3])) (hone : oneCellFields Try.prog #[f0, f1, f2, f3] = true) (hce : Try.prog.cellsOf e = 4)
    (u0 : Try.prog.underlying f0.type = some (.int .i64)) (u1 : Try.prog.underlying f1.type = some (.int .i64)) (u2 : Try.prog.underlying f2.type = some (.int .i64)) (u3 : Try.prog.underlying f3.type = some .string)
    (h : DataW.trod enc Try.prog W 0 (fun _ => true) true n t [v] = some y) : ∃ A len cap l, v = .slice A len cap ∧ RFo W A len l ∧ len ≤ 9223372036854775807 ∧ ∀ j, (l.getD j (0, 0, 0, ⟨#[]⟩)).2.2.2.size ≤ 9223372036854775807 := by
  rcases open_slice ht h with ⟨hcs, _⟩ | ⟨a, len, cap, m, n, D, Pl, hcs, _, hl, hm, hmm, _, hcell⟩
  · simp at hcs
    exact ⟨_, _, _, [], hcs, ⟨rfl, fun h => absurd h (by decide)⟩, by decide, fun j => Nat.zero_le _⟩
  · simp at hcs
    unfold maxLen at hm
    have hmc : m = cap := by simpa using hmm
    obtain ⟨l, hll, hp⟩ := pick (P := fun i p => W.cell? (a.add (i * 4)) = some (.int .i64 p.1) ∧ W.cell? ((a.add (i * 4)).add 1) = some (.int .i64 p.2.1) ∧ W.cell? ((a.add (i * 4)).add 2) = some (.int .i64 p.2.2.1) ∧ W.cell? ((a.add (i * 4)).add 3) = some (.string p.2.2.2) ∧ p.2.2.2.size ≤ 9223372036854775807) len (by
      intro i hi
      obtain ⟨cs, h1, h2⟩ := hcell i (by omega)
      rw [hce] at h1
      obtain ⟨_, hlen, hc⟩ := World.cells?_some h1
      obtain ⟨xs, q, _, _, _, hxl, hg⟩ := DataW.trod_struct he h2
      obtain ⟨o0, k0⟩ := hone_of hone 0 f0 rfl
      obtain ⟨o1, k1⟩ := hone_of hone 1 f1 rfl
      obtain ⟨o2, k2⟩ := hone_of hone 2 f2 rfl
      obtain ⟨o3, k3⟩ := hone_of hone 3 f3 rfl
      match cs, hlen, xs, hxl with
      | [c0, c1, c2, c3], _, [y0, y1, y2, y3], _ =>
        have g0 := hg 0 f0 rfl
        have g1 := hg 1 f1 rfl
        have g2 := hg 2 f2 rfl
        have g3 := hg 3 f3 rfl
        rw [o0, k0] at g0
        rw [o1, k1] at g1
        rw [o2, k2] at g2
        rw [o3, k3] at g3
        obtain ⟨b0, rfl, _⟩ := field_int u0 (show DataW.trod enc Try.prog W 0 (fun _ => true) true q f0.type [c0] = some y0 from g0)
        obtain ⟨b1, rfl, _⟩ := field_int u1 (show DataW.trod enc Try.prog W 0 (fun _ => true) true q f1.type [c1] = some y1 from g1)
        obtain ⟨b2, rfl, _⟩ := field_int u2 (show DataW.trod enc Try.prog W 0 (fun _ => true) true q f2.type [c2] = some y2 from g2)
        obtain ⟨b3, rfl, hb3⟩ := field_string u3 (show DataW.trod enc Try.prog W 0 (fun _ => true) true q f3.type [c3] = some y3 from g3)
        have e0 := hc 0 (by omega)
        have e00 : (a.add (i * 4)).add 0 = a.add (i * 4) := by unfold Addr.add; split <;> simp_all
        rw [e00] at e0
        exact ⟨(b0, b1, b2, b3), e0, hc 1 (by omega), hc 2 (by omega), hc 3 (by omega), hb3⟩)
    refine ⟨_, _, _, l, hcs, ⟨hll, fun hp0 => ?_⟩, by omega, fun j => ?_⟩
    · obtain ⟨b, off, spot⟩ := a
      have z0 := (hp 0 hp0).1
      have z1 := (hp 0 hp0).2.1
      have hs : spot = none := by simpa [Addr.add] using World.cell?_spot z0
      subst hs
      refine ⟨b, off, rfl, World.block_lt_of_cell? W _ (by simpa [Addr.add] using z0), fun j hj => ?_⟩
      exact Frs_of_at (F := fun j => W.cell? ⟨b, off + j, none⟩) (by
        intro k hk
        obtain ⟨w0, w1, w2, w3, _⟩ := hp k (by omega)
        rw [Go.WideShapes.add_plain] at w0
        rw [Go.WideShapes.add_plain, Go.WideShapes.add_plain] at w1 w2 w3
        exact ⟨w0, w1, w2, w3⟩) j (by omega)
    · by_cases hj : j < len
      · exact (hp j hj).2.2.2.2
      · rw [List.getD_eq_getElem?_getD, List.getElem?_eq_none (by omega)]; exact Nat.zero_le _
end Go.Proofs.Ytnelfadmcpacbaa
