/- What a walk is told of a slice of ints that came in as a struct's field: its ints; nil let in. -/
import Derived.Test.YtnelfadmcpacbaaRowStruct
import Derived.Test.YtnelfadmcpacbaaPckB
namespace Go.Proofs.Ytnelfadmcpacbaa
open Go.Joins Go.ChangeShapes Go.WideShapes Go.ChangeAt Go.RowKit Go.Deep Sat
open Go.ChangeMaps (open_string shut_string)
set_option maxRecDepth 100000 in
theorem field_ints {H : Type} {enc : TypeId × Value → H} {W : World} {t e : TypeId} {n : Nat} {v : Value} {y : DataW H × List MemPlace} (ht : Try.prog.underlying t = some (.slice e)) (he : Try.prog.underlying e = some (.int .i64)) (hce : Try.prog.cellsOf e = 1)
    (h : DataW.trod enc Try.prog W 0 (fun _ => true) true n t [v] = some y) : ∃ A len cap l, v = .slice A len cap ∧ RI W A len l ∧ len ≤ 9223372036854775807 := by
  rcases open_ints ht he hce h with ⟨hcs, _⟩ | ⟨x, l, c, zs, hcs, _, hl, hm, hz, _, hcell, hwz⟩
  · simp at hcs
    exact ⟨_, _, _, [], hcs, ⟨rfl, fun h => absurd h (by decide)⟩, by decide⟩
  · simp at hcs
    unfold maxLen at hm
    have hz : zs.length = c := by simpa using hz
    refine ⟨_, _, _, zs.take l, hcs, ⟨by simp; omega, fun hp => ?_⟩, by omega⟩
    obtain ⟨b, off, rfl, hc⟩ := ints_at hcell (by omega)
    refine ⟨b, off, rfl, World.block_lt_of_cell? W _ (hc 0 (by omega)), fun j hj => ?_⟩
    rw [hc j (by omega)]
    congr 2
    simp [List.getD_eq_getElem?_getD, hj]
end Go.Proofs.Ytnelfadmcpacbaa
