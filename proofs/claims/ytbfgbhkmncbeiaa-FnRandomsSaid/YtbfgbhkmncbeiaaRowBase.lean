/- What a walk is told of a slice of bytes that came in: its bytes; nil let in. -/
import Derived.Test.YtbfgbhkmncbeiaaBase
import Derived.Test.YtbfgbhkmncbeiaaRows
import Derived.ProofKit
import Derived.OpenShut
import Derived.ShutString
import Derived.ChangeOld
import Derived.Below
namespace Go.Proofs.Ytbfgbhkmncbeiaa
open Go.ChangeShapes Go.WideShapes Go.ChangeAt Go.RowKit Sat
open Go.ChangeMaps (open_string shut_string)

theorem bytes_of {H : Type} {enc : TypeId × Value → H} {W : World} {t e : TypeId} {a0 : Option Addr} {len0 cap0 : Nat} {d : DataW H} {p : List MemPlace} (ht : Try.prog.underlying t = some (.slice e)) (he : Try.prog.underlying e = some (.int .u8)) (hce : Try.prog.cellsOf e = 1)
    (h0 : DataW.Trod enc Try.prog W 0 (fun _ => true) true t (.slice a0 len0 cap0) d p) : ∃ l, IsBytes W W.heap.size a0 len0 l := by
  obtain ⟨fuel, hf⟩ := h0
  rcases open_ints ht he hce hf with ⟨hcs, _⟩ | ⟨x, l, c, zs, hcs, _, hl, hm, hz, _, hcell, hwz⟩
  · simp [Value.cells] at hcs
    obtain ⟨rfl, rfl, rfl⟩ := hcs
    exact ⟨[], rfl, by decide, fun h => absurd h (by decide)⟩
  · simp [Value.cells] at hcs
    obtain ⟨rfl, rfl, rfl⟩ := hcs
    unfold maxLen at hm
    have hz : zs.length = cap0 := by simpa using hz
    refine ⟨(zs.take len0).map (fun z => UInt8.ofNat z.toNat), by simp; omega, by omega, fun hp => ?_⟩
    obtain ⟨b, off, rfl, hc⟩ := ints_at hcell (by omega)
    refine ⟨b, off, rfl, World.block_lt_of_cell? W _ (hc 0 (by omega)), fun j hj => ?_⟩
    rw [hc j (by omega)]
    congr 2
    have hj' : j < zs.length := by omega
    have hw := bounds_u8 (hwz zs[j] (List.getElem_mem hj'))
    simp [List.getD_eq_getElem?_getD, hj, List.getElem?_eq_getElem hj', UInt8.toNat_ofNat']
    omega
end Go.Proofs.Ytbfgbhkmncbeiaa
