/- What the small functions on numbers return: l01In, between, NextRandom, RandomBelow, Clamp, in the program and in the reference; no condition beyond that the arguments are ints. -/
import Derived.Test.YtaadnknpfbbjjaaDoorProg
import Derived.WalkKit
import Derived.WalkSpells
import Derived.WalkLawsBesides
import Derived.Deep.QuietTactic
import Derived.BigQuiet
namespace Go.Proofs.YtaadnknpfbbjjaaDoor
open Go.RowKit

theorem hide {p : Prop} (h : p) : Hid p := h
theorem ret_int {k : IntKind} {a b : Int} (h : a = b) : Ending.returned (.int k a) = .returned (.int k b) := by rw [h]
theorem ret_bool {a b : Bool} (h : a = b) : Ending.returned (.bool a) = .returned (.bool b) := by rw [h]
/-- is x in the range a to b? -/
def inR (x a b : Int) : Bool := decide (a ≤ x ∧ x ≤ b)
theorem inR_true {x a b : Int} (h1 : a ≤ x) (h2 : x ≤ b) : inR x a b = true := decide_eq_true ⟨h1, h2⟩
theorem inR_false {x a b : Int} (h : x < a ∨ b < x) : inR x a b = false := decide_eq_false (by omega)
theorem of_inR {x a b : Int} (h : inR x a b = true) : a ≤ x ∧ x ≤ b := of_decide_eq_true h
theorem of_inR_false {x a b : Int} (h : inR x a b = false) : x < a ∨ b < x := by have := of_decide_eq_false h; omega


end Go.Proofs.YtaadnknpfbbjjaaDoor
