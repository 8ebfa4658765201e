/- What the reference's draws of bytes do: DrawBytes draws fewer than thirty bytes; nothing but new blocks is turned. -/
import Derived.Test.YtaadnknpfbbjjaaDoorDraw
namespace Go.Proofs.YtaadnknpfbbjjaaDoor
open Go.RowKit Sat

def slen : Value → Nat
  | .slice _ n _ => n
  | _ => 0
theorem BOwn.form {w : World} {B : Nat} {v : Value} {l : List UInt8} (h : BOwn w B v l) : ∃ A c, v = .slice A l.length c := by
  rcases h.2 with ⟨rfl, hn⟩ | ⟨g, cap, cur, rfl, _⟩
  · rw [hn]; exact ⟨_, _, rfl⟩
  · exact ⟨_, _, rfl⟩
theorem Cur.belowM {w w' : World} {B g M : Nat} (h : Cur w B g) (hb : Below M w w') (hg : g < M) : Cur w' B g := by
  obtain ⟨hB, a, len, cap, l, i, x, hbk, hby, hl, h0, h1⟩ := h
  exact ⟨hB, a, len, cap, l, i, x, (hb.block g hg).trans hbk, hby.below (hb.mono (by omega)), hl, h0, h1⟩
theorem grown_below {w w1 w2 : World} {row : Option Nat} (h1 : w.grownBy w1 row) (h2 : Below w.heap.size w1 w2) : w.grownBy w2 row :=
  ⟨h2.os.trans h1.os, h2.tape.trans h1.tape, h2.output.trans h1.output, Nat.le_trans h1.size h2.size, fun k hk hne => (h2.block k hk).trans (h1.block k hk hne)⟩
/-- what a draw of a text of n bytes leaves -/
def DrawnT (n : Nat) (B g : Nat) (w : World) (e : Ending) (w' : World) : Prop := ∃ l : List UInt8, l.length = n ∧ e = .returned (.string (str l)) ∧ Cur w' B g ∧ w.grownBy w' (some g)
end Go.Proofs.YtaadnknpfbbjjaaDoor
