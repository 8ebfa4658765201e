/-
  No cell of these rows narrows 'for every input' (looked for: loops, veiled, ifaces, maps, wideKeys, modest, calm, conditions, laid).
  DERIVED. THE GIVEN ROWS OF THIS SEAT. 6 by the template 'for every input the law returns true; each argument reads behind the call as it read before'; 0 by the template 'total and deterministic' (their statements: YtimkjhjdddllcaaTotals.lean).
  GIVEN WITH THE SEED: the statements are not yours to turn. If you find one false, say at which input.
  Laid BY PROGRAM, IN A SANDBOX (cutbox-rows.mjs): the forced cells as the released guide's own fill.sh prints them over the translation 3576c656fd7e51b8… (all of the seat's roots in one cut). By AI agents, Wed Nov 11 2026. No macro, syntax, notation, axiom, sorry.
-/
import Derived.Test.YtimkjhjdddllcaaChecked
import GoSem.Claim
import GoSem.ClaimJoined
import GoSem.ClaimMapViews
import Derived.JoinedTies
import Derived.KernelRfl
namespace Go.Proofs.Ytimkjhjdddllcaa
/- THE CELL 'sum', in the pinned program and in every row, IS THE sha256 OF THE DUMP (.gsa) THAT YtimkjhjdddllcaaProg.lean LOADS. Nothing in Lean hashes anything: it is a label: what it is worth is what the hold of that sum in a sandbox is worth. -/
noncomputable def Try.pinned : Pinned := { name := "ytimkjhjdddllcaa", sum := "3576c656fd7e51b885878e7199c04c47ef7e99a56f3ef99acc0c34884edb66ce", checked := Try.checked }
namespace Rows
def none {H : Type} : Left H := { results := [], args := [] }

/-- 'laws.FnBursts': WHATEVER THE INPUT: true; the input reads as it did. -/
def fnBurstsSpec : ChangeSpec := { name := "fnBursts", fn := fun _ => fun
  | [d] => { results := [.lit (.bool true)], args := [d] }
  | _ => none }
def fnBurstsRow : OpenClaim := { program := "ytimkjhjdddllcaa", sum := "3576c656fd7e51b885878e7199c04c47ef7e99a56f3ef99acc0c34884edb66ce", func := "loop.example/g03316/laws.FnBursts", spec := "fnBursts", apart := false }
def FnBurstsSaid : Prop := fnBurstsRow.holds Try.pinned (OpenSpec.ofChange fnBurstsSpec)

/-- ITS FALSE NEIGHBOUR: 'it returns false'. Refute it at one input. -/
def fnBurstsWrong : ChangeSpec := { name := "fnBursts", fn := fun _ => fun
  | [d] => { results := [.lit (.bool false)], args := [d] }
  | _ => none }
def FnBurstsWrongFalsely : Prop := fnBurstsRow.holds Try.pinned (OpenSpec.ofChange fnBurstsWrong)

/-- 'laws.FnExactFindBlocks': WHATEVER THE INPUT: true; the input reads as it did. -/
def fnExactFindBlocksSpec : ChangeSpec := { name := "fnExactFindBlocks", fn := fun _ => fun
  | [d1, d2] => { results := [.lit (.bool true)], args := [d1, d2] }
  | _ => none }
def fnExactFindBlocksRow : OpenClaim := { program := "ytimkjhjdddllcaa", sum := "3576c656fd7e51b885878e7199c04c47ef7e99a56f3ef99acc0c34884edb66ce", func := "loop.example/g03316/laws.FnExactFindBlocks", spec := "fnExactFindBlocks", apart := false }
def FnExactFindBlocksSaid : Prop := fnExactFindBlocksRow.holds Try.pinned (OpenSpec.ofChange fnExactFindBlocksSpec)

/-- ITS FALSE NEIGHBOUR: 'it returns false'. Refute it at one input. -/
def fnExactFindBlocksWrong : ChangeSpec := { name := "fnExactFindBlocks", fn := fun _ => fun
  | [d1, d2] => { results := [.lit (.bool false)], args := [d1, d2] }
  | _ => none }
def FnExactFindBlocksWrongFalsely : Prop := fnExactFindBlocksRow.holds Try.pinned (OpenSpec.ofChange fnExactFindBlocksWrong)

/-- 'laws.FnExactSendBlock': WHATEVER THE INPUT: true; the input reads as it did. -/
def fnExactSendBlockSpec : ChangeSpec := { name := "fnExactSendBlock", fn := fun _ => fun
  | [d1, d2] => { results := [.lit (.bool true)], args := [d1, d2] }
  | _ => none }
def fnExactSendBlockRow : OpenClaim := { program := "ytimkjhjdddllcaa", sum := "3576c656fd7e51b885878e7199c04c47ef7e99a56f3ef99acc0c34884edb66ce", func := "loop.example/g03316/laws.FnExactSendBlock", spec := "fnExactSendBlock", apart := false }
def FnExactSendBlockSaid : Prop := fnExactSendBlockRow.holds Try.pinned (OpenSpec.ofChange fnExactSendBlockSpec)

/-- ITS FALSE NEIGHBOUR: 'it returns false'. Refute it at one input. -/
def fnExactSendBlockWrong : ChangeSpec := { name := "fnExactSendBlock", fn := fun _ => fun
  | [d1, d2] => { results := [.lit (.bool false)], args := [d1, d2] }
  | _ => none }
def FnExactSendBlockWrongFalsely : Prop := fnExactSendBlockRow.holds Try.pinned (OpenSpec.ofChange fnExactSendBlockWrong)

/-- 'laws.FnExactBlocksOf': WHATEVER THE INPUT: true; the input reads as it did. -/
def fnExactBlocksOfSpec : ChangeSpec := { name := "fnExactBlocksOf", fn := fun _ => fun
  | [d1, d2] => { results := [.lit (.bool true)], args := [d1, d2] }
  | _ => none }
def fnExactBlocksOfRow : OpenClaim := { program := "ytimkjhjdddllcaa", sum := "3576c656fd7e51b885878e7199c04c47ef7e99a56f3ef99acc0c34884edb66ce", func := "loop.example/g03316/laws.FnExactBlocksOf", spec := "fnExactBlocksOf", apart := false }
def FnExactBlocksOfSaid : Prop := fnExactBlocksOfRow.holds Try.pinned (OpenSpec.ofChange fnExactBlocksOfSpec)

/-- ITS FALSE NEIGHBOUR: 'it returns false'. Refute it at one input. -/
def fnExactBlocksOfWrong : ChangeSpec := { name := "fnExactBlocksOf", fn := fun _ => fun
  | [d1, d2] => { results := [.lit (.bool false)], args := [d1, d2] }
  | _ => none }
def FnExactBlocksOfWrongFalsely : Prop := fnExactBlocksOfRow.holds Try.pinned (OpenSpec.ofChange fnExactBlocksOfWrong)

/-- 'laws.FnStreams': WHATEVER THE INPUT: true; the input reads as it did. -/
def fnStreamsSpec : ChangeSpec := { name := "fnStreams", fn := fun _ => fun
  | [d] => { results := [.lit (.bool true)], args := [d] }
  | _ => none }
def fnStreamsRow : OpenClaim := { program := "ytimkjhjdddllcaa", sum := "3576c656fd7e51b885878e7199c04c47ef7e99a56f3ef99acc0c34884edb66ce", func := "loop.example/g03316/laws.FnStreams", spec := "fnStreams", apart := false }
def FnStreamsSaid : Prop := fnStreamsRow.holds Try.pinned (OpenSpec.ofChange fnStreamsSpec)

/-- ITS FALSE NEIGHBOUR: 'it returns false'. Refute it at one input. -/
def fnStreamsWrong : ChangeSpec := { name := "fnStreams", fn := fun _ => fun
  | [d] => { results := [.lit (.bool false)], args := [d] }
  | _ => none }
def FnStreamsWrongFalsely : Prop := fnStreamsRow.holds Try.pinned (OpenSpec.ofChange fnStreamsWrong)

/-- 'laws.FnChannels': WHATEVER THE INPUT: true; the input reads as it did. -/
def fnChannelsSpec : ChangeSpec := { name := "fnChannels", fn := fun _ => fun
  | [d] => { results := [.lit (.bool true)], args := [d] }
  | _ => none }
def fnChannelsRow : OpenClaim := { program := "ytimkjhjdddllcaa", sum := "3576c656fd7e51b885878e7199c04c47ef7e99a56f3ef99acc0c34884edb66ce", func := "loop.example/g03316/laws.FnChannels", spec := "fnChannels", apart := false }
def FnChannelsSaid : Prop := fnChannelsRow.holds Try.pinned (OpenSpec.ofChange fnChannelsSpec)

/-- ITS FALSE NEIGHBOUR: 'it returns false'. Refute it at one input. -/
def fnChannelsWrong : ChangeSpec := { name := "fnChannels", fn := fun _ => fun
  | [d] => { results := [.lit (.bool false)], args := [d] }
  | _ => none }
def FnChannelsWrongFalsely : Prop := fnChannelsRow.holds Try.pinned (OpenSpec.ofChange fnChannelsWrong)

/- THE SECOND FORM. 'bulk': how many values and letters a reading holds, each counted each time it is reached (what is shared counts as often as it is met; a slice's spare places count too). A statement '..UptoSaid' is the law's where the arguments, and the package variables that the reading takes, are together of bulk at most 1048576: NARROWER than '..Said'. Prove '..Said' where nothing that the law and all that it calls make is longer than what came in: it says more and counts as full. Else prove '..UptoSaid'. A law counts once. -/
mutual
def uptoBulk {H : Type} : DataW H → Nat
  | .lit (.string bytes) => bytes.length + 1
  | .lit _ => 1
  | .nil => 1
  | .ptr d => uptoBulk d + 1
  | .slice elems spare => uptoBulkAll elems + uptoBulkAll spare + 1
  | .agg parts => uptoBulkAll parts + 1
  | .iface _ d => uptoBulk d + 1
  | .map entries => uptoBulkEntries entries + 1
  | .held _ => 1
def uptoBulkAll {H : Type} : List (DataW H) → Nat
  | [] => 0
  | d :: r => uptoBulk d + uptoBulkAll r
def uptoBulkEntries {H : Type} : List (Lit × DataW H) → Nat
  | [] => 0
  | x :: r => uptoBulkEntry x + uptoBulkEntries r
def uptoBulkEntry {H : Type} : Lit × DataW H → Nat
  | (.string bytes, d) => bytes.length + uptoBulk d + 1
  | (_, d) => uptoBulk d + 1
 end
def uptoSmall : (H : Type) → List (DataW H) → Bool := fun _ ds => decide (uptoBulkAll ds ≤ 1048576)
def OpenSpec.upto (s : _root_.Go.ChangeSpec) : _root_.Go.OpenSpec := { _root_.Go.OpenSpec.ofChange s with cond := some uptoSmall }

/-- 'laws.FnBursts', WHERE WHAT IT READS IS OF BULK AT MOST 1048576: true; the input reads as it did. -/
def fnBurstsUptoRow : OpenClaim := { program := "ytimkjhjdddllcaa", sum := "3576c656fd7e51b885878e7199c04c47ef7e99a56f3ef99acc0c34884edb66ce", func := "loop.example/g03316/laws.FnBursts", spec := "fnBursts", apart := false, narrowed := true }
def FnBurstsUptoSaid : Prop := fnBurstsUptoRow.holds Try.pinned (OpenSpec.upto fnBurstsSpec)

/-- 'laws.FnExactFindBlocks', WHERE WHAT IT READS IS OF BULK AT MOST 1048576: true; the input reads as it did. -/
def fnExactFindBlocksUptoRow : OpenClaim := { program := "ytimkjhjdddllcaa", sum := "3576c656fd7e51b885878e7199c04c47ef7e99a56f3ef99acc0c34884edb66ce", func := "loop.example/g03316/laws.FnExactFindBlocks", spec := "fnExactFindBlocks", apart := false, narrowed := true }
def FnExactFindBlocksUptoSaid : Prop := fnExactFindBlocksUptoRow.holds Try.pinned (OpenSpec.upto fnExactFindBlocksSpec)

/-- 'laws.FnExactSendBlock', WHERE WHAT IT READS IS OF BULK AT MOST 1048576: true; the input reads as it did. -/
def fnExactSendBlockUptoRow : OpenClaim := { program := "ytimkjhjdddllcaa", sum := "3576c656fd7e51b885878e7199c04c47ef7e99a56f3ef99acc0c34884edb66ce", func := "loop.example/g03316/laws.FnExactSendBlock", spec := "fnExactSendBlock", apart := false, narrowed := true }
def FnExactSendBlockUptoSaid : Prop := fnExactSendBlockUptoRow.holds Try.pinned (OpenSpec.upto fnExactSendBlockSpec)

/-- 'laws.FnExactBlocksOf', WHERE WHAT IT READS IS OF BULK AT MOST 1048576: true; the input reads as it did. -/
def fnExactBlocksOfUptoRow : OpenClaim := { program := "ytimkjhjdddllcaa", sum := "3576c656fd7e51b885878e7199c04c47ef7e99a56f3ef99acc0c34884edb66ce", func := "loop.example/g03316/laws.FnExactBlocksOf", spec := "fnExactBlocksOf", apart := false, narrowed := true }
def FnExactBlocksOfUptoSaid : Prop := fnExactBlocksOfUptoRow.holds Try.pinned (OpenSpec.upto fnExactBlocksOfSpec)

/-- 'laws.FnStreams', WHERE WHAT IT READS IS OF BULK AT MOST 1048576: true; the input reads as it did. -/
def fnStreamsUptoRow : OpenClaim := { program := "ytimkjhjdddllcaa", sum := "3576c656fd7e51b885878e7199c04c47ef7e99a56f3ef99acc0c34884edb66ce", func := "loop.example/g03316/laws.FnStreams", spec := "fnStreams", apart := false, narrowed := true }
def FnStreamsUptoSaid : Prop := fnStreamsUptoRow.holds Try.pinned (OpenSpec.upto fnStreamsSpec)

/-- 'laws.FnChannels', WHERE WHAT IT READS IS OF BULK AT MOST 1048576: true; the input reads as it did. -/
def fnChannelsUptoRow : OpenClaim := { program := "ytimkjhjdddllcaa", sum := "3576c656fd7e51b885878e7199c04c47ef7e99a56f3ef99acc0c34884edb66ce", func := "loop.example/g03316/laws.FnChannels", spec := "fnChannels", apart := false, narrowed := true }
def FnChannelsUptoSaid : Prop := fnChannelsUptoRow.holds Try.pinned (OpenSpec.upto fnChannelsSpec)

end Rows
end Go.Proofs.Ytimkjhjdddllcaa
