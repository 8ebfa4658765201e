/-
  No cell of these rows narrows 'for every input' (looked for: loops, veiled, ifaces, maps, wideKeys, modest, calm, conditions, laid).
  DERIVED. THE GIVEN ROWS OF THIS SEAT. 15 by the template 'for every input the law returns true; each argument reads behind the call as it read before'; 0 by the template 'total and deterministic' (their statements: YtklhdkdfclndcaaTotals.lean).
  GIVEN WITH THE SEED: the statements are not yours to turn. If you find one false, say at which input.
  Laid BY PROGRAM, IN A SANDBOX (cutbox-rows.mjs): the forced cells as the released guide's own fill.sh prints them over the translation b9d78e5308f994df… (all of the seat's roots in one cut). By AI agents, Wed Nov 11 2026. No macro, syntax, notation, axiom, sorry.
-/
import Derived.Test.YtklhdkdfclndcaaChecked
import GoSem.Claim
import GoSem.ClaimJoined
import GoSem.ClaimMapViews
import Derived.JoinedTies
import Derived.KernelRfl
namespace Go.Proofs.Ytklhdkdfclndcaa
/- THE CELL 'sum', in the pinned program and in every row, IS THE sha256 OF THE DUMP (.gsa) THAT YtklhdkdfclndcaaProg.lean LOADS. Nothing in Lean hashes anything: it is a label: what it is worth is what the hold of that sum in a sandbox is worth. -/
noncomputable def Try.pinned : Pinned := { name := "ytklhdkdfclndcaa", sum := "b9d78e5308f994df8a2661d9e9010fd31cea948a488b865a43ffd301f5e60b2b", checked := Try.checked }
namespace Rows
def none {H : Type} : Left H := { results := [], args := [] }

/-- 'laws.FnExactNewUnpacker': WHATEVER THE INPUT: true; the input reads as it did. -/
def fnExactNewUnpackerSpec : ChangeSpec := { name := "fnExactNewUnpacker", fn := fun _ => fun
  | [d] => { results := [.lit (.bool true)], args := [d] }
  | _ => none }
def fnExactNewUnpackerRow : OpenClaim := { program := "ytklhdkdfclndcaa", sum := "b9d78e5308f994df8a2661d9e9010fd31cea948a488b865a43ffd301f5e60b2b", func := "loop.example/g03316/laws.FnExactNewUnpacker", spec := "fnExactNewUnpacker", apart := false }
def FnExactNewUnpackerSaid : Prop := fnExactNewUnpackerRow.holds Try.pinned (OpenSpec.ofChange fnExactNewUnpackerSpec)

/-- ITS FALSE NEIGHBOUR: 'it returns false'. Refute it at one input. -/
def fnExactNewUnpackerWrong : ChangeSpec := { name := "fnExactNewUnpacker", fn := fun _ => fun
  | [d] => { results := [.lit (.bool false)], args := [d] }
  | _ => none }
def FnExactNewUnpackerWrongFalsely : Prop := fnExactNewUnpackerRow.holds Try.pinned (OpenSpec.ofChange fnExactNewUnpackerWrong)

/-- 'laws.FnExactPacketOk': WHATEVER THE INPUT: true; the input reads as it did. -/
def fnExactPacketOkSpec : ChangeSpec := { name := "fnExactPacketOk", fn := fun _ => fun
  | [d] => { results := [.lit (.bool true)], args := [d] }
  | _ => none }
def fnExactPacketOkRow : OpenClaim := { program := "ytklhdkdfclndcaa", sum := "b9d78e5308f994df8a2661d9e9010fd31cea948a488b865a43ffd301f5e60b2b", func := "loop.example/g03316/laws.FnExactPacketOk", spec := "fnExactPacketOk", apart := false }
def FnExactPacketOkSaid : Prop := fnExactPacketOkRow.holds Try.pinned (OpenSpec.ofChange fnExactPacketOkSpec)

/-- ITS FALSE NEIGHBOUR: 'it returns false'. Refute it at one input. -/
def fnExactPacketOkWrong : ChangeSpec := { name := "fnExactPacketOk", fn := fun _ => fun
  | [d] => { results := [.lit (.bool false)], args := [d] }
  | _ => none }
def FnExactPacketOkWrongFalsely : Prop := fnExactPacketOkRow.holds Try.pinned (OpenSpec.ofChange fnExactPacketOkWrong)

/-- 'laws.FnExactFrameOk': WHATEVER THE INPUT: true; the input reads as it did. -/
def fnExactFrameOkSpec : ChangeSpec := { name := "fnExactFrameOk", fn := fun _ => fun
  | [d] => { results := [.lit (.bool true)], args := [d] }
  | _ => none }
def fnExactFrameOkRow : OpenClaim := { program := "ytklhdkdfclndcaa", sum := "b9d78e5308f994df8a2661d9e9010fd31cea948a488b865a43ffd301f5e60b2b", func := "loop.example/g03316/laws.FnExactFrameOk", spec := "fnExactFrameOk", apart := false }
def FnExactFrameOkSaid : Prop := fnExactFrameOkRow.holds Try.pinned (OpenSpec.ofChange fnExactFrameOkSpec)

/-- ITS FALSE NEIGHBOUR: 'it returns false'. Refute it at one input. -/
def fnExactFrameOkWrong : ChangeSpec := { name := "fnExactFrameOk", fn := fun _ => fun
  | [d] => { results := [.lit (.bool false)], args := [d] }
  | _ => none }
def FnExactFrameOkWrongFalsely : Prop := fnExactFrameOkRow.holds Try.pinned (OpenSpec.ofChange fnExactFrameOkWrong)

/-- 'laws.FnExactUnpackerOk': WHATEVER THE INPUT: true; the input reads as it did. -/
def fnExactUnpackerOkSpec : ChangeSpec := { name := "fnExactUnpackerOk", fn := fun _ => fun
  | [d] => { results := [.lit (.bool true)], args := [d] }
  | _ => none }
def fnExactUnpackerOkRow : OpenClaim := { program := "ytklhdkdfclndcaa", sum := "b9d78e5308f994df8a2661d9e9010fd31cea948a488b865a43ffd301f5e60b2b", func := "loop.example/g03316/laws.FnExactUnpackerOk", spec := "fnExactUnpackerOk", apart := false }
def FnExactUnpackerOkSaid : Prop := fnExactUnpackerOkRow.holds Try.pinned (OpenSpec.ofChange fnExactUnpackerOkSpec)

/-- ITS FALSE NEIGHBOUR: 'it returns false'. Refute it at one input. -/
def fnExactUnpackerOkWrong : ChangeSpec := { name := "fnExactUnpackerOk", fn := fun _ => fun
  | [d] => { results := [.lit (.bool false)], args := [d] }
  | _ => none }
def FnExactUnpackerOkWrongFalsely : Prop := fnExactUnpackerOkRow.holds Try.pinned (OpenSpec.ofChange fnExactUnpackerOkWrong)

/-- 'laws.FnExactEncodePacket': WHATEVER THE INPUT: true; the input reads as it did. -/
def fnExactEncodePacketSpec : ChangeSpec := { name := "fnExactEncodePacket", fn := fun _ => fun
  | [d] => { results := [.lit (.bool true)], args := [d] }
  | _ => none }
def fnExactEncodePacketRow : OpenClaim := { program := "ytklhdkdfclndcaa", sum := "b9d78e5308f994df8a2661d9e9010fd31cea948a488b865a43ffd301f5e60b2b", func := "loop.example/g03316/laws.FnExactEncodePacket", spec := "fnExactEncodePacket", apart := false }
def FnExactEncodePacketSaid : Prop := fnExactEncodePacketRow.holds Try.pinned (OpenSpec.ofChange fnExactEncodePacketSpec)

/-- ITS FALSE NEIGHBOUR: 'it returns false'. Refute it at one input. -/
def fnExactEncodePacketWrong : ChangeSpec := { name := "fnExactEncodePacket", fn := fun _ => fun
  | [d] => { results := [.lit (.bool false)], args := [d] }
  | _ => none }
def FnExactEncodePacketWrongFalsely : Prop := fnExactEncodePacketRow.holds Try.pinned (OpenSpec.ofChange fnExactEncodePacketWrong)

/-- 'laws.FnExactDecodePacket': WHATEVER THE INPUT: true; the input reads as it did. -/
def fnExactDecodePacketSpec : ChangeSpec := { name := "fnExactDecodePacket", fn := fun _ => fun
  | [d1, d2] => { results := [.lit (.bool true)], args := [d1, d2] }
  | _ => none }
def fnExactDecodePacketRow : OpenClaim := { program := "ytklhdkdfclndcaa", sum := "b9d78e5308f994df8a2661d9e9010fd31cea948a488b865a43ffd301f5e60b2b", func := "loop.example/g03316/laws.FnExactDecodePacket", spec := "fnExactDecodePacket", apart := false }
def FnExactDecodePacketSaid : Prop := fnExactDecodePacketRow.holds Try.pinned (OpenSpec.ofChange fnExactDecodePacketSpec)

/-- ITS FALSE NEIGHBOUR: 'it returns false'. Refute it at one input. -/
def fnExactDecodePacketWrong : ChangeSpec := { name := "fnExactDecodePacket", fn := fun _ => fun
  | [d1, d2] => { results := [.lit (.bool false)], args := [d1, d2] }
  | _ => none }
def FnExactDecodePacketWrongFalsely : Prop := fnExactDecodePacketRow.holds Try.pinned (OpenSpec.ofChange fnExactDecodePacketWrong)

/-- 'laws.FnExactPackerOk': WHATEVER THE INPUT: true; the input reads as it did. -/
def fnExactPackerOkSpec : ChangeSpec := { name := "fnExactPackerOk", fn := fun _ => fun
  | [d] => { results := [.lit (.bool true)], args := [d] }
  | _ => none }
def fnExactPackerOkRow : OpenClaim := { program := "ytklhdkdfclndcaa", sum := "b9d78e5308f994df8a2661d9e9010fd31cea948a488b865a43ffd301f5e60b2b", func := "loop.example/g03316/laws.FnExactPackerOk", spec := "fnExactPackerOk", apart := false }
def FnExactPackerOkSaid : Prop := fnExactPackerOkRow.holds Try.pinned (OpenSpec.ofChange fnExactPackerOkSpec)

/-- ITS FALSE NEIGHBOUR: 'it returns false'. Refute it at one input. -/
def fnExactPackerOkWrong : ChangeSpec := { name := "fnExactPackerOk", fn := fun _ => fun
  | [d] => { results := [.lit (.bool false)], args := [d] }
  | _ => none }
def FnExactPackerOkWrongFalsely : Prop := fnExactPackerOkRow.holds Try.pinned (OpenSpec.ofChange fnExactPackerOkWrong)

/-- 'laws.FnExactEncodeFrame': WHATEVER THE INPUT: true; the input reads as it did. -/
def fnExactEncodeFrameSpec : ChangeSpec := { name := "fnExactEncodeFrame", fn := fun _ => fun
  | [d] => { results := [.lit (.bool true)], args := [d] }
  | _ => none }
def fnExactEncodeFrameRow : OpenClaim := { program := "ytklhdkdfclndcaa", sum := "b9d78e5308f994df8a2661d9e9010fd31cea948a488b865a43ffd301f5e60b2b", func := "loop.example/g03316/laws.FnExactEncodeFrame", spec := "fnExactEncodeFrame", apart := false }
def FnExactEncodeFrameSaid : Prop := fnExactEncodeFrameRow.holds Try.pinned (OpenSpec.ofChange fnExactEncodeFrameSpec)

/-- ITS FALSE NEIGHBOUR: 'it returns false'. Refute it at one input. -/
def fnExactEncodeFrameWrong : ChangeSpec := { name := "fnExactEncodeFrame", fn := fun _ => fun
  | [d] => { results := [.lit (.bool false)], args := [d] }
  | _ => none }
def FnExactEncodeFrameWrongFalsely : Prop := fnExactEncodeFrameRow.holds Try.pinned (OpenSpec.ofChange fnExactEncodeFrameWrong)

/-- 'laws.FnExactDecodeFrame': WHATEVER THE INPUT: true; the input reads as it did. -/
def fnExactDecodeFrameSpec : ChangeSpec := { name := "fnExactDecodeFrame", fn := fun _ => fun
  | [d] => { results := [.lit (.bool true)], args := [d] }
  | _ => none }
def fnExactDecodeFrameRow : OpenClaim := { program := "ytklhdkdfclndcaa", sum := "b9d78e5308f994df8a2661d9e9010fd31cea948a488b865a43ffd301f5e60b2b", func := "loop.example/g03316/laws.FnExactDecodeFrame", spec := "fnExactDecodeFrame", apart := false }
def FnExactDecodeFrameSaid : Prop := fnExactDecodeFrameRow.holds Try.pinned (OpenSpec.ofChange fnExactDecodeFrameSpec)

/-- ITS FALSE NEIGHBOUR: 'it returns false'. Refute it at one input. -/
def fnExactDecodeFrameWrong : ChangeSpec := { name := "fnExactDecodeFrame", fn := fun _ => fun
  | [d] => { results := [.lit (.bool false)], args := [d] }
  | _ => none }
def FnExactDecodeFrameWrongFalsely : Prop := fnExactDecodeFrameRow.holds Try.pinned (OpenSpec.ofChange fnExactDecodeFrameWrong)

/-- 'laws.FnWords': WHATEVER THE INPUT: true; the input reads as it did. -/
def fnWordsSpec : ChangeSpec := { name := "fnWords", fn := fun _ => fun
  | [d] => { results := [.lit (.bool true)], args := [d] }
  | _ => none }
def fnWordsRow : OpenClaim := { program := "ytklhdkdfclndcaa", sum := "b9d78e5308f994df8a2661d9e9010fd31cea948a488b865a43ffd301f5e60b2b", func := "loop.example/g03316/laws.FnWords", spec := "fnWords", apart := false }
def FnWordsSaid : Prop := fnWordsRow.holds Try.pinned (OpenSpec.ofChange fnWordsSpec)

/-- ITS FALSE NEIGHBOUR: 'it returns false'. Refute it at one input. -/
def fnWordsWrong : ChangeSpec := { name := "fnWords", fn := fun _ => fun
  | [d] => { results := [.lit (.bool false)], args := [d] }
  | _ => none }
def FnWordsWrongFalsely : Prop := fnWordsRow.holds Try.pinned (OpenSpec.ofChange fnWordsWrong)

/-- 'laws.FnExactTakeFrame': WHATEVER THE INPUT: true; the input reads as it did. -/
def fnExactTakeFrameSpec : ChangeSpec := { name := "fnExactTakeFrame", fn := fun _ => fun
  | [d] => { results := [.lit (.bool true)], args := [d] }
  | _ => none }
def fnExactTakeFrameRow : OpenClaim := { program := "ytklhdkdfclndcaa", sum := "b9d78e5308f994df8a2661d9e9010fd31cea948a488b865a43ffd301f5e60b2b", func := "loop.example/g03316/laws.FnExactTakeFrame", spec := "fnExactTakeFrame", apart := false }
def FnExactTakeFrameSaid : Prop := fnExactTakeFrameRow.holds Try.pinned (OpenSpec.ofChange fnExactTakeFrameSpec)

/-- ITS FALSE NEIGHBOUR: 'it returns false'. Refute it at one input. -/
def fnExactTakeFrameWrong : ChangeSpec := { name := "fnExactTakeFrame", fn := fun _ => fun
  | [d] => { results := [.lit (.bool false)], args := [d] }
  | _ => none }
def FnExactTakeFrameWrongFalsely : Prop := fnExactTakeFrameRow.holds Try.pinned (OpenSpec.ofChange fnExactTakeFrameWrong)

/-- 'laws.FnExactPackPacket': WHATEVER THE INPUT: true; the input reads as it did. -/
def fnExactPackPacketSpec : ChangeSpec := { name := "fnExactPackPacket", fn := fun _ => fun
  | [d1, d2] => { results := [.lit (.bool true)], args := [d1, d2] }
  | _ => none }
def fnExactPackPacketRow : OpenClaim := { program := "ytklhdkdfclndcaa", sum := "b9d78e5308f994df8a2661d9e9010fd31cea948a488b865a43ffd301f5e60b2b", func := "loop.example/g03316/laws.FnExactPackPacket", spec := "fnExactPackPacket", apart := false }
def FnExactPackPacketSaid : Prop := fnExactPackPacketRow.holds Try.pinned (OpenSpec.ofChange fnExactPackPacketSpec)

/-- ITS FALSE NEIGHBOUR: 'it returns false'. Refute it at one input. -/
def fnExactPackPacketWrong : ChangeSpec := { name := "fnExactPackPacket", fn := fun _ => fun
  | [d1, d2] => { results := [.lit (.bool false)], args := [d1, d2] }
  | _ => none }
def FnExactPackPacketWrongFalsely : Prop := fnExactPackPacketRow.holds Try.pinned (OpenSpec.ofChange fnExactPackPacketWrong)

/-- 'laws.FnExactTakeFrames': WHATEVER THE INPUT: true; the input reads as it did. -/
def fnExactTakeFramesSpec : ChangeSpec := { name := "fnExactTakeFrames", fn := fun _ => fun
  | [d] => { results := [.lit (.bool true)], args := [d] }
  | _ => none }
def fnExactTakeFramesRow : OpenClaim := { program := "ytklhdkdfclndcaa", sum := "b9d78e5308f994df8a2661d9e9010fd31cea948a488b865a43ffd301f5e60b2b", func := "loop.example/g03316/laws.FnExactTakeFrames", spec := "fnExactTakeFrames", apart := false }
def FnExactTakeFramesSaid : Prop := fnExactTakeFramesRow.holds Try.pinned (OpenSpec.ofChange fnExactTakeFramesSpec)

/-- ITS FALSE NEIGHBOUR: 'it returns false'. Refute it at one input. -/
def fnExactTakeFramesWrong : ChangeSpec := { name := "fnExactTakeFrames", fn := fun _ => fun
  | [d] => { results := [.lit (.bool false)], args := [d] }
  | _ => none }
def FnExactTakeFramesWrongFalsely : Prop := fnExactTakeFramesRow.holds Try.pinned (OpenSpec.ofChange fnExactTakeFramesWrong)

/-- 'laws.FnExactPushFrame': WHATEVER THE INPUT: true; the input reads as it did. -/
def fnExactPushFrameSpec : ChangeSpec := { name := "fnExactPushFrame", fn := fun _ => fun
  | [d1, d2] => { results := [.lit (.bool true)], args := [d1, d2] }
  | _ => none }
def fnExactPushFrameRow : OpenClaim := { program := "ytklhdkdfclndcaa", sum := "b9d78e5308f994df8a2661d9e9010fd31cea948a488b865a43ffd301f5e60b2b", func := "loop.example/g03316/laws.FnExactPushFrame", spec := "fnExactPushFrame", apart := false }
def FnExactPushFrameSaid : Prop := fnExactPushFrameRow.holds Try.pinned (OpenSpec.ofChange fnExactPushFrameSpec)

/-- ITS FALSE NEIGHBOUR: 'it returns false'. Refute it at one input. -/
def fnExactPushFrameWrong : ChangeSpec := { name := "fnExactPushFrame", fn := fun _ => fun
  | [d1, d2] => { results := [.lit (.bool false)], args := [d1, d2] }
  | _ => none }
def FnExactPushFrameWrongFalsely : Prop := fnExactPushFrameRow.holds Try.pinned (OpenSpec.ofChange fnExactPushFrameWrong)

/-- 'laws.FnExactPushFrames': WHATEVER THE INPUT: true; the input reads as it did. -/
def fnExactPushFramesSpec : ChangeSpec := { name := "fnExactPushFrames", fn := fun _ => fun
  | [d1, d2] => { results := [.lit (.bool true)], args := [d1, d2] }
  | _ => none }
def fnExactPushFramesRow : OpenClaim := { program := "ytklhdkdfclndcaa", sum := "b9d78e5308f994df8a2661d9e9010fd31cea948a488b865a43ffd301f5e60b2b", func := "loop.example/g03316/laws.FnExactPushFrames", spec := "fnExactPushFrames", apart := false }
def FnExactPushFramesSaid : Prop := fnExactPushFramesRow.holds Try.pinned (OpenSpec.ofChange fnExactPushFramesSpec)

/-- ITS FALSE NEIGHBOUR: 'it returns false'. Refute it at one input. -/
def fnExactPushFramesWrong : ChangeSpec := { name := "fnExactPushFrames", fn := fun _ => fun
  | [d1, d2] => { results := [.lit (.bool false)], args := [d1, d2] }
  | _ => none }
def FnExactPushFramesWrongFalsely : Prop := fnExactPushFramesRow.holds Try.pinned (OpenSpec.ofChange fnExactPushFramesWrong)

/- THE SECOND FORM. 'bulk': how many values and letters a reading holds, each counted each time it is reached (what is shared counts as often as it is met; a slice's spare places count too). A statement '..UptoSaid' is the law's where the arguments, and the package variables that the reading takes, are together of bulk at most 1048576: NARROWER than '..Said'. Prove '..Said' where nothing that the law and all that it calls make is longer than what came in: it says more and counts as full. Else prove '..UptoSaid'. A law counts once. -/
mutual
def uptoBulk {H : Type} : DataW H → Nat
  | .lit (.string bytes) => bytes.length + 1
  | .lit _ => 1
  | .nil => 1
  | .ptr d => uptoBulk d + 1
  | .slice elems spare => uptoBulkAll elems + uptoBulkAll spare + 1
  | .agg parts => uptoBulkAll parts + 1
  | .iface _ d => uptoBulk d + 1
  | .map entries => uptoBulkEntries entries + 1
  | .held _ => 1
def uptoBulkAll {H : Type} : List (DataW H) → Nat
  | [] => 0
  | d :: r => uptoBulk d + uptoBulkAll r
def uptoBulkEntries {H : Type} : List (Lit × DataW H) → Nat
  | [] => 0
  | x :: r => uptoBulkEntry x + uptoBulkEntries r
def uptoBulkEntry {H : Type} : Lit × DataW H → Nat
  | (.string bytes, d) => bytes.length + uptoBulk d + 1
  | (_, d) => uptoBulk d + 1
 end
def uptoSmall : (H : Type) → List (DataW H) → Bool := fun _ ds => decide (uptoBulkAll ds ≤ 1048576)
def OpenSpec.upto (s : _root_.Go.ChangeSpec) : _root_.Go.OpenSpec := { _root_.Go.OpenSpec.ofChange s with cond := some uptoSmall }

/-- 'laws.FnExactNewUnpacker', WHERE WHAT IT READS IS OF BULK AT MOST 1048576: true; the input reads as it did. -/
def fnExactNewUnpackerUptoRow : OpenClaim := { program := "ytklhdkdfclndcaa", sum := "b9d78e5308f994df8a2661d9e9010fd31cea948a488b865a43ffd301f5e60b2b", func := "loop.example/g03316/laws.FnExactNewUnpacker", spec := "fnExactNewUnpacker", apart := false, narrowed := true }
def FnExactNewUnpackerUptoSaid : Prop := fnExactNewUnpackerUptoRow.holds Try.pinned (OpenSpec.upto fnExactNewUnpackerSpec)

/-- 'laws.FnExactPacketOk', WHERE WHAT IT READS IS OF BULK AT MOST 1048576: true; the input reads as it did. -/
def fnExactPacketOkUptoRow : OpenClaim := { program := "ytklhdkdfclndcaa", sum := "b9d78e5308f994df8a2661d9e9010fd31cea948a488b865a43ffd301f5e60b2b", func := "loop.example/g03316/laws.FnExactPacketOk", spec := "fnExactPacketOk", apart := false, narrowed := true }
def FnExactPacketOkUptoSaid : Prop := fnExactPacketOkUptoRow.holds Try.pinned (OpenSpec.upto fnExactPacketOkSpec)

/-- 'laws.FnExactFrameOk', WHERE WHAT IT READS IS OF BULK AT MOST 1048576: true; the input reads as it did. -/
def fnExactFrameOkUptoRow : OpenClaim := { program := "ytklhdkdfclndcaa", sum := "b9d78e5308f994df8a2661d9e9010fd31cea948a488b865a43ffd301f5e60b2b", func := "loop.example/g03316/laws.FnExactFrameOk", spec := "fnExactFrameOk", apart := false, narrowed := true }
def FnExactFrameOkUptoSaid : Prop := fnExactFrameOkUptoRow.holds Try.pinned (OpenSpec.upto fnExactFrameOkSpec)

/-- 'laws.FnExactUnpackerOk', WHERE WHAT IT READS IS OF BULK AT MOST 1048576: true; the input reads as it did. -/
def fnExactUnpackerOkUptoRow : OpenClaim := { program := "ytklhdkdfclndcaa", sum := "b9d78e5308f994df8a2661d9e9010fd31cea948a488b865a43ffd301f5e60b2b", func := "loop.example/g03316/laws.FnExactUnpackerOk", spec := "fnExactUnpackerOk", apart := false, narrowed := true }
def FnExactUnpackerOkUptoSaid : Prop := fnExactUnpackerOkUptoRow.holds Try.pinned (OpenSpec.upto fnExactUnpackerOkSpec)

/-- 'laws.FnExactEncodePacket', WHERE WHAT IT READS IS OF BULK AT MOST 1048576: true; the input reads as it did. -/
def fnExactEncodePacketUptoRow : OpenClaim := { program := "ytklhdkdfclndcaa", sum := "b9d78e5308f994df8a2661d9e9010fd31cea948a488b865a43ffd301f5e60b2b", func := "loop.example/g03316/laws.FnExactEncodePacket", spec := "fnExactEncodePacket", apart := false, narrowed := true }
def FnExactEncodePacketUptoSaid : Prop := fnExactEncodePacketUptoRow.holds Try.pinned (OpenSpec.upto fnExactEncodePacketSpec)

/-- 'laws.FnExactDecodePacket', WHERE WHAT IT READS IS OF BULK AT MOST 1048576: true; the input reads as it did. -/
def fnExactDecodePacketUptoRow : OpenClaim := { program := "ytklhdkdfclndcaa", sum := "b9d78e5308f994df8a2661d9e9010fd31cea948a488b865a43ffd301f5e60b2b", func := "loop.example/g03316/laws.FnExactDecodePacket", spec := "fnExactDecodePacket", apart := false, narrowed := true }
def FnExactDecodePacketUptoSaid : Prop := fnExactDecodePacketUptoRow.holds Try.pinned (OpenSpec.upto fnExactDecodePacketSpec)

/-- 'laws.FnExactPackerOk', WHERE WHAT IT READS IS OF BULK AT MOST 1048576: true; the input reads as it did. -/
def fnExactPackerOkUptoRow : OpenClaim := { program := "ytklhdkdfclndcaa", sum := "b9d78e5308f994df8a2661d9e9010fd31cea948a488b865a43ffd301f5e60b2b", func := "loop.example/g03316/laws.FnExactPackerOk", spec := "fnExactPackerOk", apart := false, narrowed := true }
def FnExactPackerOkUptoSaid : Prop := fnExactPackerOkUptoRow.holds Try.pinned (OpenSpec.upto fnExactPackerOkSpec)

/-- 'laws.FnExactEncodeFrame', WHERE WHAT IT READS IS OF BULK AT MOST 1048576: true; the input reads as it did. -/
def fnExactEncodeFrameUptoRow : OpenClaim := { program := "ytklhdkdfclndcaa", sum := "b9d78e5308f994df8a2661d9e9010fd31cea948a488b865a43ffd301f5e60b2b", func := "loop.example/g03316/laws.FnExactEncodeFrame", spec := "fnExactEncodeFrame", apart := false, narrowed := true }
def FnExactEncodeFrameUptoSaid : Prop := fnExactEncodeFrameUptoRow.holds Try.pinned (OpenSpec.upto fnExactEncodeFrameSpec)

/-- 'laws.FnExactDecodeFrame', WHERE WHAT IT READS IS OF BULK AT MOST 1048576: true; the input reads as it did. -/
def fnExactDecodeFrameUptoRow : OpenClaim := { program := "ytklhdkdfclndcaa", sum := "b9d78e5308f994df8a2661d9e9010fd31cea948a488b865a43ffd301f5e60b2b", func := "loop.example/g03316/laws.FnExactDecodeFrame", spec := "fnExactDecodeFrame", apart := false, narrowed := true }
def FnExactDecodeFrameUptoSaid : Prop := fnExactDecodeFrameUptoRow.holds Try.pinned (OpenSpec.upto fnExactDecodeFrameSpec)

/-- 'laws.FnWords', WHERE WHAT IT READS IS OF BULK AT MOST 1048576: true; the input reads as it did. -/
def fnWordsUptoRow : OpenClaim := { program := "ytklhdkdfclndcaa", sum := "b9d78e5308f994df8a2661d9e9010fd31cea948a488b865a43ffd301f5e60b2b", func := "loop.example/g03316/laws.FnWords", spec := "fnWords", apart := false, narrowed := true }
def FnWordsUptoSaid : Prop := fnWordsUptoRow.holds Try.pinned (OpenSpec.upto fnWordsSpec)

/-- 'laws.FnExactTakeFrame', WHERE WHAT IT READS IS OF BULK AT MOST 1048576: true; the input reads as it did. -/
def fnExactTakeFrameUptoRow : OpenClaim := { program := "ytklhdkdfclndcaa", sum := "b9d78e5308f994df8a2661d9e9010fd31cea948a488b865a43ffd301f5e60b2b", func := "loop.example/g03316/laws.FnExactTakeFrame", spec := "fnExactTakeFrame", apart := false, narrowed := true }
def FnExactTakeFrameUptoSaid : Prop := fnExactTakeFrameUptoRow.holds Try.pinned (OpenSpec.upto fnExactTakeFrameSpec)

/-- 'laws.FnExactPackPacket', WHERE WHAT IT READS IS OF BULK AT MOST 1048576: true; the input reads as it did. -/
def fnExactPackPacketUptoRow : OpenClaim := { program := "ytklhdkdfclndcaa", sum := "b9d78e5308f994df8a2661d9e9010fd31cea948a488b865a43ffd301f5e60b2b", func := "loop.example/g03316/laws.FnExactPackPacket", spec := "fnExactPackPacket", apart := false, narrowed := true }
def FnExactPackPacketUptoSaid : Prop := fnExactPackPacketUptoRow.holds Try.pinned (OpenSpec.upto fnExactPackPacketSpec)

/-- 'laws.FnExactTakeFrames', WHERE WHAT IT READS IS OF BULK AT MOST 1048576: true; the input reads as it did. -/
def fnExactTakeFramesUptoRow : OpenClaim := { program := "ytklhdkdfclndcaa", sum := "b9d78e5308f994df8a2661d9e9010fd31cea948a488b865a43ffd301f5e60b2b", func := "loop.example/g03316/laws.FnExactTakeFrames", spec := "fnExactTakeFrames", apart := false, narrowed := true }
def FnExactTakeFramesUptoSaid : Prop := fnExactTakeFramesUptoRow.holds Try.pinned (OpenSpec.upto fnExactTakeFramesSpec)

/-- 'laws.FnExactPushFrame', WHERE WHAT IT READS IS OF BULK AT MOST 1048576: true; the input reads as it did. -/
def fnExactPushFrameUptoRow : OpenClaim := { program := "ytklhdkdfclndcaa", sum := "b9d78e5308f994df8a2661d9e9010fd31cea948a488b865a43ffd301f5e60b2b", func := "loop.example/g03316/laws.FnExactPushFrame", spec := "fnExactPushFrame", apart := false, narrowed := true }
def FnExactPushFrameUptoSaid : Prop := fnExactPushFrameUptoRow.holds Try.pinned (OpenSpec.upto fnExactPushFrameSpec)

/-- 'laws.FnExactPushFrames', WHERE WHAT IT READS IS OF BULK AT MOST 1048576: true; the input reads as it did. -/
def fnExactPushFramesUptoRow : OpenClaim := { program := "ytklhdkdfclndcaa", sum := "b9d78e5308f994df8a2661d9e9010fd31cea948a488b865a43ffd301f5e60b2b", func := "loop.example/g03316/laws.FnExactPushFrames", spec := "fnExactPushFrames", apart := false, narrowed := true }
def FnExactPushFramesUptoSaid : Prop := fnExactPushFramesUptoRow.holds Try.pinned (OpenSpec.upto fnExactPushFramesSpec)

end Rows
end Go.Proofs.Ytklhdkdfclndcaa
