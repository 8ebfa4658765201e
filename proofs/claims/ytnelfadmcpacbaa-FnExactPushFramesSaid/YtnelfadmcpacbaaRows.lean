/-
  No cell of these rows narrows 'for every input' (looked for: loops, veiled, ifaces, maps, wideKeys, modest, calm, conditions, laid).
  DERIVED. THE GIVEN ROWS OF THIS SEAT. 7 by the template 'for every input the law returns true; each argument reads behind the call as it read before'; 0 by the template 'total and deterministic' (their statements: YtnelfadmcpacbaaTotals.lean).
  GIVEN WITH THE SEED: the statements are not yours to turn. If you find one false, say at which input.
  Laid BY PROGRAM, IN A SANDBOX (cutbox-rows.mjs): the forced cells as the released guide's own fill.sh prints them over the translation 2a53f0aff46c8956… (all of the seat's roots in one cut). By AI agents, Wed Nov 11 2026. No macro, syntax, notation, axiom, sorry.
-/
import Derived.Test.YtnelfadmcpacbaaChecked
import GoSem.Claim
import GoSem.ClaimJoined
import GoSem.ClaimMapViews
import Derived.JoinedTies
import Derived.KernelRfl
namespace Go.Proofs.Ytnelfadmcpacbaa
/- THE CELL 'sum', in the pinned program and in every row, IS THE sha256 OF THE DUMP (.gsa) THAT YtnelfadmcpacbaaProg.lean LOADS. Nothing in Lean hashes anything: it is a label: what it is worth is what the hold of that sum in a sandbox is worth. -/
noncomputable def Try.pinned : Pinned := { name := "ytnelfadmcpacbaa", sum := "2a53f0aff46c8956d2d5920730b5ed7bb145f50b058f8d06fe11a1f29e05e665", checked := Try.checked }
namespace Rows
def none {H : Type} : Left H := { results := [], args := [] }

/-- 'laws.FnExactPackerOk': WHATEVER THE INPUT: true; the input reads as it did. -/
def fnExactPackerOkSpec : ChangeSpec := { name := "fnExactPackerOk", fn := fun _ => fun
  | [d] => { results := [.lit (.bool true)], args := [d] }
  | _ => none }
def fnExactPackerOkRow : OpenClaim := { program := "ytnelfadmcpacbaa", sum := "2a53f0aff46c8956d2d5920730b5ed7bb145f50b058f8d06fe11a1f29e05e665", func := "loop.example/g03316/laws.FnExactPackerOk", spec := "fnExactPackerOk", apart := false }
def FnExactPackerOkSaid : Prop := fnExactPackerOkRow.holds Try.pinned (OpenSpec.ofChange fnExactPackerOkSpec)

/-- ITS FALSE NEIGHBOUR: 'it returns false'. Refute it at one input. -/
def fnExactPackerOkWrong : ChangeSpec := { name := "fnExactPackerOk", fn := fun _ => fun
  | [d] => { results := [.lit (.bool false)], args := [d] }
  | _ => none }
def FnExactPackerOkWrongFalsely : Prop := fnExactPackerOkRow.holds Try.pinned (OpenSpec.ofChange fnExactPackerOkWrong)

/-- 'laws.FnExactPackPacket': WHATEVER THE INPUT: true; the input reads as it did. -/
def fnExactPackPacketSpec : ChangeSpec := { name := "fnExactPackPacket", fn := fun _ => fun
  | [d1, d2] => { results := [.lit (.bool true)], args := [d1, d2] }
  | _ => none }
def fnExactPackPacketRow : OpenClaim := { program := "ytnelfadmcpacbaa", sum := "2a53f0aff46c8956d2d5920730b5ed7bb145f50b058f8d06fe11a1f29e05e665", func := "loop.example/g03316/laws.FnExactPackPacket", spec := "fnExactPackPacket", apart := false }
def FnExactPackPacketSaid : Prop := fnExactPackPacketRow.holds Try.pinned (OpenSpec.ofChange fnExactPackPacketSpec)

/-- ITS FALSE NEIGHBOUR: 'it returns false'. Refute it at one input. -/
def fnExactPackPacketWrong : ChangeSpec := { name := "fnExactPackPacket", fn := fun _ => fun
  | [d1, d2] => { results := [.lit (.bool false)], args := [d1, d2] }
  | _ => none }
def FnExactPackPacketWrongFalsely : Prop := fnExactPackPacketRow.holds Try.pinned (OpenSpec.ofChange fnExactPackPacketWrong)

/-- 'laws.FnExactTakeFrame': WHATEVER THE INPUT: true; the input reads as it did. -/
def fnExactTakeFrameSpec : ChangeSpec := { name := "fnExactTakeFrame", fn := fun _ => fun
  | [d] => { results := [.lit (.bool true)], args := [d] }
  | _ => none }
def fnExactTakeFrameRow : OpenClaim := { program := "ytnelfadmcpacbaa", sum := "2a53f0aff46c8956d2d5920730b5ed7bb145f50b058f8d06fe11a1f29e05e665", func := "loop.example/g03316/laws.FnExactTakeFrame", spec := "fnExactTakeFrame", apart := false }
def FnExactTakeFrameSaid : Prop := fnExactTakeFrameRow.holds Try.pinned (OpenSpec.ofChange fnExactTakeFrameSpec)

/-- ITS FALSE NEIGHBOUR: 'it returns false'. Refute it at one input. -/
def fnExactTakeFrameWrong : ChangeSpec := { name := "fnExactTakeFrame", fn := fun _ => fun
  | [d] => { results := [.lit (.bool false)], args := [d] }
  | _ => none }
def FnExactTakeFrameWrongFalsely : Prop := fnExactTakeFrameRow.holds Try.pinned (OpenSpec.ofChange fnExactTakeFrameWrong)

/-- 'laws.FnExactTakeFrames': WHATEVER THE INPUT: true; the input reads as it did. -/
def fnExactTakeFramesSpec : ChangeSpec := { name := "fnExactTakeFrames", fn := fun _ => fun
  | [d] => { results := [.lit (.bool true)], args := [d] }
  | _ => none }
def fnExactTakeFramesRow : OpenClaim := { program := "ytnelfadmcpacbaa", sum := "2a53f0aff46c8956d2d5920730b5ed7bb145f50b058f8d06fe11a1f29e05e665", func := "loop.example/g03316/laws.FnExactTakeFrames", spec := "fnExactTakeFrames", apart := false }
def FnExactTakeFramesSaid : Prop := fnExactTakeFramesRow.holds Try.pinned (OpenSpec.ofChange fnExactTakeFramesSpec)

/-- ITS FALSE NEIGHBOUR: 'it returns false'. Refute it at one input. -/
def fnExactTakeFramesWrong : ChangeSpec := { name := "fnExactTakeFrames", fn := fun _ => fun
  | [d] => { results := [.lit (.bool false)], args := [d] }
  | _ => none }
def FnExactTakeFramesWrongFalsely : Prop := fnExactTakeFramesRow.holds Try.pinned (OpenSpec.ofChange fnExactTakeFramesWrong)

/-- 'laws.FnExactPushFrame': WHATEVER THE INPUT: true; the input reads as it did. -/
def fnExactPushFrameSpec : ChangeSpec := { name := "fnExactPushFrame", fn := fun _ => fun
  | [d1, d2] => { results := [.lit (.bool true)], args := [d1, d2] }
  | _ => none }
def fnExactPushFrameRow : OpenClaim := { program := "ytnelfadmcpacbaa", sum := "2a53f0aff46c8956d2d5920730b5ed7bb145f50b058f8d06fe11a1f29e05e665", func := "loop.example/g03316/laws.FnExactPushFrame", spec := "fnExactPushFrame", apart := false }
def FnExactPushFrameSaid : Prop := fnExactPushFrameRow.holds Try.pinned (OpenSpec.ofChange fnExactPushFrameSpec)

/-- ITS FALSE NEIGHBOUR: 'it returns false'. Refute it at one input. -/
def fnExactPushFrameWrong : ChangeSpec := { name := "fnExactPushFrame", fn := fun _ => fun
  | [d1, d2] => { results := [.lit (.bool false)], args := [d1, d2] }
  | _ => none }
def FnExactPushFrameWrongFalsely : Prop := fnExactPushFrameRow.holds Try.pinned (OpenSpec.ofChange fnExactPushFrameWrong)

/-- 'laws.FnExactPushFrames': WHATEVER THE INPUT: true; the input reads as it did. -/
def fnExactPushFramesSpec : ChangeSpec := { name := "fnExactPushFrames", fn := fun _ => fun
  | [d1, d2] => { results := [.lit (.bool true)], args := [d1, d2] }
  | _ => none }
def fnExactPushFramesRow : OpenClaim := { program := "ytnelfadmcpacbaa", sum := "2a53f0aff46c8956d2d5920730b5ed7bb145f50b058f8d06fe11a1f29e05e665", func := "loop.example/g03316/laws.FnExactPushFrames", spec := "fnExactPushFrames", apart := false }
def FnExactPushFramesSaid : Prop := fnExactPushFramesRow.holds Try.pinned (OpenSpec.ofChange fnExactPushFramesSpec)

/-- ITS FALSE NEIGHBOUR: 'it returns false'. Refute it at one input. -/
def fnExactPushFramesWrong : ChangeSpec := { name := "fnExactPushFrames", fn := fun _ => fun
  | [d1, d2] => { results := [.lit (.bool false)], args := [d1, d2] }
  | _ => none }
def FnExactPushFramesWrongFalsely : Prop := fnExactPushFramesRow.holds Try.pinned (OpenSpec.ofChange fnExactPushFramesWrong)

/-- 'laws.FnWords': WHATEVER THE INPUT: true; the input reads as it did. -/
def fnWordsSpec : ChangeSpec := { name := "fnWords", fn := fun _ => fun
  | [d] => { results := [.lit (.bool true)], args := [d] }
  | _ => none }
def fnWordsRow : OpenClaim := { program := "ytnelfadmcpacbaa", sum := "2a53f0aff46c8956d2d5920730b5ed7bb145f50b058f8d06fe11a1f29e05e665", func := "loop.example/g03316/laws.FnWords", spec := "fnWords", apart := false }
def FnWordsSaid : Prop := fnWordsRow.holds Try.pinned (OpenSpec.ofChange fnWordsSpec)

/-- ITS FALSE NEIGHBOUR: 'it returns false'. Refute it at one input. -/
def fnWordsWrong : ChangeSpec := { name := "fnWords", fn := fun _ => fun
  | [d] => { results := [.lit (.bool false)], args := [d] }
  | _ => none }
def FnWordsWrongFalsely : Prop := fnWordsRow.holds Try.pinned (OpenSpec.ofChange fnWordsWrong)

/- THE SECOND FORM. 'bulk': how many values and letters a reading holds, each counted each time it is reached (what is shared counts as often as it is met; a slice's spare places count too). A statement '..UptoSaid' is the law's where the arguments, and the package variables that the reading takes, are together of bulk at most 1048576: NARROWER than '..Said'. Prove '..Said' where nothing that the law and all that it calls make is longer than what came in: it says more and counts as full. Else prove '..UptoSaid'. A law counts once. -/
mutual
def uptoBulk {H : Type} : DataW H → Nat
  | .lit (.string bytes) => bytes.length + 1
  | .lit _ => 1
  | .nil => 1
  | .ptr d => uptoBulk d + 1
  | .slice elems spare => uptoBulkAll elems + uptoBulkAll spare + 1
  | .agg parts => uptoBulkAll parts + 1
  | .iface _ d => uptoBulk d + 1
  | .map entries => uptoBulkEntries entries + 1
  | .held _ => 1
def uptoBulkAll {H : Type} : List (DataW H) → Nat
  | [] => 0
  | d :: r => uptoBulk d + uptoBulkAll r
def uptoBulkEntries {H : Type} : List (Lit × DataW H) → Nat
  | [] => 0
  | x :: r => uptoBulkEntry x + uptoBulkEntries r
def uptoBulkEntry {H : Type} : Lit × DataW H → Nat
  | (.string bytes, d) => bytes.length + uptoBulk d + 1
  | (_, d) => uptoBulk d + 1
 end
def uptoSmall : (H : Type) → List (DataW H) → Bool := fun _ ds => decide (uptoBulkAll ds ≤ 1048576)
def OpenSpec.upto (s : _root_.Go.ChangeSpec) : _root_.Go.OpenSpec := { _root_.Go.OpenSpec.ofChange s with cond := some uptoSmall }

/-- 'laws.FnExactPackerOk', WHERE WHAT IT READS IS OF BULK AT MOST 1048576: true; the input reads as it did. -/
def fnExactPackerOkUptoRow : OpenClaim := { program := "ytnelfadmcpacbaa", sum := "2a53f0aff46c8956d2d5920730b5ed7bb145f50b058f8d06fe11a1f29e05e665", func := "loop.example/g03316/laws.FnExactPackerOk", spec := "fnExactPackerOk", apart := false, narrowed := true }
def FnExactPackerOkUptoSaid : Prop := fnExactPackerOkUptoRow.holds Try.pinned (OpenSpec.upto fnExactPackerOkSpec)

/-- 'laws.FnExactPackPacket', WHERE WHAT IT READS IS OF BULK AT MOST 1048576: true; the input reads as it did. -/
def fnExactPackPacketUptoRow : OpenClaim := { program := "ytnelfadmcpacbaa", sum := "2a53f0aff46c8956d2d5920730b5ed7bb145f50b058f8d06fe11a1f29e05e665", func := "loop.example/g03316/laws.FnExactPackPacket", spec := "fnExactPackPacket", apart := false, narrowed := true }
def FnExactPackPacketUptoSaid : Prop := fnExactPackPacketUptoRow.holds Try.pinned (OpenSpec.upto fnExactPackPacketSpec)

/-- 'laws.FnExactTakeFrame', WHERE WHAT IT READS IS OF BULK AT MOST 1048576: true; the input reads as it did. -/
def fnExactTakeFrameUptoRow : OpenClaim := { program := "ytnelfadmcpacbaa", sum := "2a53f0aff46c8956d2d5920730b5ed7bb145f50b058f8d06fe11a1f29e05e665", func := "loop.example/g03316/laws.FnExactTakeFrame", spec := "fnExactTakeFrame", apart := false, narrowed := true }
def FnExactTakeFrameUptoSaid : Prop := fnExactTakeFrameUptoRow.holds Try.pinned (OpenSpec.upto fnExactTakeFrameSpec)

/-- 'laws.FnExactTakeFrames', WHERE WHAT IT READS IS OF BULK AT MOST 1048576: true; the input reads as it did. -/
def fnExactTakeFramesUptoRow : OpenClaim := { program := "ytnelfadmcpacbaa", sum := "2a53f0aff46c8956d2d5920730b5ed7bb145f50b058f8d06fe11a1f29e05e665", func := "loop.example/g03316/laws.FnExactTakeFrames", spec := "fnExactTakeFrames", apart := false, narrowed := true }
def FnExactTakeFramesUptoSaid : Prop := fnExactTakeFramesUptoRow.holds Try.pinned (OpenSpec.upto fnExactTakeFramesSpec)

/-- 'laws.FnExactPushFrame', WHERE WHAT IT READS IS OF BULK AT MOST 1048576: true; the input reads as it did. -/
def fnExactPushFrameUptoRow : OpenClaim := { program := "ytnelfadmcpacbaa", sum := "2a53f0aff46c8956d2d5920730b5ed7bb145f50b058f8d06fe11a1f29e05e665", func := "loop.example/g03316/laws.FnExactPushFrame", spec := "fnExactPushFrame", apart := false, narrowed := true }
def FnExactPushFrameUptoSaid : Prop := fnExactPushFrameUptoRow.holds Try.pinned (OpenSpec.upto fnExactPushFrameSpec)

/-- 'laws.FnExactPushFrames', WHERE WHAT IT READS IS OF BULK AT MOST 1048576: true; the input reads as it did. -/
def fnExactPushFramesUptoRow : OpenClaim := { program := "ytnelfadmcpacbaa", sum := "2a53f0aff46c8956d2d5920730b5ed7bb145f50b058f8d06fe11a1f29e05e665", func := "loop.example/g03316/laws.FnExactPushFrames", spec := "fnExactPushFrames", apart := false, narrowed := true }
def FnExactPushFramesUptoSaid : Prop := fnExactPushFramesUptoRow.holds Try.pinned (OpenSpec.upto fnExactPushFramesSpec)

/-- 'laws.FnWords', WHERE WHAT IT READS IS OF BULK AT MOST 1048576: true; the input reads as it did. -/
def fnWordsUptoRow : OpenClaim := { program := "ytnelfadmcpacbaa", sum := "2a53f0aff46c8956d2d5920730b5ed7bb145f50b058f8d06fe11a1f29e05e665", func := "loop.example/g03316/laws.FnWords", spec := "fnWords", apart := false, narrowed := true }
def FnWordsUptoSaid : Prop := fnWordsUptoRow.holds Try.pinned (OpenSpec.upto fnWordsSpec)

end Rows
end Go.Proofs.Ytnelfadmcpacbaa
