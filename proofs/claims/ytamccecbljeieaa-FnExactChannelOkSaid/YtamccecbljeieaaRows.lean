/-
  No cell of these rows narrows 'for every input' (looked for: loops, veiled, ifaces, maps, wideKeys, modest, calm, conditions, laid).
  DERIVED. THE GIVEN ROWS OF THIS SEAT. 19 by the template 'for every input the law returns true; each argument reads behind the call as it read before'; 0 by the template 'total and deterministic' (their statements: YtamccecbljeieaaTotals.lean).
  GIVEN WITH THE SEED: the statements are not yours to turn. If you find one false, say at which input.
  Laid BY PROGRAM, IN A SANDBOX (cutbox-rows.mjs): the forced cells as the released guide's own fill.sh prints them over the translation aa1604849c644176… (all of the seat's roots in one cut). By AI agents, Wed Nov 11 2026. No macro, syntax, notation, axiom, sorry.
-/
import Derived.Test.YtamccecbljeieaaChecked
import GoSem.Claim
import GoSem.ClaimJoined
import GoSem.ClaimMapViews
import Derived.JoinedTies
import Derived.KernelRfl
namespace Go.Proofs.Ytamccecbljeieaa
/- THE CELL 'sum', in the pinned program and in every row, IS THE sha256 OF THE DUMP (.gsa) THAT YtamccecbljeieaaProg.lean LOADS. Nothing in Lean hashes anything: it is a label: what it is worth is what the hold of that sum in a sandbox is worth. -/
noncomputable def Try.pinned : Pinned := { name := "ytamccecbljeieaa", sum := "aa1604849c644176fe3a11643500c43774b132cbde7367c401bc574af9faa75d", checked := Try.checked }
namespace Rows
def none {H : Type} : Left H := { results := [], args := [] }

/-- 'laws.FnExactScramble': WHATEVER THE INPUT: true; the input reads as it did. -/
def fnExactScrambleSpec : ChangeSpec := { name := "fnExactScramble", fn := fun _ => fun
  | [d] => { results := [.lit (.bool true)], args := [d] }
  | _ => none }
def fnExactScrambleRow : OpenClaim := { program := "ytamccecbljeieaa", sum := "aa1604849c644176fe3a11643500c43774b132cbde7367c401bc574af9faa75d", func := "loop.example/g03316/laws.FnExactScramble", spec := "fnExactScramble", apart := false }
def FnExactScrambleSaid : Prop := fnExactScrambleRow.holds Try.pinned (OpenSpec.ofChange fnExactScrambleSpec)

/-- ITS FALSE NEIGHBOUR: 'it returns false'. Refute it at one input. -/
def fnExactScrambleWrong : ChangeSpec := { name := "fnExactScramble", fn := fun _ => fun
  | [d] => { results := [.lit (.bool false)], args := [d] }
  | _ => none }
def FnExactScrambleWrongFalsely : Prop := fnExactScrambleRow.holds Try.pinned (OpenSpec.ofChange fnExactScrambleWrong)

/-- 'laws.FnBursts': WHATEVER THE INPUT: true; the input reads as it did. -/
def fnBurstsSpec : ChangeSpec := { name := "fnBursts", fn := fun _ => fun
  | [d] => { results := [.lit (.bool true)], args := [d] }
  | _ => none }
def fnBurstsRow : OpenClaim := { program := "ytamccecbljeieaa", sum := "aa1604849c644176fe3a11643500c43774b132cbde7367c401bc574af9faa75d", func := "loop.example/g03316/laws.FnBursts", spec := "fnBursts", apart := false }
def FnBurstsSaid : Prop := fnBurstsRow.holds Try.pinned (OpenSpec.ofChange fnBurstsSpec)

/-- ITS FALSE NEIGHBOUR: 'it returns false'. Refute it at one input. -/
def fnBurstsWrong : ChangeSpec := { name := "fnBursts", fn := fun _ => fun
  | [d] => { results := [.lit (.bool false)], args := [d] }
  | _ => none }
def FnBurstsWrongFalsely : Prop := fnBurstsRow.holds Try.pinned (OpenSpec.ofChange fnBurstsWrong)

/-- 'laws.FnExactGatherBits': WHATEVER THE INPUT: true; the input reads as it did. -/
def fnExactGatherBitsSpec : ChangeSpec := { name := "fnExactGatherBits", fn := fun _ => fun
  | [d] => { results := [.lit (.bool true)], args := [d] }
  | _ => none }
def fnExactGatherBitsRow : OpenClaim := { program := "ytamccecbljeieaa", sum := "aa1604849c644176fe3a11643500c43774b132cbde7367c401bc574af9faa75d", func := "loop.example/g03316/laws.FnExactGatherBits", spec := "fnExactGatherBits", apart := false }
def FnExactGatherBitsSaid : Prop := fnExactGatherBitsRow.holds Try.pinned (OpenSpec.ofChange fnExactGatherBitsSpec)

/-- ITS FALSE NEIGHBOUR: 'it returns false'. Refute it at one input. -/
def fnExactGatherBitsWrong : ChangeSpec := { name := "fnExactGatherBits", fn := fun _ => fun
  | [d] => { results := [.lit (.bool false)], args := [d] }
  | _ => none }
def FnExactGatherBitsWrongFalsely : Prop := fnExactGatherBitsRow.holds Try.pinned (OpenSpec.ofChange fnExactGatherBitsWrong)

/-- 'laws.FnExactSpreadBits': WHATEVER THE INPUT: true; the input reads as it did. -/
def fnExactSpreadBitsSpec : ChangeSpec := { name := "fnExactSpreadBits", fn := fun _ => fun
  | [d] => { results := [.lit (.bool true)], args := [d] }
  | _ => none }
def fnExactSpreadBitsRow : OpenClaim := { program := "ytamccecbljeieaa", sum := "aa1604849c644176fe3a11643500c43774b132cbde7367c401bc574af9faa75d", func := "loop.example/g03316/laws.FnExactSpreadBits", spec := "fnExactSpreadBits", apart := false }
def FnExactSpreadBitsSaid : Prop := fnExactSpreadBitsRow.holds Try.pinned (OpenSpec.ofChange fnExactSpreadBitsSpec)

/-- ITS FALSE NEIGHBOUR: 'it returns false'. Refute it at one input. -/
def fnExactSpreadBitsWrong : ChangeSpec := { name := "fnExactSpreadBits", fn := fun _ => fun
  | [d] => { results := [.lit (.bool false)], args := [d] }
  | _ => none }
def FnExactSpreadBitsWrongFalsely : Prop := fnExactSpreadBitsRow.holds Try.pinned (OpenSpec.ofChange fnExactSpreadBitsWrong)

/-- 'laws.FnExactEncodeNibble': WHATEVER THE INPUT: true; the input reads as it did. -/
def fnExactEncodeNibbleSpec : ChangeSpec := { name := "fnExactEncodeNibble", fn := fun _ => fun
  | [d] => { results := [.lit (.bool true)], args := [d] }
  | _ => none }
def fnExactEncodeNibbleRow : OpenClaim := { program := "ytamccecbljeieaa", sum := "aa1604849c644176fe3a11643500c43774b132cbde7367c401bc574af9faa75d", func := "loop.example/g03316/laws.FnExactEncodeNibble", spec := "fnExactEncodeNibble", apart := false }
def FnExactEncodeNibbleSaid : Prop := fnExactEncodeNibbleRow.holds Try.pinned (OpenSpec.ofChange fnExactEncodeNibbleSpec)

/-- ITS FALSE NEIGHBOUR: 'it returns false'. Refute it at one input. -/
def fnExactEncodeNibbleWrong : ChangeSpec := { name := "fnExactEncodeNibble", fn := fun _ => fun
  | [d] => { results := [.lit (.bool false)], args := [d] }
  | _ => none }
def FnExactEncodeNibbleWrongFalsely : Prop := fnExactEncodeNibbleRow.holds Try.pinned (OpenSpec.ofChange fnExactEncodeNibbleWrong)

/-- 'laws.FnCodeWords': WHATEVER THE INPUT: true; the input reads as it did. -/
def fnCodeWordsSpec : ChangeSpec := { name := "fnCodeWords", fn := fun _ => fun
  | [d] => { results := [.lit (.bool true)], args := [d] }
  | _ => none }
def fnCodeWordsRow : OpenClaim := { program := "ytamccecbljeieaa", sum := "aa1604849c644176fe3a11643500c43774b132cbde7367c401bc574af9faa75d", func := "loop.example/g03316/laws.FnCodeWords", spec := "fnCodeWords", apart := false }
def FnCodeWordsSaid : Prop := fnCodeWordsRow.holds Try.pinned (OpenSpec.ofChange fnCodeWordsSpec)

/-- ITS FALSE NEIGHBOUR: 'it returns false'. Refute it at one input. -/
def fnCodeWordsWrong : ChangeSpec := { name := "fnCodeWords", fn := fun _ => fun
  | [d] => { results := [.lit (.bool false)], args := [d] }
  | _ => none }
def FnCodeWordsWrongFalsely : Prop := fnCodeWordsRow.holds Try.pinned (OpenSpec.ofChange fnCodeWordsWrong)

/-- 'laws.FnExactEncodeBlock': WHATEVER THE INPUT: true; the input reads as it did. -/
def fnExactEncodeBlockSpec : ChangeSpec := { name := "fnExactEncodeBlock", fn := fun _ => fun
  | [d] => { results := [.lit (.bool true)], args := [d] }
  | _ => none }
def fnExactEncodeBlockRow : OpenClaim := { program := "ytamccecbljeieaa", sum := "aa1604849c644176fe3a11643500c43774b132cbde7367c401bc574af9faa75d", func := "loop.example/g03316/laws.FnExactEncodeBlock", spec := "fnExactEncodeBlock", apart := false }
def FnExactEncodeBlockSaid : Prop := fnExactEncodeBlockRow.holds Try.pinned (OpenSpec.ofChange fnExactEncodeBlockSpec)

/-- ITS FALSE NEIGHBOUR: 'it returns false'. Refute it at one input. -/
def fnExactEncodeBlockWrong : ChangeSpec := { name := "fnExactEncodeBlock", fn := fun _ => fun
  | [d] => { results := [.lit (.bool false)], args := [d] }
  | _ => none }
def FnExactEncodeBlockWrongFalsely : Prop := fnExactEncodeBlockRow.holds Try.pinned (OpenSpec.ofChange fnExactEncodeBlockWrong)

/-- 'laws.FnExactDecodeNibble': WHATEVER THE INPUT: true; the input reads as it did. -/
def fnExactDecodeNibbleSpec : ChangeSpec := { name := "fnExactDecodeNibble", fn := fun _ => fun
  | [d] => { results := [.lit (.bool true)], args := [d] }
  | _ => none }
def fnExactDecodeNibbleRow : OpenClaim := { program := "ytamccecbljeieaa", sum := "aa1604849c644176fe3a11643500c43774b132cbde7367c401bc574af9faa75d", func := "loop.example/g03316/laws.FnExactDecodeNibble", spec := "fnExactDecodeNibble", apart := false }
def FnExactDecodeNibbleSaid : Prop := fnExactDecodeNibbleRow.holds Try.pinned (OpenSpec.ofChange fnExactDecodeNibbleSpec)

/-- ITS FALSE NEIGHBOUR: 'it returns false'. Refute it at one input. -/
def fnExactDecodeNibbleWrong : ChangeSpec := { name := "fnExactDecodeNibble", fn := fun _ => fun
  | [d] => { results := [.lit (.bool false)], args := [d] }
  | _ => none }
def FnExactDecodeNibbleWrongFalsely : Prop := fnExactDecodeNibbleRow.holds Try.pinned (OpenSpec.ofChange fnExactDecodeNibbleWrong)

/-- 'laws.FnExactDecodeBlock': WHATEVER THE INPUT: true; the input reads as it did. -/
def fnExactDecodeBlockSpec : ChangeSpec := { name := "fnExactDecodeBlock", fn := fun _ => fun
  | [d] => { results := [.lit (.bool true)], args := [d] }
  | _ => none }
def fnExactDecodeBlockRow : OpenClaim := { program := "ytamccecbljeieaa", sum := "aa1604849c644176fe3a11643500c43774b132cbde7367c401bc574af9faa75d", func := "loop.example/g03316/laws.FnExactDecodeBlock", spec := "fnExactDecodeBlock", apart := false }
def FnExactDecodeBlockSaid : Prop := fnExactDecodeBlockRow.holds Try.pinned (OpenSpec.ofChange fnExactDecodeBlockSpec)

/-- ITS FALSE NEIGHBOUR: 'it returns false'. Refute it at one input. -/
def fnExactDecodeBlockWrong : ChangeSpec := { name := "fnExactDecodeBlock", fn := fun _ => fun
  | [d] => { results := [.lit (.bool false)], args := [d] }
  | _ => none }
def FnExactDecodeBlockWrongFalsely : Prop := fnExactDecodeBlockRow.holds Try.pinned (OpenSpec.ofChange fnExactDecodeBlockWrong)

/-- 'laws.FnExactMakeBlock': WHATEVER THE INPUT: true; the input reads as it did. -/
def fnExactMakeBlockSpec : ChangeSpec := { name := "fnExactMakeBlock", fn := fun _ => fun
  | [d] => { results := [.lit (.bool true)], args := [d] }
  | _ => none }
def fnExactMakeBlockRow : OpenClaim := { program := "ytamccecbljeieaa", sum := "aa1604849c644176fe3a11643500c43774b132cbde7367c401bc574af9faa75d", func := "loop.example/g03316/laws.FnExactMakeBlock", spec := "fnExactMakeBlock", apart := false }
def FnExactMakeBlockSaid : Prop := fnExactMakeBlockRow.holds Try.pinned (OpenSpec.ofChange fnExactMakeBlockSpec)

/-- ITS FALSE NEIGHBOUR: 'it returns false'. Refute it at one input. -/
def fnExactMakeBlockWrong : ChangeSpec := { name := "fnExactMakeBlock", fn := fun _ => fun
  | [d] => { results := [.lit (.bool false)], args := [d] }
  | _ => none }
def FnExactMakeBlockWrongFalsely : Prop := fnExactMakeBlockRow.holds Try.pinned (OpenSpec.ofChange fnExactMakeBlockWrong)

/-- 'laws.FnBitsBack': WHATEVER THE INPUT: true; the input reads as it did. -/
def fnBitsBackSpec : ChangeSpec := { name := "fnBitsBack", fn := fun _ => fun
  | [d] => { results := [.lit (.bool true)], args := [d] }
  | _ => none }
def fnBitsBackRow : OpenClaim := { program := "ytamccecbljeieaa", sum := "aa1604849c644176fe3a11643500c43774b132cbde7367c401bc574af9faa75d", func := "loop.example/g03316/laws.FnBitsBack", spec := "fnBitsBack", apart := false }
def FnBitsBackSaid : Prop := fnBitsBackRow.holds Try.pinned (OpenSpec.ofChange fnBitsBackSpec)

/-- ITS FALSE NEIGHBOUR: 'it returns false'. Refute it at one input. -/
def fnBitsBackWrong : ChangeSpec := { name := "fnBitsBack", fn := fun _ => fun
  | [d] => { results := [.lit (.bool false)], args := [d] }
  | _ => none }
def FnBitsBackWrongFalsely : Prop := fnBitsBackRow.holds Try.pinned (OpenSpec.ofChange fnBitsBackWrong)

/-- 'laws.FnExactReadBlock': WHATEVER THE INPUT: true; the input reads as it did. -/
def fnExactReadBlockSpec : ChangeSpec := { name := "fnExactReadBlock", fn := fun _ => fun
  | [d] => { results := [.lit (.bool true)], args := [d] }
  | _ => none }
def fnExactReadBlockRow : OpenClaim := { program := "ytamccecbljeieaa", sum := "aa1604849c644176fe3a11643500c43774b132cbde7367c401bc574af9faa75d", func := "loop.example/g03316/laws.FnExactReadBlock", spec := "fnExactReadBlock", apart := false }
def FnExactReadBlockSaid : Prop := fnExactReadBlockRow.holds Try.pinned (OpenSpec.ofChange fnExactReadBlockSpec)

/-- ITS FALSE NEIGHBOUR: 'it returns false'. Refute it at one input. -/
def fnExactReadBlockWrong : ChangeSpec := { name := "fnExactReadBlock", fn := fun _ => fun
  | [d] => { results := [.lit (.bool false)], args := [d] }
  | _ => none }
def FnExactReadBlockWrongFalsely : Prop := fnExactReadBlockRow.holds Try.pinned (OpenSpec.ofChange fnExactReadBlockWrong)

/-- 'laws.FnExactChannelOk': WHATEVER THE INPUT: true; the input reads as it did. -/
def fnExactChannelOkSpec : ChangeSpec := { name := "fnExactChannelOk", fn := fun _ => fun
  | [d] => { results := [.lit (.bool true)], args := [d] }
  | _ => none }
def fnExactChannelOkRow : OpenClaim := { program := "ytamccecbljeieaa", sum := "aa1604849c644176fe3a11643500c43774b132cbde7367c401bc574af9faa75d", func := "loop.example/g03316/laws.FnExactChannelOk", spec := "fnExactChannelOk", apart := false }
def FnExactChannelOkSaid : Prop := fnExactChannelOkRow.holds Try.pinned (OpenSpec.ofChange fnExactChannelOkSpec)

/-- ITS FALSE NEIGHBOUR: 'it returns false'. Refute it at one input. -/
def fnExactChannelOkWrong : ChangeSpec := { name := "fnExactChannelOk", fn := fun _ => fun
  | [d] => { results := [.lit (.bool false)], args := [d] }
  | _ => none }
def FnExactChannelOkWrongFalsely : Prop := fnExactChannelOkRow.holds Try.pinned (OpenSpec.ofChange fnExactChannelOkWrong)

/-- 'laws.FnExactBurstText': WHATEVER THE INPUT: true; the input reads as it did. -/
def fnExactBurstTextSpec : ChangeSpec := { name := "fnExactBurstText", fn := fun _ => fun
  | [d1, d2] => { results := [.lit (.bool true)], args := [d1, d2] }
  | _ => none }
def fnExactBurstTextRow : OpenClaim := { program := "ytamccecbljeieaa", sum := "aa1604849c644176fe3a11643500c43774b132cbde7367c401bc574af9faa75d", func := "loop.example/g03316/laws.FnExactBurstText", spec := "fnExactBurstText", apart := false }
def FnExactBurstTextSaid : Prop := fnExactBurstTextRow.holds Try.pinned (OpenSpec.ofChange fnExactBurstTextSpec)

/-- ITS FALSE NEIGHBOUR: 'it returns false'. Refute it at one input. -/
def fnExactBurstTextWrong : ChangeSpec := { name := "fnExactBurstText", fn := fun _ => fun
  | [d1, d2] => { results := [.lit (.bool false)], args := [d1, d2] }
  | _ => none }
def FnExactBurstTextWrongFalsely : Prop := fnExactBurstTextRow.holds Try.pinned (OpenSpec.ofChange fnExactBurstTextWrong)

/-- 'laws.FnExactFindBlocks': WHATEVER THE INPUT: true; the input reads as it did. -/
def fnExactFindBlocksSpec : ChangeSpec := { name := "fnExactFindBlocks", fn := fun _ => fun
  | [d1, d2] => { results := [.lit (.bool true)], args := [d1, d2] }
  | _ => none }
def fnExactFindBlocksRow : OpenClaim := { program := "ytamccecbljeieaa", sum := "aa1604849c644176fe3a11643500c43774b132cbde7367c401bc574af9faa75d", func := "loop.example/g03316/laws.FnExactFindBlocks", spec := "fnExactFindBlocks", apart := false }
def FnExactFindBlocksSaid : Prop := fnExactFindBlocksRow.holds Try.pinned (OpenSpec.ofChange fnExactFindBlocksSpec)

/-- ITS FALSE NEIGHBOUR: 'it returns false'. Refute it at one input. -/
def fnExactFindBlocksWrong : ChangeSpec := { name := "fnExactFindBlocks", fn := fun _ => fun
  | [d1, d2] => { results := [.lit (.bool false)], args := [d1, d2] }
  | _ => none }
def FnExactFindBlocksWrongFalsely : Prop := fnExactFindBlocksRow.holds Try.pinned (OpenSpec.ofChange fnExactFindBlocksWrong)

/-- 'laws.FnExactSendBlock': WHATEVER THE INPUT: true; the input reads as it did. -/
def fnExactSendBlockSpec : ChangeSpec := { name := "fnExactSendBlock", fn := fun _ => fun
  | [d1, d2] => { results := [.lit (.bool true)], args := [d1, d2] }
  | _ => none }
def fnExactSendBlockRow : OpenClaim := { program := "ytamccecbljeieaa", sum := "aa1604849c644176fe3a11643500c43774b132cbde7367c401bc574af9faa75d", func := "loop.example/g03316/laws.FnExactSendBlock", spec := "fnExactSendBlock", apart := false }
def FnExactSendBlockSaid : Prop := fnExactSendBlockRow.holds Try.pinned (OpenSpec.ofChange fnExactSendBlockSpec)

/-- ITS FALSE NEIGHBOUR: 'it returns false'. Refute it at one input. -/
def fnExactSendBlockWrong : ChangeSpec := { name := "fnExactSendBlock", fn := fun _ => fun
  | [d1, d2] => { results := [.lit (.bool false)], args := [d1, d2] }
  | _ => none }
def FnExactSendBlockWrongFalsely : Prop := fnExactSendBlockRow.holds Try.pinned (OpenSpec.ofChange fnExactSendBlockWrong)

/-- 'laws.FnStreams': WHATEVER THE INPUT: true; the input reads as it did. -/
def fnStreamsSpec : ChangeSpec := { name := "fnStreams", fn := fun _ => fun
  | [d] => { results := [.lit (.bool true)], args := [d] }
  | _ => none }
def fnStreamsRow : OpenClaim := { program := "ytamccecbljeieaa", sum := "aa1604849c644176fe3a11643500c43774b132cbde7367c401bc574af9faa75d", func := "loop.example/g03316/laws.FnStreams", spec := "fnStreams", apart := false }
def FnStreamsSaid : Prop := fnStreamsRow.holds Try.pinned (OpenSpec.ofChange fnStreamsSpec)

/-- ITS FALSE NEIGHBOUR: 'it returns false'. Refute it at one input. -/
def fnStreamsWrong : ChangeSpec := { name := "fnStreams", fn := fun _ => fun
  | [d] => { results := [.lit (.bool false)], args := [d] }
  | _ => none }
def FnStreamsWrongFalsely : Prop := fnStreamsRow.holds Try.pinned (OpenSpec.ofChange fnStreamsWrong)

/-- 'laws.FnChannels': WHATEVER THE INPUT: true; the input reads as it did. -/
def fnChannelsSpec : ChangeSpec := { name := "fnChannels", fn := fun _ => fun
  | [d] => { results := [.lit (.bool true)], args := [d] }
  | _ => none }
def fnChannelsRow : OpenClaim := { program := "ytamccecbljeieaa", sum := "aa1604849c644176fe3a11643500c43774b132cbde7367c401bc574af9faa75d", func := "loop.example/g03316/laws.FnChannels", spec := "fnChannels", apart := false }
def FnChannelsSaid : Prop := fnChannelsRow.holds Try.pinned (OpenSpec.ofChange fnChannelsSpec)

/-- ITS FALSE NEIGHBOUR: 'it returns false'. Refute it at one input. -/
def fnChannelsWrong : ChangeSpec := { name := "fnChannels", fn := fun _ => fun
  | [d] => { results := [.lit (.bool false)], args := [d] }
  | _ => none }
def FnChannelsWrongFalsely : Prop := fnChannelsRow.holds Try.pinned (OpenSpec.ofChange fnChannelsWrong)

/-- 'laws.FnExactBlocksOf': WHATEVER THE INPUT: true; the input reads as it did. -/
def fnExactBlocksOfSpec : ChangeSpec := { name := "fnExactBlocksOf", fn := fun _ => fun
  | [d1, d2] => { results := [.lit (.bool true)], args := [d1, d2] }
  | _ => none }
def fnExactBlocksOfRow : OpenClaim := { program := "ytamccecbljeieaa", sum := "aa1604849c644176fe3a11643500c43774b132cbde7367c401bc574af9faa75d", func := "loop.example/g03316/laws.FnExactBlocksOf", spec := "fnExactBlocksOf", apart := false }
def FnExactBlocksOfSaid : Prop := fnExactBlocksOfRow.holds Try.pinned (OpenSpec.ofChange fnExactBlocksOfSpec)

/-- ITS FALSE NEIGHBOUR: 'it returns false'. Refute it at one input. -/
def fnExactBlocksOfWrong : ChangeSpec := { name := "fnExactBlocksOf", fn := fun _ => fun
  | [d1, d2] => { results := [.lit (.bool false)], args := [d1, d2] }
  | _ => none }
def FnExactBlocksOfWrongFalsely : Prop := fnExactBlocksOfRow.holds Try.pinned (OpenSpec.ofChange fnExactBlocksOfWrong)

/- THE SECOND FORM. 'bulk': how many values and letters a reading holds, each counted each time it is reached (what is shared counts as often as it is met; a slice's spare places count too). A statement '..UptoSaid' is the law's where the arguments, and the package variables that the reading takes, are together of bulk at most 1048576: NARROWER than '..Said'. Prove '..Said' where nothing that the law and all that it calls make is longer than what came in: it says more and counts as full. Else prove '..UptoSaid'. A law counts once. -/
mutual
def uptoBulk {H : Type} : DataW H → Nat
  | .lit (.string bytes) => bytes.length + 1
  | .lit _ => 1
  | .nil => 1
  | .ptr d => uptoBulk d + 1
  | .slice elems spare => uptoBulkAll elems + uptoBulkAll spare + 1
  | .agg parts => uptoBulkAll parts + 1
  | .iface _ d => uptoBulk d + 1
  | .map entries => uptoBulkEntries entries + 1
  | .held _ => 1
def uptoBulkAll {H : Type} : List (DataW H) → Nat
  | [] => 0
  | d :: r => uptoBulk d + uptoBulkAll r
def uptoBulkEntries {H : Type} : List (Lit × DataW H) → Nat
  | [] => 0
  | x :: r => uptoBulkEntry x + uptoBulkEntries r
def uptoBulkEntry {H : Type} : Lit × DataW H → Nat
  | (.string bytes, d) => bytes.length + uptoBulk d + 1
  | (_, d) => uptoBulk d + 1
 end
def uptoSmall : (H : Type) → List (DataW H) → Bool := fun _ ds => decide (uptoBulkAll ds ≤ 1048576)
def OpenSpec.upto (s : _root_.Go.ChangeSpec) : _root_.Go.OpenSpec := { _root_.Go.OpenSpec.ofChange s with cond := some uptoSmall }

/-- 'laws.FnExactScramble', WHERE WHAT IT READS IS OF BULK AT MOST 1048576: true; the input reads as it did. -/
def fnExactScrambleUptoRow : OpenClaim := { program := "ytamccecbljeieaa", sum := "aa1604849c644176fe3a11643500c43774b132cbde7367c401bc574af9faa75d", func := "loop.example/g03316/laws.FnExactScramble", spec := "fnExactScramble", apart := false, narrowed := true }
def FnExactScrambleUptoSaid : Prop := fnExactScrambleUptoRow.holds Try.pinned (OpenSpec.upto fnExactScrambleSpec)

/-- 'laws.FnBursts', WHERE WHAT IT READS IS OF BULK AT MOST 1048576: true; the input reads as it did. -/
def fnBurstsUptoRow : OpenClaim := { program := "ytamccecbljeieaa", sum := "aa1604849c644176fe3a11643500c43774b132cbde7367c401bc574af9faa75d", func := "loop.example/g03316/laws.FnBursts", spec := "fnBursts", apart := false, narrowed := true }
def FnBurstsUptoSaid : Prop := fnBurstsUptoRow.holds Try.pinned (OpenSpec.upto fnBurstsSpec)

/-- 'laws.FnExactGatherBits', WHERE WHAT IT READS IS OF BULK AT MOST 1048576: true; the input reads as it did. -/
def fnExactGatherBitsUptoRow : OpenClaim := { program := "ytamccecbljeieaa", sum := "aa1604849c644176fe3a11643500c43774b132cbde7367c401bc574af9faa75d", func := "loop.example/g03316/laws.FnExactGatherBits", spec := "fnExactGatherBits", apart := false, narrowed := true }
def FnExactGatherBitsUptoSaid : Prop := fnExactGatherBitsUptoRow.holds Try.pinned (OpenSpec.upto fnExactGatherBitsSpec)

/-- 'laws.FnExactSpreadBits', WHERE WHAT IT READS IS OF BULK AT MOST 1048576: true; the input reads as it did. -/
def fnExactSpreadBitsUptoRow : OpenClaim := { program := "ytamccecbljeieaa", sum := "aa1604849c644176fe3a11643500c43774b132cbde7367c401bc574af9faa75d", func := "loop.example/g03316/laws.FnExactSpreadBits", spec := "fnExactSpreadBits", apart := false, narrowed := true }
def FnExactSpreadBitsUptoSaid : Prop := fnExactSpreadBitsUptoRow.holds Try.pinned (OpenSpec.upto fnExactSpreadBitsSpec)

/-- 'laws.FnExactEncodeNibble', WHERE WHAT IT READS IS OF BULK AT MOST 1048576: true; the input reads as it did. -/
def fnExactEncodeNibbleUptoRow : OpenClaim := { program := "ytamccecbljeieaa", sum := "aa1604849c644176fe3a11643500c43774b132cbde7367c401bc574af9faa75d", func := "loop.example/g03316/laws.FnExactEncodeNibble", spec := "fnExactEncodeNibble", apart := false, narrowed := true }
def FnExactEncodeNibbleUptoSaid : Prop := fnExactEncodeNibbleUptoRow.holds Try.pinned (OpenSpec.upto fnExactEncodeNibbleSpec)

/-- 'laws.FnCodeWords', WHERE WHAT IT READS IS OF BULK AT MOST 1048576: true; the input reads as it did. -/
def fnCodeWordsUptoRow : OpenClaim := { program := "ytamccecbljeieaa", sum := "aa1604849c644176fe3a11643500c43774b132cbde7367c401bc574af9faa75d", func := "loop.example/g03316/laws.FnCodeWords", spec := "fnCodeWords", apart := false, narrowed := true }
def FnCodeWordsUptoSaid : Prop := fnCodeWordsUptoRow.holds Try.pinned (OpenSpec.upto fnCodeWordsSpec)

/-- 'laws.FnExactEncodeBlock', WHERE WHAT IT READS IS OF BULK AT MOST 1048576: true; the input reads as it did. -/
def fnExactEncodeBlockUptoRow : OpenClaim := { program := "ytamccecbljeieaa", sum := "aa1604849c644176fe3a11643500c43774b132cbde7367c401bc574af9faa75d", func := "loop.example/g03316/laws.FnExactEncodeBlock", spec := "fnExactEncodeBlock", apart := false, narrowed := true }
def FnExactEncodeBlockUptoSaid : Prop := fnExactEncodeBlockUptoRow.holds Try.pinned (OpenSpec.upto fnExactEncodeBlockSpec)

/-- 'laws.FnExactDecodeNibble', WHERE WHAT IT READS IS OF BULK AT MOST 1048576: true; the input reads as it did. -/
def fnExactDecodeNibbleUptoRow : OpenClaim := { program := "ytamccecbljeieaa", sum := "aa1604849c644176fe3a11643500c43774b132cbde7367c401bc574af9faa75d", func := "loop.example/g03316/laws.FnExactDecodeNibble", spec := "fnExactDecodeNibble", apart := false, narrowed := true }
def FnExactDecodeNibbleUptoSaid : Prop := fnExactDecodeNibbleUptoRow.holds Try.pinned (OpenSpec.upto fnExactDecodeNibbleSpec)

/-- 'laws.FnExactDecodeBlock', WHERE WHAT IT READS IS OF BULK AT MOST 1048576: true; the input reads as it did. -/
def fnExactDecodeBlockUptoRow : OpenClaim := { program := "ytamccecbljeieaa", sum := "aa1604849c644176fe3a11643500c43774b132cbde7367c401bc574af9faa75d", func := "loop.example/g03316/laws.FnExactDecodeBlock", spec := "fnExactDecodeBlock", apart := false, narrowed := true }
def FnExactDecodeBlockUptoSaid : Prop := fnExactDecodeBlockUptoRow.holds Try.pinned (OpenSpec.upto fnExactDecodeBlockSpec)

/-- 'laws.FnExactMakeBlock', WHERE WHAT IT READS IS OF BULK AT MOST 1048576: true; the input reads as it did. -/
def fnExactMakeBlockUptoRow : OpenClaim := { program := "ytamccecbljeieaa", sum := "aa1604849c644176fe3a11643500c43774b132cbde7367c401bc574af9faa75d", func := "loop.example/g03316/laws.FnExactMakeBlock", spec := "fnExactMakeBlock", apart := false, narrowed := true }
def FnExactMakeBlockUptoSaid : Prop := fnExactMakeBlockUptoRow.holds Try.pinned (OpenSpec.upto fnExactMakeBlockSpec)

/-- 'laws.FnBitsBack', WHERE WHAT IT READS IS OF BULK AT MOST 1048576: true; the input reads as it did. -/
def fnBitsBackUptoRow : OpenClaim := { program := "ytamccecbljeieaa", sum := "aa1604849c644176fe3a11643500c43774b132cbde7367c401bc574af9faa75d", func := "loop.example/g03316/laws.FnBitsBack", spec := "fnBitsBack", apart := false, narrowed := true }
def FnBitsBackUptoSaid : Prop := fnBitsBackUptoRow.holds Try.pinned (OpenSpec.upto fnBitsBackSpec)

/-- 'laws.FnExactReadBlock', WHERE WHAT IT READS IS OF BULK AT MOST 1048576: true; the input reads as it did. -/
def fnExactReadBlockUptoRow : OpenClaim := { program := "ytamccecbljeieaa", sum := "aa1604849c644176fe3a11643500c43774b132cbde7367c401bc574af9faa75d", func := "loop.example/g03316/laws.FnExactReadBlock", spec := "fnExactReadBlock", apart := false, narrowed := true }
def FnExactReadBlockUptoSaid : Prop := fnExactReadBlockUptoRow.holds Try.pinned (OpenSpec.upto fnExactReadBlockSpec)

/-- 'laws.FnExactChannelOk', WHERE WHAT IT READS IS OF BULK AT MOST 1048576: true; the input reads as it did. -/
def fnExactChannelOkUptoRow : OpenClaim := { program := "ytamccecbljeieaa", sum := "aa1604849c644176fe3a11643500c43774b132cbde7367c401bc574af9faa75d", func := "loop.example/g03316/laws.FnExactChannelOk", spec := "fnExactChannelOk", apart := false, narrowed := true }
def FnExactChannelOkUptoSaid : Prop := fnExactChannelOkUptoRow.holds Try.pinned (OpenSpec.upto fnExactChannelOkSpec)

/-- 'laws.FnExactBurstText', WHERE WHAT IT READS IS OF BULK AT MOST 1048576: true; the input reads as it did. -/
def fnExactBurstTextUptoRow : OpenClaim := { program := "ytamccecbljeieaa", sum := "aa1604849c644176fe3a11643500c43774b132cbde7367c401bc574af9faa75d", func := "loop.example/g03316/laws.FnExactBurstText", spec := "fnExactBurstText", apart := false, narrowed := true }
def FnExactBurstTextUptoSaid : Prop := fnExactBurstTextUptoRow.holds Try.pinned (OpenSpec.upto fnExactBurstTextSpec)

/-- 'laws.FnExactFindBlocks', WHERE WHAT IT READS IS OF BULK AT MOST 1048576: true; the input reads as it did. -/
def fnExactFindBlocksUptoRow : OpenClaim := { program := "ytamccecbljeieaa", sum := "aa1604849c644176fe3a11643500c43774b132cbde7367c401bc574af9faa75d", func := "loop.example/g03316/laws.FnExactFindBlocks", spec := "fnExactFindBlocks", apart := false, narrowed := true }
def FnExactFindBlocksUptoSaid : Prop := fnExactFindBlocksUptoRow.holds Try.pinned (OpenSpec.upto fnExactFindBlocksSpec)

/-- 'laws.FnExactSendBlock', WHERE WHAT IT READS IS OF BULK AT MOST 1048576: true; the input reads as it did. -/
def fnExactSendBlockUptoRow : OpenClaim := { program := "ytamccecbljeieaa", sum := "aa1604849c644176fe3a11643500c43774b132cbde7367c401bc574af9faa75d", func := "loop.example/g03316/laws.FnExactSendBlock", spec := "fnExactSendBlock", apart := false, narrowed := true }
def FnExactSendBlockUptoSaid : Prop := fnExactSendBlockUptoRow.holds Try.pinned (OpenSpec.upto fnExactSendBlockSpec)

/-- 'laws.FnStreams', WHERE WHAT IT READS IS OF BULK AT MOST 1048576: true; the input reads as it did. -/
def fnStreamsUptoRow : OpenClaim := { program := "ytamccecbljeieaa", sum := "aa1604849c644176fe3a11643500c43774b132cbde7367c401bc574af9faa75d", func := "loop.example/g03316/laws.FnStreams", spec := "fnStreams", apart := false, narrowed := true }
def FnStreamsUptoSaid : Prop := fnStreamsUptoRow.holds Try.pinned (OpenSpec.upto fnStreamsSpec)

/-- 'laws.FnChannels', WHERE WHAT IT READS IS OF BULK AT MOST 1048576: true; the input reads as it did. -/
def fnChannelsUptoRow : OpenClaim := { program := "ytamccecbljeieaa", sum := "aa1604849c644176fe3a11643500c43774b132cbde7367c401bc574af9faa75d", func := "loop.example/g03316/laws.FnChannels", spec := "fnChannels", apart := false, narrowed := true }
def FnChannelsUptoSaid : Prop := fnChannelsUptoRow.holds Try.pinned (OpenSpec.upto fnChannelsSpec)

/-- 'laws.FnExactBlocksOf', WHERE WHAT IT READS IS OF BULK AT MOST 1048576: true; the input reads as it did. -/
def fnExactBlocksOfUptoRow : OpenClaim := { program := "ytamccecbljeieaa", sum := "aa1604849c644176fe3a11643500c43774b132cbde7367c401bc574af9faa75d", func := "loop.example/g03316/laws.FnExactBlocksOf", spec := "fnExactBlocksOf", apart := false, narrowed := true }
def FnExactBlocksOfUptoSaid : Prop := fnExactBlocksOfUptoRow.holds Try.pinned (OpenSpec.upto fnExactBlocksOfSpec)

end Rows
end Go.Proofs.Ytamccecbljeieaa
