/-
  No cell of these rows narrows 'for every input' (looked for: loops, veiled, ifaces, maps, wideKeys, modest, calm, conditions, laid).
  DERIVED. THE GIVEN ROWS OF THIS SEAT. 10 by the template 'for every input the law returns true; each argument reads behind the call as it read before'; 0 by the template 'total and deterministic' (their statements: YtkcbcdfhfepadaaTotals.lean).
  GIVEN WITH THE SEED: the statements are not yours to turn. If you find one false, say at which input.
  Laid BY PROGRAM, IN A SANDBOX (cutbox-rows.mjs): the forced cells as the released guide's own fill.sh prints them over the translation 56071094ecd720e6… (all of the seat's roots in one cut). By AI agents, Wed Nov 11 2026. No macro, syntax, notation, axiom, sorry.
-/
import Derived.Test.YtkcbcdfhfepadaaChecked
import GoSem.Claim
import GoSem.ClaimJoined
import GoSem.ClaimMapViews
import Derived.JoinedTies
import Derived.KernelRfl
namespace Go.Proofs.Ytkcbcdfhfepadaa
/- THE CELL 'sum', in the pinned program and in every row, IS THE sha256 OF THE DUMP (.gsa) THAT YtkcbcdfhfepadaaProg.lean LOADS. Nothing in Lean hashes anything: it is a label: what it is worth is what the hold of that sum in a sandbox is worth. -/
noncomputable def Try.pinned : Pinned := { name := "ytkcbcdfhfepadaa", sum := "56071094ecd720e696d06f4de25ba8e0989c0999b03513aa423247e2698b8616", checked := Try.checked }
namespace Rows
def none {H : Type} : Left H := { results := [], args := [] }

/-- 'laws.FnExactConstants': WHATEVER THE INPUT: true; the input reads as it did. -/
def fnExactConstantsSpec : ChangeSpec := { name := "fnExactConstants", fn := fun _ => fun
  | [] => { results := [.lit (.bool true)], args := [] }
  | _ => none }
def fnExactConstantsRow : OpenClaim := { program := "ytkcbcdfhfepadaa", sum := "56071094ecd720e696d06f4de25ba8e0989c0999b03513aa423247e2698b8616", func := "loop.example/serialpair/laws.FnExactConstants", spec := "fnExactConstants", apart := false }
def FnExactConstantsSaid : Prop := fnExactConstantsRow.holds Try.pinned (OpenSpec.ofChange fnExactConstantsSpec)

/-- ITS FALSE NEIGHBOUR: 'it returns false'. Refute it at one input. -/
def fnExactConstantsWrong : ChangeSpec := { name := "fnExactConstants", fn := fun _ => fun
  | [] => { results := [.lit (.bool false)], args := [] }
  | _ => none }
def FnExactConstantsWrongFalsely : Prop := fnExactConstantsRow.holds Try.pinned (OpenSpec.ofChange fnExactConstantsWrong)

/-- 'laws.FnExactFormatValid': WHATEVER THE INPUT: true; the input reads as it did. -/
def fnExactFormatValidSpec : ChangeSpec := { name := "fnExactFormatValid", fn := fun _ => fun
  | [d] => { results := [.lit (.bool true)], args := [d] }
  | _ => none }
def fnExactFormatValidRow : OpenClaim := { program := "ytkcbcdfhfepadaa", sum := "56071094ecd720e696d06f4de25ba8e0989c0999b03513aa423247e2698b8616", func := "loop.example/serialpair/laws.FnExactFormatValid", spec := "fnExactFormatValid", apart := false }
def FnExactFormatValidSaid : Prop := fnExactFormatValidRow.holds Try.pinned (OpenSpec.ofChange fnExactFormatValidSpec)

/-- ITS FALSE NEIGHBOUR: 'it returns false'. Refute it at one input. -/
def fnExactFormatValidWrong : ChangeSpec := { name := "fnExactFormatValid", fn := fun _ => fun
  | [d] => { results := [.lit (.bool false)], args := [d] }
  | _ => none }
def FnExactFormatValidWrongFalsely : Prop := fnExactFormatValidRow.holds Try.pinned (OpenSpec.ofChange fnExactFormatValidWrong)

/-- 'laws.FnExactDivisorFor': WHATEVER THE INPUT: true; the input reads as it did. -/
def fnExactDivisorForSpec : ChangeSpec := { name := "fnExactDivisorFor", fn := fun _ => fun
  | [d] => { results := [.lit (.bool true)], args := [d] }
  | _ => none }
def fnExactDivisorForRow : OpenClaim := { program := "ytkcbcdfhfepadaa", sum := "56071094ecd720e696d06f4de25ba8e0989c0999b03513aa423247e2698b8616", func := "loop.example/serialpair/laws.FnExactDivisorFor", spec := "fnExactDivisorFor", apart := false }
def FnExactDivisorForSaid : Prop := fnExactDivisorForRow.holds Try.pinned (OpenSpec.ofChange fnExactDivisorForSpec)

/-- ITS FALSE NEIGHBOUR: 'it returns false'. Refute it at one input. -/
def fnExactDivisorForWrong : ChangeSpec := { name := "fnExactDivisorFor", fn := fun _ => fun
  | [d] => { results := [.lit (.bool false)], args := [d] }
  | _ => none }
def FnExactDivisorForWrongFalsely : Prop := fnExactDivisorForRow.holds Try.pinned (OpenSpec.ofChange fnExactDivisorForWrong)

/-- 'laws.FnExactTriggerOf': WHATEVER THE INPUT: true; the input reads as it did. -/
def fnExactTriggerOfSpec : ChangeSpec := { name := "fnExactTriggerOf", fn := fun _ => fun
  | [d] => { results := [.lit (.bool true)], args := [d] }
  | _ => none }
def fnExactTriggerOfRow : OpenClaim := { program := "ytkcbcdfhfepadaa", sum := "56071094ecd720e696d06f4de25ba8e0989c0999b03513aa423247e2698b8616", func := "loop.example/serialpair/laws.FnExactTriggerOf", spec := "fnExactTriggerOf", apart := false }
def FnExactTriggerOfSaid : Prop := fnExactTriggerOfRow.holds Try.pinned (OpenSpec.ofChange fnExactTriggerOfSpec)

/-- ITS FALSE NEIGHBOUR: 'it returns false'. Refute it at one input. -/
def fnExactTriggerOfWrong : ChangeSpec := { name := "fnExactTriggerOf", fn := fun _ => fun
  | [d] => { results := [.lit (.bool false)], args := [d] }
  | _ => none }
def FnExactTriggerOfWrongFalsely : Prop := fnExactTriggerOfRow.holds Try.pinned (OpenSpec.ofChange fnExactTriggerOfWrong)

/-- 'laws.FnExactTriggerCode': WHATEVER THE INPUT: true; the input reads as it did. -/
def fnExactTriggerCodeSpec : ChangeSpec := { name := "fnExactTriggerCode", fn := fun _ => fun
  | [d] => { results := [.lit (.bool true)], args := [d] }
  | _ => none }
def fnExactTriggerCodeRow : OpenClaim := { program := "ytkcbcdfhfepadaa", sum := "56071094ecd720e696d06f4de25ba8e0989c0999b03513aa423247e2698b8616", func := "loop.example/serialpair/laws.FnExactTriggerCode", spec := "fnExactTriggerCode", apart := false }
def FnExactTriggerCodeSaid : Prop := fnExactTriggerCodeRow.holds Try.pinned (OpenSpec.ofChange fnExactTriggerCodeSpec)

/-- ITS FALSE NEIGHBOUR: 'it returns false'. Refute it at one input. -/
def fnExactTriggerCodeWrong : ChangeSpec := { name := "fnExactTriggerCode", fn := fun _ => fun
  | [d] => { results := [.lit (.bool false)], args := [d] }
  | _ => none }
def FnExactTriggerCodeWrongFalsely : Prop := fnExactTriggerCodeRow.holds Try.pinned (OpenSpec.ofChange fnExactTriggerCodeWrong)

/-- 'laws.FnExactIrqRank': WHATEVER THE INPUT: true; the input reads as it did. -/
def fnExactIrqRankSpec : ChangeSpec := { name := "fnExactIrqRank", fn := fun _ => fun
  | [d] => { results := [.lit (.bool true)], args := [d] }
  | _ => none }
def fnExactIrqRankRow : OpenClaim := { program := "ytkcbcdfhfepadaa", sum := "56071094ecd720e696d06f4de25ba8e0989c0999b03513aa423247e2698b8616", func := "loop.example/serialpair/laws.FnExactIrqRank", spec := "fnExactIrqRank", apart := false }
def FnExactIrqRankSaid : Prop := fnExactIrqRankRow.holds Try.pinned (OpenSpec.ofChange fnExactIrqRankSpec)

/-- ITS FALSE NEIGHBOUR: 'it returns false'. Refute it at one input. -/
def fnExactIrqRankWrong : ChangeSpec := { name := "fnExactIrqRank", fn := fun _ => fun
  | [d] => { results := [.lit (.bool false)], args := [d] }
  | _ => none }
def FnExactIrqRankWrongFalsely : Prop := fnExactIrqRankRow.holds Try.pinned (OpenSpec.ofChange fnExactIrqRankWrong)

/-- 'laws.FnExactIrqBit': WHATEVER THE INPUT: true; the input reads as it did. -/
def fnExactIrqBitSpec : ChangeSpec := { name := "fnExactIrqBit", fn := fun _ => fun
  | [d] => { results := [.lit (.bool true)], args := [d] }
  | _ => none }
def fnExactIrqBitRow : OpenClaim := { program := "ytkcbcdfhfepadaa", sum := "56071094ecd720e696d06f4de25ba8e0989c0999b03513aa423247e2698b8616", func := "loop.example/serialpair/laws.FnExactIrqBit", spec := "fnExactIrqBit", apart := false }
def FnExactIrqBitSaid : Prop := fnExactIrqBitRow.holds Try.pinned (OpenSpec.ofChange fnExactIrqBitSpec)

/-- ITS FALSE NEIGHBOUR: 'it returns false'. Refute it at one input. -/
def fnExactIrqBitWrong : ChangeSpec := { name := "fnExactIrqBit", fn := fun _ => fun
  | [d] => { results := [.lit (.bool false)], args := [d] }
  | _ => none }
def FnExactIrqBitWrongFalsely : Prop := fnExactIrqBitRow.holds Try.pinned (OpenSpec.ofChange fnExactIrqBitWrong)

/-- 'laws.FnExactFrameLength': WHATEVER THE INPUT: true; the input reads as it did. -/
def fnExactFrameLengthSpec : ChangeSpec := { name := "fnExactFrameLength", fn := fun _ => fun
  | [d] => { results := [.lit (.bool true)], args := [d] }
  | _ => none }
def fnExactFrameLengthRow : OpenClaim := { program := "ytkcbcdfhfepadaa", sum := "56071094ecd720e696d06f4de25ba8e0989c0999b03513aa423247e2698b8616", func := "loop.example/serialpair/laws.FnExactFrameLength", spec := "fnExactFrameLength", apart := false }
def FnExactFrameLengthSaid : Prop := fnExactFrameLengthRow.holds Try.pinned (OpenSpec.ofChange fnExactFrameLengthSpec)

/-- ITS FALSE NEIGHBOUR: 'it returns false'. Refute it at one input. -/
def fnExactFrameLengthWrong : ChangeSpec := { name := "fnExactFrameLength", fn := fun _ => fun
  | [d] => { results := [.lit (.bool false)], args := [d] }
  | _ => none }
def FnExactFrameLengthWrongFalsely : Prop := fnExactFrameLengthRow.holds Try.pinned (OpenSpec.ofChange fnExactFrameLengthWrong)

/-- 'laws.FnFormatPart': WHATEVER THE INPUT: true; the input reads as it did. -/
def fnFormatPartSpec : ChangeSpec := { name := "fnFormatPart", fn := fun _ => fun
  | [d] => { results := [.lit (.bool true)], args := [d] }
  | _ => none }
def fnFormatPartRow : OpenClaim := { program := "ytkcbcdfhfepadaa", sum := "56071094ecd720e696d06f4de25ba8e0989c0999b03513aa423247e2698b8616", func := "loop.example/serialpair/laws.FnFormatPart", spec := "fnFormatPart", apart := false }
def FnFormatPartSaid : Prop := fnFormatPartRow.holds Try.pinned (OpenSpec.ofChange fnFormatPartSpec)

/-- ITS FALSE NEIGHBOUR: 'it returns false'. Refute it at one input. -/
def fnFormatPartWrong : ChangeSpec := { name := "fnFormatPart", fn := fun _ => fun
  | [d] => { results := [.lit (.bool false)], args := [d] }
  | _ => none }
def FnFormatPartWrongFalsely : Prop := fnFormatPartRow.holds Try.pinned (OpenSpec.ofChange fnFormatPartWrong)

/-- 'laws.FnExactFormatByte': WHATEVER THE INPUT: true; the input reads as it did. -/
def fnExactFormatByteSpec : ChangeSpec := { name := "fnExactFormatByte", fn := fun _ => fun
  | [d] => { results := [.lit (.bool true)], args := [d] }
  | _ => none }
def fnExactFormatByteRow : OpenClaim := { program := "ytkcbcdfhfepadaa", sum := "56071094ecd720e696d06f4de25ba8e0989c0999b03513aa423247e2698b8616", func := "loop.example/serialpair/laws.FnExactFormatByte", spec := "fnExactFormatByte", apart := false }
def FnExactFormatByteSaid : Prop := fnExactFormatByteRow.holds Try.pinned (OpenSpec.ofChange fnExactFormatByteSpec)

/-- ITS FALSE NEIGHBOUR: 'it returns false'. Refute it at one input. -/
def fnExactFormatByteWrong : ChangeSpec := { name := "fnExactFormatByte", fn := fun _ => fun
  | [d] => { results := [.lit (.bool false)], args := [d] }
  | _ => none }
def FnExactFormatByteWrongFalsely : Prop := fnExactFormatByteRow.holds Try.pinned (OpenSpec.ofChange fnExactFormatByteWrong)

/- THE SECOND FORM. 'bulk': how many values and letters a reading holds, each counted each time it is reached (what is shared counts as often as it is met; a slice's spare places count too). A statement '..UptoSaid' is the law's where the arguments, and the package variables that the reading takes, are together of bulk at most 1048576: NARROWER than '..Said'. Prove '..Said' where nothing that the law and all that it calls make is longer than what came in: it says more and counts as full. Else prove '..UptoSaid'. A law counts once. -/
mutual
def uptoBulk {H : Type} : DataW H → Nat
  | .lit (.string bytes) => bytes.length + 1
  | .lit _ => 1
  | .nil => 1
  | .ptr d => uptoBulk d + 1
  | .slice elems spare => uptoBulkAll elems + uptoBulkAll spare + 1
  | .agg parts => uptoBulkAll parts + 1
  | .iface _ d => uptoBulk d + 1
  | .map entries => uptoBulkEntries entries + 1
  | .held _ => 1
def uptoBulkAll {H : Type} : List (DataW H) → Nat
  | [] => 0
  | d :: r => uptoBulk d + uptoBulkAll r
def uptoBulkEntries {H : Type} : List (Lit × DataW H) → Nat
  | [] => 0
  | x :: r => uptoBulkEntry x + uptoBulkEntries r
def uptoBulkEntry {H : Type} : Lit × DataW H → Nat
  | (.string bytes, d) => bytes.length + uptoBulk d + 1
  | (_, d) => uptoBulk d + 1
 end
def uptoSmall : (H : Type) → List (DataW H) → Bool := fun _ ds => decide (uptoBulkAll ds ≤ 1048576)
def OpenSpec.upto (s : _root_.Go.ChangeSpec) : _root_.Go.OpenSpec := { _root_.Go.OpenSpec.ofChange s with cond := some uptoSmall }

/-- 'laws.FnExactConstants', WHERE WHAT IT READS IS OF BULK AT MOST 1048576: true; the input reads as it did. -/
def fnExactConstantsUptoRow : OpenClaim := { program := "ytkcbcdfhfepadaa", sum := "56071094ecd720e696d06f4de25ba8e0989c0999b03513aa423247e2698b8616", func := "loop.example/serialpair/laws.FnExactConstants", spec := "fnExactConstants", apart := false, narrowed := true }
def FnExactConstantsUptoSaid : Prop := fnExactConstantsUptoRow.holds Try.pinned (OpenSpec.upto fnExactConstantsSpec)

/-- 'laws.FnExactFormatValid', WHERE WHAT IT READS IS OF BULK AT MOST 1048576: true; the input reads as it did. -/
def fnExactFormatValidUptoRow : OpenClaim := { program := "ytkcbcdfhfepadaa", sum := "56071094ecd720e696d06f4de25ba8e0989c0999b03513aa423247e2698b8616", func := "loop.example/serialpair/laws.FnExactFormatValid", spec := "fnExactFormatValid", apart := false, narrowed := true }
def FnExactFormatValidUptoSaid : Prop := fnExactFormatValidUptoRow.holds Try.pinned (OpenSpec.upto fnExactFormatValidSpec)

/-- 'laws.FnExactDivisorFor', WHERE WHAT IT READS IS OF BULK AT MOST 1048576: true; the input reads as it did. -/
def fnExactDivisorForUptoRow : OpenClaim := { program := "ytkcbcdfhfepadaa", sum := "56071094ecd720e696d06f4de25ba8e0989c0999b03513aa423247e2698b8616", func := "loop.example/serialpair/laws.FnExactDivisorFor", spec := "fnExactDivisorFor", apart := false, narrowed := true }
def FnExactDivisorForUptoSaid : Prop := fnExactDivisorForUptoRow.holds Try.pinned (OpenSpec.upto fnExactDivisorForSpec)

/-- 'laws.FnExactTriggerOf', WHERE WHAT IT READS IS OF BULK AT MOST 1048576: true; the input reads as it did. -/
def fnExactTriggerOfUptoRow : OpenClaim := { program := "ytkcbcdfhfepadaa", sum := "56071094ecd720e696d06f4de25ba8e0989c0999b03513aa423247e2698b8616", func := "loop.example/serialpair/laws.FnExactTriggerOf", spec := "fnExactTriggerOf", apart := false, narrowed := true }
def FnExactTriggerOfUptoSaid : Prop := fnExactTriggerOfUptoRow.holds Try.pinned (OpenSpec.upto fnExactTriggerOfSpec)

/-- 'laws.FnExactTriggerCode', WHERE WHAT IT READS IS OF BULK AT MOST 1048576: true; the input reads as it did. -/
def fnExactTriggerCodeUptoRow : OpenClaim := { program := "ytkcbcdfhfepadaa", sum := "56071094ecd720e696d06f4de25ba8e0989c0999b03513aa423247e2698b8616", func := "loop.example/serialpair/laws.FnExactTriggerCode", spec := "fnExactTriggerCode", apart := false, narrowed := true }
def FnExactTriggerCodeUptoSaid : Prop := fnExactTriggerCodeUptoRow.holds Try.pinned (OpenSpec.upto fnExactTriggerCodeSpec)

/-- 'laws.FnExactIrqRank', WHERE WHAT IT READS IS OF BULK AT MOST 1048576: true; the input reads as it did. -/
def fnExactIrqRankUptoRow : OpenClaim := { program := "ytkcbcdfhfepadaa", sum := "56071094ecd720e696d06f4de25ba8e0989c0999b03513aa423247e2698b8616", func := "loop.example/serialpair/laws.FnExactIrqRank", spec := "fnExactIrqRank", apart := false, narrowed := true }
def FnExactIrqRankUptoSaid : Prop := fnExactIrqRankUptoRow.holds Try.pinned (OpenSpec.upto fnExactIrqRankSpec)

/-- 'laws.FnExactIrqBit', WHERE WHAT IT READS IS OF BULK AT MOST 1048576: true; the input reads as it did. -/
def fnExactIrqBitUptoRow : OpenClaim := { program := "ytkcbcdfhfepadaa", sum := "56071094ecd720e696d06f4de25ba8e0989c0999b03513aa423247e2698b8616", func := "loop.example/serialpair/laws.FnExactIrqBit", spec := "fnExactIrqBit", apart := false, narrowed := true }
def FnExactIrqBitUptoSaid : Prop := fnExactIrqBitUptoRow.holds Try.pinned (OpenSpec.upto fnExactIrqBitSpec)

/-- 'laws.FnExactFrameLength', WHERE WHAT IT READS IS OF BULK AT MOST 1048576: true; the input reads as it did. -/
def fnExactFrameLengthUptoRow : OpenClaim := { program := "ytkcbcdfhfepadaa", sum := "56071094ecd720e696d06f4de25ba8e0989c0999b03513aa423247e2698b8616", func := "loop.example/serialpair/laws.FnExactFrameLength", spec := "fnExactFrameLength", apart := false, narrowed := true }
def FnExactFrameLengthUptoSaid : Prop := fnExactFrameLengthUptoRow.holds Try.pinned (OpenSpec.upto fnExactFrameLengthSpec)

/-- 'laws.FnFormatPart', WHERE WHAT IT READS IS OF BULK AT MOST 1048576: true; the input reads as it did. -/
def fnFormatPartUptoRow : OpenClaim := { program := "ytkcbcdfhfepadaa", sum := "56071094ecd720e696d06f4de25ba8e0989c0999b03513aa423247e2698b8616", func := "loop.example/serialpair/laws.FnFormatPart", spec := "fnFormatPart", apart := false, narrowed := true }
def FnFormatPartUptoSaid : Prop := fnFormatPartUptoRow.holds Try.pinned (OpenSpec.upto fnFormatPartSpec)

/-- 'laws.FnExactFormatByte', WHERE WHAT IT READS IS OF BULK AT MOST 1048576: true; the input reads as it did. -/
def fnExactFormatByteUptoRow : OpenClaim := { program := "ytkcbcdfhfepadaa", sum := "56071094ecd720e696d06f4de25ba8e0989c0999b03513aa423247e2698b8616", func := "loop.example/serialpair/laws.FnExactFormatByte", spec := "fnExactFormatByte", apart := false, narrowed := true }
def FnExactFormatByteUptoSaid : Prop := fnExactFormatByteUptoRow.holds Try.pinned (OpenSpec.upto fnExactFormatByteSpec)

end Rows
end Go.Proofs.Ytkcbcdfhfepadaa
