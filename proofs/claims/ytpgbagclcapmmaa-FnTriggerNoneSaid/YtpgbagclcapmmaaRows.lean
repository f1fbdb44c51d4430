/-
  No cell of these rows narrows 'for every input' (looked for: loops, veiled, ifaces, maps, wideKeys, modest, calm, conditions, laid).
  DERIVED. THE GIVEN ROWS OF THIS SEAT. 8 by the template 'for every input the law returns true; each argument reads behind the call as it read before'; 0 by the template 'total and deterministic' (their statements: YtpgbagclcapmmaaTotals.lean).
  GIVEN WITH THE SEED: the statements are not yours to turn. If you find one false, say at which input.
  Laid BY PROGRAM, IN A SANDBOX (cutbox-rows.mjs): the forced cells as the released guide's own fill.sh prints them over the translation 5befab3d49360631… (all of the seat's roots in one cut). By AI agents, Wed Nov 11 2026. No macro, syntax, notation, axiom, sorry.
-/
import Derived.Test.YtpgbagclcapmmaaChecked
import GoSem.Claim
import GoSem.ClaimJoined
import GoSem.ClaimMapViews
import Derived.JoinedTies
import Derived.KernelRfl
namespace Go.Proofs.Ytpgbagclcapmmaa
/- THE CELL 'sum', in the pinned program and in every row, IS THE sha256 OF THE DUMP (.gsa) THAT YtpgbagclcapmmaaProg.lean LOADS. Nothing in Lean hashes anything: it is a label: what it is worth is what the hold of that sum in a sandbox is worth. -/
noncomputable def Try.pinned : Pinned := { name := "ytpgbagclcapmmaa", sum := "5befab3d49360631b536c56352b36daa4d88f9000e8a9645f6ad419919143d58", checked := Try.checked }
namespace Rows
def none {H : Type} : Left H := { results := [], args := [] }

/-- 'laws.FnTriggerNone': WHATEVER THE INPUT: true; the input reads as it did. -/
def fnTriggerNoneSpec : ChangeSpec := { name := "fnTriggerNone", fn := fun _ => fun
  | [d] => { results := [.lit (.bool true)], args := [d] }
  | _ => none }
def fnTriggerNoneRow : OpenClaim := { program := "ytpgbagclcapmmaa", sum := "5befab3d49360631b536c56352b36daa4d88f9000e8a9645f6ad419919143d58", func := "loop.example/serialpair/laws.FnTriggerNone", spec := "fnTriggerNone", apart := false }
def FnTriggerNoneSaid : Prop := fnTriggerNoneRow.holds Try.pinned (OpenSpec.ofChange fnTriggerNoneSpec)

/-- ITS FALSE NEIGHBOUR: 'it returns false'. Refute it at one input. -/
def fnTriggerNoneWrong : ChangeSpec := { name := "fnTriggerNone", fn := fun _ => fun
  | [d] => { results := [.lit (.bool false)], args := [d] }
  | _ => none }
def FnTriggerNoneWrongFalsely : Prop := fnTriggerNoneRow.holds Try.pinned (OpenSpec.ofChange fnTriggerNoneWrong)

/-- 'laws.FnDivisor': WHATEVER THE INPUT: true; the input reads as it did. -/
def fnDivisorSpec : ChangeSpec := { name := "fnDivisor", fn := fun _ => fun
  | [d] => { results := [.lit (.bool true)], args := [d] }
  | _ => none }
def fnDivisorRow : OpenClaim := { program := "ytpgbagclcapmmaa", sum := "5befab3d49360631b536c56352b36daa4d88f9000e8a9645f6ad419919143d58", func := "loop.example/serialpair/laws.FnDivisor", spec := "fnDivisor", apart := false }
def FnDivisorSaid : Prop := fnDivisorRow.holds Try.pinned (OpenSpec.ofChange fnDivisorSpec)

/-- ITS FALSE NEIGHBOUR: 'it returns false'. Refute it at one input. -/
def fnDivisorWrong : ChangeSpec := { name := "fnDivisor", fn := fun _ => fun
  | [d] => { results := [.lit (.bool false)], args := [d] }
  | _ => none }
def FnDivisorWrongFalsely : Prop := fnDivisorRow.holds Try.pinned (OpenSpec.ofChange fnDivisorWrong)

/-- 'laws.FnDivisorLess': WHATEVER THE INPUT: true; the input reads as it did. -/
def fnDivisorLessSpec : ChangeSpec := { name := "fnDivisorLess", fn := fun _ => fun
  | [d] => { results := [.lit (.bool true)], args := [d] }
  | _ => none }
def fnDivisorLessRow : OpenClaim := { program := "ytpgbagclcapmmaa", sum := "5befab3d49360631b536c56352b36daa4d88f9000e8a9645f6ad419919143d58", func := "loop.example/serialpair/laws.FnDivisorLess", spec := "fnDivisorLess", apart := false }
def FnDivisorLessSaid : Prop := fnDivisorLessRow.holds Try.pinned (OpenSpec.ofChange fnDivisorLessSpec)

/-- ITS FALSE NEIGHBOUR: 'it returns false'. Refute it at one input. -/
def fnDivisorLessWrong : ChangeSpec := { name := "fnDivisorLess", fn := fun _ => fun
  | [d] => { results := [.lit (.bool false)], args := [d] }
  | _ => none }
def FnDivisorLessWrongFalsely : Prop := fnDivisorLessRow.holds Try.pinned (OpenSpec.ofChange fnDivisorLessWrong)

/-- 'laws.FnTriggerCode': WHATEVER THE INPUT: true; the input reads as it did. -/
def fnTriggerCodeSpec : ChangeSpec := { name := "fnTriggerCode", fn := fun _ => fun
  | [d] => { results := [.lit (.bool true)], args := [d] }
  | _ => none }
def fnTriggerCodeRow : OpenClaim := { program := "ytpgbagclcapmmaa", sum := "5befab3d49360631b536c56352b36daa4d88f9000e8a9645f6ad419919143d58", func := "loop.example/serialpair/laws.FnTriggerCode", spec := "fnTriggerCode", apart := false }
def FnTriggerCodeSaid : Prop := fnTriggerCodeRow.holds Try.pinned (OpenSpec.ofChange fnTriggerCodeSpec)

/-- ITS FALSE NEIGHBOUR: 'it returns false'. Refute it at one input. -/
def fnTriggerCodeWrong : ChangeSpec := { name := "fnTriggerCode", fn := fun _ => fun
  | [d] => { results := [.lit (.bool false)], args := [d] }
  | _ => none }
def FnTriggerCodeWrongFalsely : Prop := fnTriggerCodeRow.holds Try.pinned (OpenSpec.ofChange fnTriggerCodeWrong)

/-- 'laws.FnTrigger': WHATEVER THE INPUT: true; the input reads as it did. -/
def fnTriggerSpec : ChangeSpec := { name := "fnTrigger", fn := fun _ => fun
  | [d] => { results := [.lit (.bool true)], args := [d] }
  | _ => none }
def fnTriggerRow : OpenClaim := { program := "ytpgbagclcapmmaa", sum := "5befab3d49360631b536c56352b36daa4d88f9000e8a9645f6ad419919143d58", func := "loop.example/serialpair/laws.FnTrigger", spec := "fnTrigger", apart := false }
def FnTriggerSaid : Prop := fnTriggerRow.holds Try.pinned (OpenSpec.ofChange fnTriggerSpec)

/-- ITS FALSE NEIGHBOUR: 'it returns false'. Refute it at one input. -/
def fnTriggerWrong : ChangeSpec := { name := "fnTrigger", fn := fun _ => fun
  | [d] => { results := [.lit (.bool false)], args := [d] }
  | _ => none }
def FnTriggerWrongFalsely : Prop := fnTriggerRow.holds Try.pinned (OpenSpec.ofChange fnTriggerWrong)

/-- 'laws.FnRank': WHATEVER THE INPUT: true; the input reads as it did. -/
def fnRankSpec : ChangeSpec := { name := "fnRank", fn := fun _ => fun
  | [d] => { results := [.lit (.bool true)], args := [d] }
  | _ => none }
def fnRankRow : OpenClaim := { program := "ytpgbagclcapmmaa", sum := "5befab3d49360631b536c56352b36daa4d88f9000e8a9645f6ad419919143d58", func := "loop.example/serialpair/laws.FnRank", spec := "fnRank", apart := false }
def FnRankSaid : Prop := fnRankRow.holds Try.pinned (OpenSpec.ofChange fnRankSpec)

/-- ITS FALSE NEIGHBOUR: 'it returns false'. Refute it at one input. -/
def fnRankWrong : ChangeSpec := { name := "fnRank", fn := fun _ => fun
  | [d] => { results := [.lit (.bool false)], args := [d] }
  | _ => none }
def FnRankWrongFalsely : Prop := fnRankRow.holds Try.pinned (OpenSpec.ofChange fnRankWrong)

/-- 'laws.FnIrqBit': WHATEVER THE INPUT: true; the input reads as it did. -/
def fnIrqBitSpec : ChangeSpec := { name := "fnIrqBit", fn := fun _ => fun
  | [d] => { results := [.lit (.bool true)], args := [d] }
  | _ => none }
def fnIrqBitRow : OpenClaim := { program := "ytpgbagclcapmmaa", sum := "5befab3d49360631b536c56352b36daa4d88f9000e8a9645f6ad419919143d58", func := "loop.example/serialpair/laws.FnIrqBit", spec := "fnIrqBit", apart := false }
def FnIrqBitSaid : Prop := fnIrqBitRow.holds Try.pinned (OpenSpec.ofChange fnIrqBitSpec)

/-- ITS FALSE NEIGHBOUR: 'it returns false'. Refute it at one input. -/
def fnIrqBitWrong : ChangeSpec := { name := "fnIrqBit", fn := fun _ => fun
  | [d] => { results := [.lit (.bool false)], args := [d] }
  | _ => none }
def FnIrqBitWrongFalsely : Prop := fnIrqBitRow.holds Try.pinned (OpenSpec.ofChange fnIrqBitWrong)

/-- 'laws.FnLength': WHATEVER THE INPUT: true; the input reads as it did. -/
def fnLengthSpec : ChangeSpec := { name := "fnLength", fn := fun _ => fun
  | [d] => { results := [.lit (.bool true)], args := [d] }
  | _ => none }
def fnLengthRow : OpenClaim := { program := "ytpgbagclcapmmaa", sum := "5befab3d49360631b536c56352b36daa4d88f9000e8a9645f6ad419919143d58", func := "loop.example/serialpair/laws.FnLength", spec := "fnLength", apart := false }
def FnLengthSaid : Prop := fnLengthRow.holds Try.pinned (OpenSpec.ofChange fnLengthSpec)

/-- ITS FALSE NEIGHBOUR: 'it returns false'. Refute it at one input. -/
def fnLengthWrong : ChangeSpec := { name := "fnLength", fn := fun _ => fun
  | [d] => { results := [.lit (.bool false)], args := [d] }
  | _ => none }
def FnLengthWrongFalsely : Prop := fnLengthRow.holds Try.pinned (OpenSpec.ofChange fnLengthWrong)

/- THE SECOND FORM. 'bulk': how many values and letters a reading holds, each counted each time it is reached (what is shared counts as often as it is met; a slice's spare places count too). A statement '..UptoSaid' is the law's where the arguments, and the package variables that the reading takes, are together of bulk at most 1048576: NARROWER than '..Said'. Prove '..Said' where nothing that the law and all that it calls make is longer than what came in: it says more and counts as full. Else prove '..UptoSaid'. A law counts once. -/
mutual
def uptoBulk {H : Type} : DataW H → Nat
  | .lit (.string bytes) => bytes.length + 1
  | .lit _ => 1
  | .nil => 1
  | .ptr d => uptoBulk d + 1
  | .slice elems spare => uptoBulkAll elems + uptoBulkAll spare + 1
  | .agg parts => uptoBulkAll parts + 1
  | .iface _ d => uptoBulk d + 1
  | .map entries => uptoBulkEntries entries + 1
  | .held _ => 1
def uptoBulkAll {H : Type} : List (DataW H) → Nat
  | [] => 0
  | d :: r => uptoBulk d + uptoBulkAll r
def uptoBulkEntries {H : Type} : List (Lit × DataW H) → Nat
  | [] => 0
  | x :: r => uptoBulkEntry x + uptoBulkEntries r
def uptoBulkEntry {H : Type} : Lit × DataW H → Nat
  | (.string bytes, d) => bytes.length + uptoBulk d + 1
  | (_, d) => uptoBulk d + 1
 end
def uptoSmall : (H : Type) → List (DataW H) → Bool := fun _ ds => decide (uptoBulkAll ds ≤ 1048576)
def OpenSpec.upto (s : _root_.Go.ChangeSpec) : _root_.Go.OpenSpec := { _root_.Go.OpenSpec.ofChange s with cond := some uptoSmall }

/-- 'laws.FnTriggerNone', WHERE WHAT IT READS IS OF BULK AT MOST 1048576: true; the input reads as it did. -/
def fnTriggerNoneUptoRow : OpenClaim := { program := "ytpgbagclcapmmaa", sum := "5befab3d49360631b536c56352b36daa4d88f9000e8a9645f6ad419919143d58", func := "loop.example/serialpair/laws.FnTriggerNone", spec := "fnTriggerNone", apart := false, narrowed := true }
def FnTriggerNoneUptoSaid : Prop := fnTriggerNoneUptoRow.holds Try.pinned (OpenSpec.upto fnTriggerNoneSpec)

/-- 'laws.FnDivisor', WHERE WHAT IT READS IS OF BULK AT MOST 1048576: true; the input reads as it did. -/
def fnDivisorUptoRow : OpenClaim := { program := "ytpgbagclcapmmaa", sum := "5befab3d49360631b536c56352b36daa4d88f9000e8a9645f6ad419919143d58", func := "loop.example/serialpair/laws.FnDivisor", spec := "fnDivisor", apart := false, narrowed := true }
def FnDivisorUptoSaid : Prop := fnDivisorUptoRow.holds Try.pinned (OpenSpec.upto fnDivisorSpec)

/-- 'laws.FnDivisorLess', WHERE WHAT IT READS IS OF BULK AT MOST 1048576: true; the input reads as it did. -/
def fnDivisorLessUptoRow : OpenClaim := { program := "ytpgbagclcapmmaa", sum := "5befab3d49360631b536c56352b36daa4d88f9000e8a9645f6ad419919143d58", func := "loop.example/serialpair/laws.FnDivisorLess", spec := "fnDivisorLess", apart := false, narrowed := true }
def FnDivisorLessUptoSaid : Prop := fnDivisorLessUptoRow.holds Try.pinned (OpenSpec.upto fnDivisorLessSpec)

/-- 'laws.FnTriggerCode', WHERE WHAT IT READS IS OF BULK AT MOST 1048576: true; the input reads as it did. -/
def fnTriggerCodeUptoRow : OpenClaim := { program := "ytpgbagclcapmmaa", sum := "5befab3d49360631b536c56352b36daa4d88f9000e8a9645f6ad419919143d58", func := "loop.example/serialpair/laws.FnTriggerCode", spec := "fnTriggerCode", apart := false, narrowed := true }
def FnTriggerCodeUptoSaid : Prop := fnTriggerCodeUptoRow.holds Try.pinned (OpenSpec.upto fnTriggerCodeSpec)

/-- 'laws.FnTrigger', WHERE WHAT IT READS IS OF BULK AT MOST 1048576: true; the input reads as it did. -/
def fnTriggerUptoRow : OpenClaim := { program := "ytpgbagclcapmmaa", sum := "5befab3d49360631b536c56352b36daa4d88f9000e8a9645f6ad419919143d58", func := "loop.example/serialpair/laws.FnTrigger", spec := "fnTrigger", apart := false, narrowed := true }
def FnTriggerUptoSaid : Prop := fnTriggerUptoRow.holds Try.pinned (OpenSpec.upto fnTriggerSpec)

/-- 'laws.FnRank', WHERE WHAT IT READS IS OF BULK AT MOST 1048576: true; the input reads as it did. -/
def fnRankUptoRow : OpenClaim := { program := "ytpgbagclcapmmaa", sum := "5befab3d49360631b536c56352b36daa4d88f9000e8a9645f6ad419919143d58", func := "loop.example/serialpair/laws.FnRank", spec := "fnRank", apart := false, narrowed := true }
def FnRankUptoSaid : Prop := fnRankUptoRow.holds Try.pinned (OpenSpec.upto fnRankSpec)

/-- 'laws.FnIrqBit', WHERE WHAT IT READS IS OF BULK AT MOST 1048576: true; the input reads as it did. -/
def fnIrqBitUptoRow : OpenClaim := { program := "ytpgbagclcapmmaa", sum := "5befab3d49360631b536c56352b36daa4d88f9000e8a9645f6ad419919143d58", func := "loop.example/serialpair/laws.FnIrqBit", spec := "fnIrqBit", apart := false, narrowed := true }
def FnIrqBitUptoSaid : Prop := fnIrqBitUptoRow.holds Try.pinned (OpenSpec.upto fnIrqBitSpec)

/-- 'laws.FnLength', WHERE WHAT IT READS IS OF BULK AT MOST 1048576: true; the input reads as it did. -/
def fnLengthUptoRow : OpenClaim := { program := "ytpgbagclcapmmaa", sum := "5befab3d49360631b536c56352b36daa4d88f9000e8a9645f6ad419919143d58", func := "loop.example/serialpair/laws.FnLength", spec := "fnLength", apart := false, narrowed := true }
def FnLengthUptoSaid : Prop := fnLengthUptoRow.holds Try.pinned (OpenSpec.upto fnLengthSpec)

end Rows
end Go.Proofs.Ytpgbagclcapmmaa
