/-
  No cell of these rows narrows 'for every input' (looked for: loops, veiled, ifaces, maps, wideKeys, modest, calm, conditions, laid).
  DERIVED. THE GIVEN ROWS OF THIS SEAT. 10 by the template 'for every input the law returns true; each argument reads behind the call as it read before'; 0 by the template 'total and deterministic' (their statements: YtijjeioncopngaaTotals.lean).
  GIVEN WITH THE SEED: the statements are not yours to turn. If you find one false, say at which input.
  Laid BY PROGRAM, IN A SANDBOX (cutbox-rows.mjs): the forced cells as the released guide's own fill.sh prints them over the translation 7ede4a46a1061f58… (all of the seat's roots in one cut). By AI agents, Wed Nov 11 2026. No macro, syntax, notation, axiom, sorry.
-/
import Derived.Test.YtijjeioncopngaaChecked
import GoSem.Claim
import GoSem.ClaimJoined
import GoSem.ClaimMapViews
import Derived.JoinedTies
import Derived.KernelRfl
namespace Go.Proofs.Ytijjeioncopngaa
/- THE CELL 'sum', in the pinned program and in every row, IS THE sha256 OF THE DUMP (.gsa) THAT YtijjeioncopngaaProg.lean LOADS. Nothing in Lean hashes anything: it is a label: what it is worth is what the hold of that sum in a sandbox is worth. -/
noncomputable def Try.pinned : Pinned := { name := "ytijjeioncopngaa", sum := "7ede4a46a1061f5815deae70e0bf5a459843c6493f841b4a6cc71e851369cd09", checked := Try.checked }
namespace Rows
def none {H : Type} : Left H := { results := [], args := [] }

/-- 'laws.FnExactFrameBits': WHATEVER THE INPUT: true; the input reads as it did. -/
def fnExactFrameBitsSpec : ChangeSpec := { name := "fnExactFrameBits", fn := fun _ => fun
  | [d1, d2] => { results := [.lit (.bool true)], args := [d1, d2] }
  | _ => none }
def fnExactFrameBitsRow : OpenClaim := { program := "ytijjeioncopngaa", sum := "7ede4a46a1061f5815deae70e0bf5a459843c6493f841b4a6cc71e851369cd09", func := "loop.example/serialpair/laws.FnExactFrameBits", spec := "fnExactFrameBits", apart := false }
def FnExactFrameBitsSaid : Prop := fnExactFrameBitsRow.holds Try.pinned (OpenSpec.ofChange fnExactFrameBitsSpec)

/-- ITS FALSE NEIGHBOUR: 'it returns false'. Refute it at one input. -/
def fnExactFrameBitsWrong : ChangeSpec := { name := "fnExactFrameBits", fn := fun _ => fun
  | [d1, d2] => { results := [.lit (.bool false)], args := [d1, d2] }
  | _ => none }
def FnExactFrameBitsWrongFalsely : Prop := fnExactFrameBitsRow.holds Try.pinned (OpenSpec.ofChange fnExactFrameBitsWrong)

/-- 'laws.FnExactFrameFrom': WHATEVER THE INPUT: true; the input reads as it did. -/
def fnExactFrameFromSpec : ChangeSpec := { name := "fnExactFrameFrom", fn := fun _ => fun
  | [d1, d2] => { results := [.lit (.bool true)], args := [d1, d2] }
  | _ => none }
def fnExactFrameFromRow : OpenClaim := { program := "ytijjeioncopngaa", sum := "7ede4a46a1061f5815deae70e0bf5a459843c6493f841b4a6cc71e851369cd09", func := "loop.example/serialpair/laws.FnExactFrameFrom", spec := "fnExactFrameFrom", apart := false }
def FnExactFrameFromSaid : Prop := fnExactFrameFromRow.holds Try.pinned (OpenSpec.ofChange fnExactFrameFromSpec)

/-- ITS FALSE NEIGHBOUR: 'it returns false'. Refute it at one input. -/
def fnExactFrameFromWrong : ChangeSpec := { name := "fnExactFrameFrom", fn := fun _ => fun
  | [d1, d2] => { results := [.lit (.bool false)], args := [d1, d2] }
  | _ => none }
def FnExactFrameFromWrongFalsely : Prop := fnExactFrameFromRow.holds Try.pinned (OpenSpec.ofChange fnExactFrameFromWrong)

/-- 'laws.FnFrameEnds': WHATEVER THE INPUT: true; the input reads as it did. -/
def fnFrameEndsSpec : ChangeSpec := { name := "fnFrameEnds", fn := fun _ => fun
  | [d] => { results := [.lit (.bool true)], args := [d] }
  | _ => none }
def fnFrameEndsRow : OpenClaim := { program := "ytijjeioncopngaa", sum := "7ede4a46a1061f5815deae70e0bf5a459843c6493f841b4a6cc71e851369cd09", func := "loop.example/serialpair/laws.FnFrameEnds", spec := "fnFrameEnds", apart := false }
def FnFrameEndsSaid : Prop := fnFrameEndsRow.holds Try.pinned (OpenSpec.ofChange fnFrameEndsSpec)

/-- ITS FALSE NEIGHBOUR: 'it returns false'. Refute it at one input. -/
def fnFrameEndsWrong : ChangeSpec := { name := "fnFrameEnds", fn := fun _ => fun
  | [d] => { results := [.lit (.bool false)], args := [d] }
  | _ => none }
def FnFrameEndsWrongFalsely : Prop := fnFrameEndsRow.holds Try.pinned (OpenSpec.ofChange fnFrameEndsWrong)

/-- 'laws.FnFrameOrder': WHATEVER THE INPUT: true; the input reads as it did. -/
def fnFrameOrderSpec : ChangeSpec := { name := "fnFrameOrder", fn := fun _ => fun
  | [d] => { results := [.lit (.bool true)], args := [d] }
  | _ => none }
def fnFrameOrderRow : OpenClaim := { program := "ytijjeioncopngaa", sum := "7ede4a46a1061f5815deae70e0bf5a459843c6493f841b4a6cc71e851369cd09", func := "loop.example/serialpair/laws.FnFrameOrder", spec := "fnFrameOrder", apart := false }
def FnFrameOrderSaid : Prop := fnFrameOrderRow.holds Try.pinned (OpenSpec.ofChange fnFrameOrderSpec)

/-- ITS FALSE NEIGHBOUR: 'it returns false'. Refute it at one input. -/
def fnFrameOrderWrong : ChangeSpec := { name := "fnFrameOrder", fn := fun _ => fun
  | [d] => { results := [.lit (.bool false)], args := [d] }
  | _ => none }
def FnFrameOrderWrongFalsely : Prop := fnFrameOrderRow.holds Try.pinned (OpenSpec.ofChange fnFrameOrderWrong)

/-- 'laws.FnFrameParity': WHATEVER THE INPUT: true; the input reads as it did. -/
def fnFrameParitySpec : ChangeSpec := { name := "fnFrameParity", fn := fun _ => fun
  | [d] => { results := [.lit (.bool true)], args := [d] }
  | _ => none }
def fnFrameParityRow : OpenClaim := { program := "ytijjeioncopngaa", sum := "7ede4a46a1061f5815deae70e0bf5a459843c6493f841b4a6cc71e851369cd09", func := "loop.example/serialpair/laws.FnFrameParity", spec := "fnFrameParity", apart := false }
def FnFrameParitySaid : Prop := fnFrameParityRow.holds Try.pinned (OpenSpec.ofChange fnFrameParitySpec)

/-- ITS FALSE NEIGHBOUR: 'it returns false'. Refute it at one input. -/
def fnFrameParityWrong : ChangeSpec := { name := "fnFrameParity", fn := fun _ => fun
  | [d] => { results := [.lit (.bool false)], args := [d] }
  | _ => none }
def FnFrameParityWrongFalsely : Prop := fnFrameParityRow.holds Try.pinned (OpenSpec.ofChange fnFrameParityWrong)

/-- 'laws.FnFrame': WHATEVER THE INPUT: true; the input reads as it did. -/
def fnFrameSpec : ChangeSpec := { name := "fnFrame", fn := fun _ => fun
  | [d] => { results := [.lit (.bool true)], args := [d] }
  | _ => none }
def fnFrameRow : OpenClaim := { program := "ytijjeioncopngaa", sum := "7ede4a46a1061f5815deae70e0bf5a459843c6493f841b4a6cc71e851369cd09", func := "loop.example/serialpair/laws.FnFrame", spec := "fnFrame", apart := false }
def FnFrameSaid : Prop := fnFrameRow.holds Try.pinned (OpenSpec.ofChange fnFrameSpec)

/-- ITS FALSE NEIGHBOUR: 'it returns false'. Refute it at one input. -/
def fnFrameWrong : ChangeSpec := { name := "fnFrame", fn := fun _ => fun
  | [d] => { results := [.lit (.bool false)], args := [d] }
  | _ => none }
def FnFrameWrongFalsely : Prop := fnFrameRow.holds Try.pinned (OpenSpec.ofChange fnFrameWrong)

/-- 'laws.FnFrameFlip': WHATEVER THE INPUT: true; the input reads as it did. -/
def fnFrameFlipSpec : ChangeSpec := { name := "fnFrameFlip", fn := fun _ => fun
  | [d1, d2] => { results := [.lit (.bool true)], args := [d1, d2] }
  | _ => none }
def fnFrameFlipRow : OpenClaim := { program := "ytijjeioncopngaa", sum := "7ede4a46a1061f5815deae70e0bf5a459843c6493f841b4a6cc71e851369cd09", func := "loop.example/serialpair/laws.FnFrameFlip", spec := "fnFrameFlip", apart := false }
def FnFrameFlipSaid : Prop := fnFrameFlipRow.holds Try.pinned (OpenSpec.ofChange fnFrameFlipSpec)

/-- ITS FALSE NEIGHBOUR: 'it returns false'. Refute it at one input. -/
def fnFrameFlipWrong : ChangeSpec := { name := "fnFrameFlip", fn := fun _ => fun
  | [d1, d2] => { results := [.lit (.bool false)], args := [d1, d2] }
  | _ => none }
def FnFrameFlipWrongFalsely : Prop := fnFrameFlipRow.holds Try.pinned (OpenSpec.ofChange fnFrameFlipWrong)

/-- 'laws.FnFrameBad': WHATEVER THE INPUT: true; the input reads as it did. -/
def fnFrameBadSpec : ChangeSpec := { name := "fnFrameBad", fn := fun _ => fun
  | [d] => { results := [.lit (.bool true)], args := [d] }
  | _ => none }
def fnFrameBadRow : OpenClaim := { program := "ytijjeioncopngaa", sum := "7ede4a46a1061f5815deae70e0bf5a459843c6493f841b4a6cc71e851369cd09", func := "loop.example/serialpair/laws.FnFrameBad", spec := "fnFrameBad", apart := false }
def FnFrameBadSaid : Prop := fnFrameBadRow.holds Try.pinned (OpenSpec.ofChange fnFrameBadSpec)

/-- ITS FALSE NEIGHBOUR: 'it returns false'. Refute it at one input. -/
def fnFrameBadWrong : ChangeSpec := { name := "fnFrameBad", fn := fun _ => fun
  | [d] => { results := [.lit (.bool false)], args := [d] }
  | _ => none }
def FnFrameBadWrongFalsely : Prop := fnFrameBadRow.holds Try.pinned (OpenSpec.ofChange fnFrameBadWrong)

/-- 'laws.FnFrameStop': WHATEVER THE INPUT: true; the input reads as it did. -/
def fnFrameStopSpec : ChangeSpec := { name := "fnFrameStop", fn := fun _ => fun
  | [d] => { results := [.lit (.bool true)], args := [d] }
  | _ => none }
def fnFrameStopRow : OpenClaim := { program := "ytijjeioncopngaa", sum := "7ede4a46a1061f5815deae70e0bf5a459843c6493f841b4a6cc71e851369cd09", func := "loop.example/serialpair/laws.FnFrameStop", spec := "fnFrameStop", apart := false }
def FnFrameStopSaid : Prop := fnFrameStopRow.holds Try.pinned (OpenSpec.ofChange fnFrameStopSpec)

/-- ITS FALSE NEIGHBOUR: 'it returns false'. Refute it at one input. -/
def fnFrameStopWrong : ChangeSpec := { name := "fnFrameStop", fn := fun _ => fun
  | [d] => { results := [.lit (.bool false)], args := [d] }
  | _ => none }
def FnFrameStopWrongFalsely : Prop := fnFrameStopRow.holds Try.pinned (OpenSpec.ofChange fnFrameStopWrong)

/-- 'laws.FnFrameFrom': WHATEVER THE INPUT: true; the input reads as it did. -/
def fnFrameFromSpec : ChangeSpec := { name := "fnFrameFrom", fn := fun _ => fun
  | [d] => { results := [.lit (.bool true)], args := [d] }
  | _ => none }
def fnFrameFromRow : OpenClaim := { program := "ytijjeioncopngaa", sum := "7ede4a46a1061f5815deae70e0bf5a459843c6493f841b4a6cc71e851369cd09", func := "loop.example/serialpair/laws.FnFrameFrom", spec := "fnFrameFrom", apart := false }
def FnFrameFromSaid : Prop := fnFrameFromRow.holds Try.pinned (OpenSpec.ofChange fnFrameFromSpec)

/-- ITS FALSE NEIGHBOUR: 'it returns false'. Refute it at one input. -/
def fnFrameFromWrong : ChangeSpec := { name := "fnFrameFrom", fn := fun _ => fun
  | [d] => { results := [.lit (.bool false)], args := [d] }
  | _ => none }
def FnFrameFromWrongFalsely : Prop := fnFrameFromRow.holds Try.pinned (OpenSpec.ofChange fnFrameFromWrong)

/- THE SECOND FORM. 'bulk': how many values and letters a reading holds, each counted each time it is reached (what is shared counts as often as it is met; a slice's spare places count too). A statement '..UptoSaid' is the law's where the arguments, and the package variables that the reading takes, are together of bulk at most 1048576: NARROWER than '..Said'. Prove '..Said' where nothing that the law and all that it calls make is longer than what came in: it says more and counts as full. Else prove '..UptoSaid'. A law counts once. -/
mutual
def uptoBulk {H : Type} : DataW H → Nat
  | .lit (.string bytes) => bytes.length + 1
  | .lit _ => 1
  | .nil => 1
  | .ptr d => uptoBulk d + 1
  | .slice elems spare => uptoBulkAll elems + uptoBulkAll spare + 1
  | .agg parts => uptoBulkAll parts + 1
  | .iface _ d => uptoBulk d + 1
  | .map entries => uptoBulkEntries entries + 1
  | .held _ => 1
def uptoBulkAll {H : Type} : List (DataW H) → Nat
  | [] => 0
  | d :: r => uptoBulk d + uptoBulkAll r
def uptoBulkEntries {H : Type} : List (Lit × DataW H) → Nat
  | [] => 0
  | x :: r => uptoBulkEntry x + uptoBulkEntries r
def uptoBulkEntry {H : Type} : Lit × DataW H → Nat
  | (.string bytes, d) => bytes.length + uptoBulk d + 1
  | (_, d) => uptoBulk d + 1
 end
def uptoSmall : (H : Type) → List (DataW H) → Bool := fun _ ds => decide (uptoBulkAll ds ≤ 1048576)
def OpenSpec.upto (s : _root_.Go.ChangeSpec) : _root_.Go.OpenSpec := { _root_.Go.OpenSpec.ofChange s with cond := some uptoSmall }

/-- 'laws.FnExactFrameBits', WHERE WHAT IT READS IS OF BULK AT MOST 1048576: true; the input reads as it did. -/
def fnExactFrameBitsUptoRow : OpenClaim := { program := "ytijjeioncopngaa", sum := "7ede4a46a1061f5815deae70e0bf5a459843c6493f841b4a6cc71e851369cd09", func := "loop.example/serialpair/laws.FnExactFrameBits", spec := "fnExactFrameBits", apart := false, narrowed := true }
def FnExactFrameBitsUptoSaid : Prop := fnExactFrameBitsUptoRow.holds Try.pinned (OpenSpec.upto fnExactFrameBitsSpec)

/-- 'laws.FnExactFrameFrom', WHERE WHAT IT READS IS OF BULK AT MOST 1048576: true; the input reads as it did. -/
def fnExactFrameFromUptoRow : OpenClaim := { program := "ytijjeioncopngaa", sum := "7ede4a46a1061f5815deae70e0bf5a459843c6493f841b4a6cc71e851369cd09", func := "loop.example/serialpair/laws.FnExactFrameFrom", spec := "fnExactFrameFrom", apart := false, narrowed := true }
def FnExactFrameFromUptoSaid : Prop := fnExactFrameFromUptoRow.holds Try.pinned (OpenSpec.upto fnExactFrameFromSpec)

/-- 'laws.FnFrameEnds', WHERE WHAT IT READS IS OF BULK AT MOST 1048576: true; the input reads as it did. -/
def fnFrameEndsUptoRow : OpenClaim := { program := "ytijjeioncopngaa", sum := "7ede4a46a1061f5815deae70e0bf5a459843c6493f841b4a6cc71e851369cd09", func := "loop.example/serialpair/laws.FnFrameEnds", spec := "fnFrameEnds", apart := false, narrowed := true }
def FnFrameEndsUptoSaid : Prop := fnFrameEndsUptoRow.holds Try.pinned (OpenSpec.upto fnFrameEndsSpec)

/-- 'laws.FnFrameOrder', WHERE WHAT IT READS IS OF BULK AT MOST 1048576: true; the input reads as it did. -/
def fnFrameOrderUptoRow : OpenClaim := { program := "ytijjeioncopngaa", sum := "7ede4a46a1061f5815deae70e0bf5a459843c6493f841b4a6cc71e851369cd09", func := "loop.example/serialpair/laws.FnFrameOrder", spec := "fnFrameOrder", apart := false, narrowed := true }
def FnFrameOrderUptoSaid : Prop := fnFrameOrderUptoRow.holds Try.pinned (OpenSpec.upto fnFrameOrderSpec)

/-- 'laws.FnFrameParity', WHERE WHAT IT READS IS OF BULK AT MOST 1048576: true; the input reads as it did. -/
def fnFrameParityUptoRow : OpenClaim := { program := "ytijjeioncopngaa", sum := "7ede4a46a1061f5815deae70e0bf5a459843c6493f841b4a6cc71e851369cd09", func := "loop.example/serialpair/laws.FnFrameParity", spec := "fnFrameParity", apart := false, narrowed := true }
def FnFrameParityUptoSaid : Prop := fnFrameParityUptoRow.holds Try.pinned (OpenSpec.upto fnFrameParitySpec)

/-- 'laws.FnFrame', WHERE WHAT IT READS IS OF BULK AT MOST 1048576: true; the input reads as it did. -/
def fnFrameUptoRow : OpenClaim := { program := "ytijjeioncopngaa", sum := "7ede4a46a1061f5815deae70e0bf5a459843c6493f841b4a6cc71e851369cd09", func := "loop.example/serialpair/laws.FnFrame", spec := "fnFrame", apart := false, narrowed := true }
def FnFrameUptoSaid : Prop := fnFrameUptoRow.holds Try.pinned (OpenSpec.upto fnFrameSpec)

/-- 'laws.FnFrameFlip', WHERE WHAT IT READS IS OF BULK AT MOST 1048576: true; the input reads as it did. -/
def fnFrameFlipUptoRow : OpenClaim := { program := "ytijjeioncopngaa", sum := "7ede4a46a1061f5815deae70e0bf5a459843c6493f841b4a6cc71e851369cd09", func := "loop.example/serialpair/laws.FnFrameFlip", spec := "fnFrameFlip", apart := false, narrowed := true }
def FnFrameFlipUptoSaid : Prop := fnFrameFlipUptoRow.holds Try.pinned (OpenSpec.upto fnFrameFlipSpec)

/-- 'laws.FnFrameBad', WHERE WHAT IT READS IS OF BULK AT MOST 1048576: true; the input reads as it did. -/
def fnFrameBadUptoRow : OpenClaim := { program := "ytijjeioncopngaa", sum := "7ede4a46a1061f5815deae70e0bf5a459843c6493f841b4a6cc71e851369cd09", func := "loop.example/serialpair/laws.FnFrameBad", spec := "fnFrameBad", apart := false, narrowed := true }
def FnFrameBadUptoSaid : Prop := fnFrameBadUptoRow.holds Try.pinned (OpenSpec.upto fnFrameBadSpec)

/-- 'laws.FnFrameStop', WHERE WHAT IT READS IS OF BULK AT MOST 1048576: true; the input reads as it did. -/
def fnFrameStopUptoRow : OpenClaim := { program := "ytijjeioncopngaa", sum := "7ede4a46a1061f5815deae70e0bf5a459843c6493f841b4a6cc71e851369cd09", func := "loop.example/serialpair/laws.FnFrameStop", spec := "fnFrameStop", apart := false, narrowed := true }
def FnFrameStopUptoSaid : Prop := fnFrameStopUptoRow.holds Try.pinned (OpenSpec.upto fnFrameStopSpec)

/-- 'laws.FnFrameFrom', WHERE WHAT IT READS IS OF BULK AT MOST 1048576: true; the input reads as it did. -/
def fnFrameFromUptoRow : OpenClaim := { program := "ytijjeioncopngaa", sum := "7ede4a46a1061f5815deae70e0bf5a459843c6493f841b4a6cc71e851369cd09", func := "loop.example/serialpair/laws.FnFrameFrom", spec := "fnFrameFrom", apart := false, narrowed := true }
def FnFrameFromUptoSaid : Prop := fnFrameFromUptoRow.holds Try.pinned (OpenSpec.upto fnFrameFromSpec)

end Rows
end Go.Proofs.Ytijjeioncopngaa
