/-
  No cell of these rows narrows 'for every input' (looked for: loops, veiled, ifaces, maps, wideKeys, modest, calm, conditions, laid).
  DERIVED. THE GIVEN ROWS OF THIS SEAT. 8 by the template 'for every input the law returns true; each argument reads behind the call as it read before'; 0 by the template 'total and deterministic' (their statements: YtnbomcglkgbblaaTotals.lean).
  GIVEN WITH THE SEED: the statements are not yours to turn. If you find one false, say at which input.
  Laid BY PROGRAM, IN A SANDBOX (cutbox-rows.mjs): the forced cells as the released guide's own fill.sh prints them over the translation 00a1ce082e118a92… (all of the seat's roots in one cut). By AI agents, Wed Nov 11 2026. No macro, syntax, notation, axiom, sorry.
-/
import Derived.Test.YtnbomcglkgbblaaChecked
import GoSem.Claim
import GoSem.ClaimJoined
import GoSem.ClaimMapViews
import Derived.JoinedTies
import Derived.KernelRfl
namespace Go.Proofs.Ytnbomcglkgbblaa
/- THE CELL 'sum', in the pinned program and in every row, IS THE sha256 OF THE DUMP (.gsa) THAT YtnbomcglkgbblaaProg.lean LOADS. Nothing in Lean hashes anything: it is a label: what it is worth is what the hold of that sum in a sandbox is worth. -/
noncomputable def Try.pinned : Pinned := { name := "ytnbomcglkgbblaa", sum := "00a1ce082e118a92a113706815036852c1e6c60b623e509d5be4115e5520b6c2", checked := Try.checked }
namespace Rows
def none {H : Type} : Left H := { results := [], args := [] }

/-- 'laws.FnExactLineStart': WHATEVER THE INPUT: true; the input reads as it did. -/
def fnExactLineStartSpec : ChangeSpec := { name := "fnExactLineStart", fn := fun _ => fun
  | [d1, d2] => { results := [.lit (.bool true)], args := [d1, d2] }
  | _ => none }
def fnExactLineStartRow : OpenClaim := { program := "ytnbomcglkgbblaa", sum := "00a1ce082e118a92a113706815036852c1e6c60b623e509d5be4115e5520b6c2", func := "loop.example/serialpair/laws.FnExactLineStart", spec := "fnExactLineStart", apart := false }
def FnExactLineStartSaid : Prop := fnExactLineStartRow.holds Try.pinned (OpenSpec.ofChange fnExactLineStartSpec)

/-- ITS FALSE NEIGHBOUR: 'it returns false'. Refute it at one input. -/
def fnExactLineStartWrong : ChangeSpec := { name := "fnExactLineStart", fn := fun _ => fun
  | [d1, d2] => { results := [.lit (.bool false)], args := [d1, d2] }
  | _ => none }
def FnExactLineStartWrongFalsely : Prop := fnExactLineStartRow.holds Try.pinned (OpenSpec.ofChange fnExactLineStartWrong)

/-- 'laws.FnStart': WHATEVER THE INPUT: true; the input reads as it did. -/
def fnStartSpec : ChangeSpec := { name := "fnStart", fn := fun _ => fun
  | [d] => { results := [.lit (.bool true)], args := [d] }
  | _ => none }
def fnStartRow : OpenClaim := { program := "ytnbomcglkgbblaa", sum := "00a1ce082e118a92a113706815036852c1e6c60b623e509d5be4115e5520b6c2", func := "loop.example/serialpair/laws.FnStart", spec := "fnStart", apart := false }
def FnStartSaid : Prop := fnStartRow.holds Try.pinned (OpenSpec.ofChange fnStartSpec)

/-- ITS FALSE NEIGHBOUR: 'it returns false'. Refute it at one input. -/
def fnStartWrong : ChangeSpec := { name := "fnStart", fn := fun _ => fun
  | [d] => { results := [.lit (.bool false)], args := [d] }
  | _ => none }
def FnStartWrongFalsely : Prop := fnStartRow.holds Try.pinned (OpenSpec.ofChange fnStartWrong)

/-- 'laws.FnExactLineByte': WHATEVER THE INPUT: true; the input reads as it did. -/
def fnExactLineByteSpec : ChangeSpec := { name := "fnExactLineByte", fn := fun _ => fun
  | [d1, d2, d3] => { results := [.lit (.bool true)], args := [d1, d2, d3] }
  | _ => none }
def fnExactLineByteRow : OpenClaim := { program := "ytnbomcglkgbblaa", sum := "00a1ce082e118a92a113706815036852c1e6c60b623e509d5be4115e5520b6c2", func := "loop.example/serialpair/laws.FnExactLineByte", spec := "fnExactLineByte", apart := false }
def FnExactLineByteSaid : Prop := fnExactLineByteRow.holds Try.pinned (OpenSpec.ofChange fnExactLineByteSpec)

/-- ITS FALSE NEIGHBOUR: 'it returns false'. Refute it at one input. -/
def fnExactLineByteWrong : ChangeSpec := { name := "fnExactLineByte", fn := fun _ => fun
  | [d1, d2, d3] => { results := [.lit (.bool false)], args := [d1, d2, d3] }
  | _ => none }
def FnExactLineByteWrongFalsely : Prop := fnExactLineByteRow.holds Try.pinned (OpenSpec.ofChange fnExactLineByteWrong)

/-- 'laws.FnByteFrame': WHATEVER THE INPUT: true; the input reads as it did. -/
def fnByteFrameSpec : ChangeSpec := { name := "fnByteFrame", fn := fun _ => fun
  | [d] => { results := [.lit (.bool true)], args := [d] }
  | _ => none }
def fnByteFrameRow : OpenClaim := { program := "ytnbomcglkgbblaa", sum := "00a1ce082e118a92a113706815036852c1e6c60b623e509d5be4115e5520b6c2", func := "loop.example/serialpair/laws.FnByteFrame", spec := "fnByteFrame", apart := false }
def FnByteFrameSaid : Prop := fnByteFrameRow.holds Try.pinned (OpenSpec.ofChange fnByteFrameSpec)

/-- ITS FALSE NEIGHBOUR: 'it returns false'. Refute it at one input. -/
def fnByteFrameWrong : ChangeSpec := { name := "fnByteFrame", fn := fun _ => fun
  | [d] => { results := [.lit (.bool false)], args := [d] }
  | _ => none }
def FnByteFrameWrongFalsely : Prop := fnByteFrameRow.holds Try.pinned (OpenSpec.ofChange fnByteFrameWrong)

/-- 'laws.FnByteMiddle': WHATEVER THE INPUT: true; the input reads as it did. -/
def fnByteMiddleSpec : ChangeSpec := { name := "fnByteMiddle", fn := fun _ => fun
  | [d1, d2] => { results := [.lit (.bool true)], args := [d1, d2] }
  | _ => none }
def fnByteMiddleRow : OpenClaim := { program := "ytnbomcglkgbblaa", sum := "00a1ce082e118a92a113706815036852c1e6c60b623e509d5be4115e5520b6c2", func := "loop.example/serialpair/laws.FnByteMiddle", spec := "fnByteMiddle", apart := false }
def FnByteMiddleSaid : Prop := fnByteMiddleRow.holds Try.pinned (OpenSpec.ofChange fnByteMiddleSpec)

/-- ITS FALSE NEIGHBOUR: 'it returns false'. Refute it at one input. -/
def fnByteMiddleWrong : ChangeSpec := { name := "fnByteMiddle", fn := fun _ => fun
  | [d1, d2] => { results := [.lit (.bool false)], args := [d1, d2] }
  | _ => none }
def FnByteMiddleWrongFalsely : Prop := fnByteMiddleRow.holds Try.pinned (OpenSpec.ofChange fnByteMiddleWrong)

/-- 'laws.FnExactLineRead': WHATEVER THE INPUT: true; the input reads as it did. -/
def fnExactLineReadSpec : ChangeSpec := { name := "fnExactLineRead", fn := fun _ => fun
  | [d1, d2] => { results := [.lit (.bool true)], args := [d1, d2] }
  | _ => none }
def fnExactLineReadRow : OpenClaim := { program := "ytnbomcglkgbblaa", sum := "00a1ce082e118a92a113706815036852c1e6c60b623e509d5be4115e5520b6c2", func := "loop.example/serialpair/laws.FnExactLineRead", spec := "fnExactLineRead", apart := false }
def FnExactLineReadSaid : Prop := fnExactLineReadRow.holds Try.pinned (OpenSpec.ofChange fnExactLineReadSpec)

/-- ITS FALSE NEIGHBOUR: 'it returns false'. Refute it at one input. -/
def fnExactLineReadWrong : ChangeSpec := { name := "fnExactLineRead", fn := fun _ => fun
  | [d1, d2] => { results := [.lit (.bool false)], args := [d1, d2] }
  | _ => none }
def FnExactLineReadWrongFalsely : Prop := fnExactLineReadRow.holds Try.pinned (OpenSpec.ofChange fnExactLineReadWrong)

/-- 'laws.FnRead': WHATEVER THE INPUT: true; the input reads as it did. -/
def fnReadSpec : ChangeSpec := { name := "fnRead", fn := fun _ => fun
  | [d] => { results := [.lit (.bool true)], args := [d] }
  | _ => none }
def fnReadRow : OpenClaim := { program := "ytnbomcglkgbblaa", sum := "00a1ce082e118a92a113706815036852c1e6c60b623e509d5be4115e5520b6c2", func := "loop.example/serialpair/laws.FnRead", spec := "fnRead", apart := false }
def FnReadSaid : Prop := fnReadRow.holds Try.pinned (OpenSpec.ofChange fnReadSpec)

/-- ITS FALSE NEIGHBOUR: 'it returns false'. Refute it at one input. -/
def fnReadWrong : ChangeSpec := { name := "fnRead", fn := fun _ => fun
  | [d] => { results := [.lit (.bool false)], args := [d] }
  | _ => none }
def FnReadWrongFalsely : Prop := fnReadRow.holds Try.pinned (OpenSpec.ofChange fnReadWrong)

/-- 'laws.FnReadFirst': WHATEVER THE INPUT: true; the input reads as it did. -/
def fnReadFirstSpec : ChangeSpec := { name := "fnReadFirst", fn := fun _ => fun
  | [d] => { results := [.lit (.bool true)], args := [d] }
  | _ => none }
def fnReadFirstRow : OpenClaim := { program := "ytnbomcglkgbblaa", sum := "00a1ce082e118a92a113706815036852c1e6c60b623e509d5be4115e5520b6c2", func := "loop.example/serialpair/laws.FnReadFirst", spec := "fnReadFirst", apart := false }
def FnReadFirstSaid : Prop := fnReadFirstRow.holds Try.pinned (OpenSpec.ofChange fnReadFirstSpec)

/-- ITS FALSE NEIGHBOUR: 'it returns false'. Refute it at one input. -/
def fnReadFirstWrong : ChangeSpec := { name := "fnReadFirst", fn := fun _ => fun
  | [d] => { results := [.lit (.bool false)], args := [d] }
  | _ => none }
def FnReadFirstWrongFalsely : Prop := fnReadFirstRow.holds Try.pinned (OpenSpec.ofChange fnReadFirstWrong)

/- THE SECOND FORM. 'bulk': how many values and letters a reading holds, each counted each time it is reached (what is shared counts as often as it is met; a slice's spare places count too). A statement '..UptoSaid' is the law's where the arguments, and the package variables that the reading takes, are together of bulk at most 1048576: NARROWER than '..Said'. Prove '..Said' where nothing that the law and all that it calls make is longer than what came in: it says more and counts as full. Else prove '..UptoSaid'. A law counts once. -/
mutual
def uptoBulk {H : Type} : DataW H → Nat
  | .lit (.string bytes) => bytes.length + 1
  | .lit _ => 1
  | .nil => 1
  | .ptr d => uptoBulk d + 1
  | .slice elems spare => uptoBulkAll elems + uptoBulkAll spare + 1
  | .agg parts => uptoBulkAll parts + 1
  | .iface _ d => uptoBulk d + 1
  | .map entries => uptoBulkEntries entries + 1
  | .held _ => 1
def uptoBulkAll {H : Type} : List (DataW H) → Nat
  | [] => 0
  | d :: r => uptoBulk d + uptoBulkAll r
def uptoBulkEntries {H : Type} : List (Lit × DataW H) → Nat
  | [] => 0
  | x :: r => uptoBulkEntry x + uptoBulkEntries r
def uptoBulkEntry {H : Type} : Lit × DataW H → Nat
  | (.string bytes, d) => bytes.length + uptoBulk d + 1
  | (_, d) => uptoBulk d + 1
 end
def uptoSmall : (H : Type) → List (DataW H) → Bool := fun _ ds => decide (uptoBulkAll ds ≤ 1048576)
def OpenSpec.upto (s : _root_.Go.ChangeSpec) : _root_.Go.OpenSpec := { _root_.Go.OpenSpec.ofChange s with cond := some uptoSmall }

/-- 'laws.FnExactLineStart', WHERE WHAT IT READS IS OF BULK AT MOST 1048576: true; the input reads as it did. -/
def fnExactLineStartUptoRow : OpenClaim := { program := "ytnbomcglkgbblaa", sum := "00a1ce082e118a92a113706815036852c1e6c60b623e509d5be4115e5520b6c2", func := "loop.example/serialpair/laws.FnExactLineStart", spec := "fnExactLineStart", apart := false, narrowed := true }
def FnExactLineStartUptoSaid : Prop := fnExactLineStartUptoRow.holds Try.pinned (OpenSpec.upto fnExactLineStartSpec)

/-- 'laws.FnStart', WHERE WHAT IT READS IS OF BULK AT MOST 1048576: true; the input reads as it did. -/
def fnStartUptoRow : OpenClaim := { program := "ytnbomcglkgbblaa", sum := "00a1ce082e118a92a113706815036852c1e6c60b623e509d5be4115e5520b6c2", func := "loop.example/serialpair/laws.FnStart", spec := "fnStart", apart := false, narrowed := true }
def FnStartUptoSaid : Prop := fnStartUptoRow.holds Try.pinned (OpenSpec.upto fnStartSpec)

/-- 'laws.FnExactLineByte', WHERE WHAT IT READS IS OF BULK AT MOST 1048576: true; the input reads as it did. -/
def fnExactLineByteUptoRow : OpenClaim := { program := "ytnbomcglkgbblaa", sum := "00a1ce082e118a92a113706815036852c1e6c60b623e509d5be4115e5520b6c2", func := "loop.example/serialpair/laws.FnExactLineByte", spec := "fnExactLineByte", apart := false, narrowed := true }
def FnExactLineByteUptoSaid : Prop := fnExactLineByteUptoRow.holds Try.pinned (OpenSpec.upto fnExactLineByteSpec)

/-- 'laws.FnByteFrame', WHERE WHAT IT READS IS OF BULK AT MOST 1048576: true; the input reads as it did. -/
def fnByteFrameUptoRow : OpenClaim := { program := "ytnbomcglkgbblaa", sum := "00a1ce082e118a92a113706815036852c1e6c60b623e509d5be4115e5520b6c2", func := "loop.example/serialpair/laws.FnByteFrame", spec := "fnByteFrame", apart := false, narrowed := true }
def FnByteFrameUptoSaid : Prop := fnByteFrameUptoRow.holds Try.pinned (OpenSpec.upto fnByteFrameSpec)

/-- 'laws.FnByteMiddle', WHERE WHAT IT READS IS OF BULK AT MOST 1048576: true; the input reads as it did. -/
def fnByteMiddleUptoRow : OpenClaim := { program := "ytnbomcglkgbblaa", sum := "00a1ce082e118a92a113706815036852c1e6c60b623e509d5be4115e5520b6c2", func := "loop.example/serialpair/laws.FnByteMiddle", spec := "fnByteMiddle", apart := false, narrowed := true }
def FnByteMiddleUptoSaid : Prop := fnByteMiddleUptoRow.holds Try.pinned (OpenSpec.upto fnByteMiddleSpec)

/-- 'laws.FnExactLineRead', WHERE WHAT IT READS IS OF BULK AT MOST 1048576: true; the input reads as it did. -/
def fnExactLineReadUptoRow : OpenClaim := { program := "ytnbomcglkgbblaa", sum := "00a1ce082e118a92a113706815036852c1e6c60b623e509d5be4115e5520b6c2", func := "loop.example/serialpair/laws.FnExactLineRead", spec := "fnExactLineRead", apart := false, narrowed := true }
def FnExactLineReadUptoSaid : Prop := fnExactLineReadUptoRow.holds Try.pinned (OpenSpec.upto fnExactLineReadSpec)

/-- 'laws.FnRead', WHERE WHAT IT READS IS OF BULK AT MOST 1048576: true; the input reads as it did. -/
def fnReadUptoRow : OpenClaim := { program := "ytnbomcglkgbblaa", sum := "00a1ce082e118a92a113706815036852c1e6c60b623e509d5be4115e5520b6c2", func := "loop.example/serialpair/laws.FnRead", spec := "fnRead", apart := false, narrowed := true }
def FnReadUptoSaid : Prop := fnReadUptoRow.holds Try.pinned (OpenSpec.upto fnReadSpec)

/-- 'laws.FnReadFirst', WHERE WHAT IT READS IS OF BULK AT MOST 1048576: true; the input reads as it did. -/
def fnReadFirstUptoRow : OpenClaim := { program := "ytnbomcglkgbblaa", sum := "00a1ce082e118a92a113706815036852c1e6c60b623e509d5be4115e5520b6c2", func := "loop.example/serialpair/laws.FnReadFirst", spec := "fnReadFirst", apart := false, narrowed := true }
def FnReadFirstUptoSaid : Prop := fnReadFirstUptoRow.holds Try.pinned (OpenSpec.upto fnReadFirstSpec)

end Rows
end Go.Proofs.Ytnbomcglkgbblaa
