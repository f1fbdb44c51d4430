/-
  No cell of these rows narrows 'for every input' (looked for: loops, veiled, ifaces, maps, wideKeys, modest, calm, conditions, laid).
  DERIVED. THE GIVEN ROWS OF THIS SEAT. 7 by the template 'for every input the law returns true; each argument reads behind the call as it read before'; 0 by the template 'total and deterministic' (their statements: YtkfjcamkgigolaaTotals.lean).
  GIVEN WITH THE SEED: the statements are not yours to turn. If you find one false, say at which input.
  Laid BY PROGRAM, IN A SANDBOX (cutbox-rows.mjs): the forced cells as the released guide's own fill.sh prints them over the translation 034739c2d82ee3ae… (all of the seat's roots in one cut). By AI agents, Wed Nov 11 2026. No macro, syntax, notation, axiom, sorry.
-/
import Derived.Test.YtkfjcamkgigolaaChecked
import GoSem.Claim
import GoSem.ClaimJoined
import GoSem.ClaimMapViews
import Derived.JoinedTies
import Derived.KernelRfl
namespace Go.Proofs.Ytkfjcamkgigolaa
/- THE CELL 'sum', in the pinned program and in every row, IS THE sha256 OF THE DUMP (.gsa) THAT YtkfjcamkgigolaaProg.lean LOADS. Nothing in Lean hashes anything: it is a label: what it is worth is what the hold of that sum in a sandbox is worth. -/
noncomputable def Try.pinned : Pinned := { name := "ytkfjcamkgigolaa", sum := "034739c2d82ee3ae2f0a3c1add9dff1962158ae150373b689b96ce9a058063e0", checked := Try.checked }
namespace Rows
def none {H : Type} : Left H := { results := [], args := [] }

/-- 'laws.FnFifoPart': WHATEVER THE INPUT: true; the input reads as it did. -/
def fnFifoPartSpec : ChangeSpec := { name := "fnFifoPart", fn := fun _ => fun
  | [d] => { results := [.lit (.bool true)], args := [d] }
  | _ => none }
def fnFifoPartRow : OpenClaim := { program := "ytkfjcamkgigolaa", sum := "034739c2d82ee3ae2f0a3c1add9dff1962158ae150373b689b96ce9a058063e0", func := "loop.example/serialpair/laws.FnFifoPart", spec := "fnFifoPart", apart := false }
def FnFifoPartSaid : Prop := fnFifoPartRow.holds Try.pinned (OpenSpec.ofChange fnFifoPartSpec)

/-- ITS FALSE NEIGHBOUR: 'it returns false'. Refute it at one input. -/
def fnFifoPartWrong : ChangeSpec := { name := "fnFifoPart", fn := fun _ => fun
  | [d] => { results := [.lit (.bool false)], args := [d] }
  | _ => none }
def FnFifoPartWrongFalsely : Prop := fnFifoPartRow.holds Try.pinned (OpenSpec.ofChange fnFifoPartWrong)

/-- 'laws.FnExactFifoValid': WHATEVER THE INPUT: true; the input reads as it did. -/
def fnExactFifoValidSpec : ChangeSpec := { name := "fnExactFifoValid", fn := fun _ => fun
  | [d] => { results := [.lit (.bool true)], args := [d] }
  | _ => none }
def fnExactFifoValidRow : OpenClaim := { program := "ytkfjcamkgigolaa", sum := "034739c2d82ee3ae2f0a3c1add9dff1962158ae150373b689b96ce9a058063e0", func := "loop.example/serialpair/laws.FnExactFifoValid", spec := "fnExactFifoValid", apart := false }
def FnExactFifoValidSaid : Prop := fnExactFifoValidRow.holds Try.pinned (OpenSpec.ofChange fnExactFifoValidSpec)

/-- ITS FALSE NEIGHBOUR: 'it returns false'. Refute it at one input. -/
def fnExactFifoValidWrong : ChangeSpec := { name := "fnExactFifoValid", fn := fun _ => fun
  | [d] => { results := [.lit (.bool false)], args := [d] }
  | _ => none }
def FnExactFifoValidWrongFalsely : Prop := fnExactFifoValidRow.holds Try.pinned (OpenSpec.ofChange fnExactFifoValidWrong)

/-- 'laws.FnSendPart': WHATEVER THE INPUT: true; the input reads as it did. -/
def fnSendPartSpec : ChangeSpec := { name := "fnSendPart", fn := fun _ => fun
  | [d] => { results := [.lit (.bool true)], args := [d] }
  | _ => none }
def fnSendPartRow : OpenClaim := { program := "ytkfjcamkgigolaa", sum := "034739c2d82ee3ae2f0a3c1add9dff1962158ae150373b689b96ce9a058063e0", func := "loop.example/serialpair/laws.FnSendPart", spec := "fnSendPart", apart := false }
def FnSendPartSaid : Prop := fnSendPartRow.holds Try.pinned (OpenSpec.ofChange fnSendPartSpec)

/-- ITS FALSE NEIGHBOUR: 'it returns false'. Refute it at one input. -/
def fnSendPartWrong : ChangeSpec := { name := "fnSendPart", fn := fun _ => fun
  | [d] => { results := [.lit (.bool false)], args := [d] }
  | _ => none }
def FnSendPartWrongFalsely : Prop := fnSendPartRow.holds Try.pinned (OpenSpec.ofChange fnSendPartWrong)

/-- 'laws.FnExactSendValid': WHATEVER THE INPUT: true; the input reads as it did. -/
def fnExactSendValidSpec : ChangeSpec := { name := "fnExactSendValid", fn := fun _ => fun
  | [d] => { results := [.lit (.bool true)], args := [d] }
  | _ => none }
def fnExactSendValidRow : OpenClaim := { program := "ytkfjcamkgigolaa", sum := "034739c2d82ee3ae2f0a3c1add9dff1962158ae150373b689b96ce9a058063e0", func := "loop.example/serialpair/laws.FnExactSendValid", spec := "fnExactSendValid", apart := false }
def FnExactSendValidSaid : Prop := fnExactSendValidRow.holds Try.pinned (OpenSpec.ofChange fnExactSendValidSpec)

/-- ITS FALSE NEIGHBOUR: 'it returns false'. Refute it at one input. -/
def fnExactSendValidWrong : ChangeSpec := { name := "fnExactSendValid", fn := fun _ => fun
  | [d] => { results := [.lit (.bool false)], args := [d] }
  | _ => none }
def FnExactSendValidWrongFalsely : Prop := fnExactSendValidRow.holds Try.pinned (OpenSpec.ofChange fnExactSendValidWrong)

/-- 'laws.FnSendStatus': WHATEVER THE INPUT: true; the input reads as it did. -/
def fnSendStatusSpec : ChangeSpec := { name := "fnSendStatus", fn := fun _ => fun
  | [d] => { results := [.lit (.bool true)], args := [d] }
  | _ => none }
def fnSendStatusRow : OpenClaim := { program := "ytkfjcamkgigolaa", sum := "034739c2d82ee3ae2f0a3c1add9dff1962158ae150373b689b96ce9a058063e0", func := "loop.example/serialpair/laws.FnSendStatus", spec := "fnSendStatus", apart := false }
def FnSendStatusSaid : Prop := fnSendStatusRow.holds Try.pinned (OpenSpec.ofChange fnSendStatusSpec)

/-- ITS FALSE NEIGHBOUR: 'it returns false'. Refute it at one input. -/
def fnSendStatusWrong : ChangeSpec := { name := "fnSendStatus", fn := fun _ => fun
  | [d] => { results := [.lit (.bool false)], args := [d] }
  | _ => none }
def FnSendStatusWrongFalsely : Prop := fnSendStatusRow.holds Try.pinned (OpenSpec.ofChange fnSendStatusWrong)

/-- 'laws.FnExactSendWaits': WHATEVER THE INPUT: true; the input reads as it did. -/
def fnExactSendWaitsSpec : ChangeSpec := { name := "fnExactSendWaits", fn := fun _ => fun
  | [d] => { results := [.lit (.bool true)], args := [d] }
  | _ => none }
def fnExactSendWaitsRow : OpenClaim := { program := "ytkfjcamkgigolaa", sum := "034739c2d82ee3ae2f0a3c1add9dff1962158ae150373b689b96ce9a058063e0", func := "loop.example/serialpair/laws.FnExactSendWaits", spec := "fnExactSendWaits", apart := false }
def FnExactSendWaitsSaid : Prop := fnExactSendWaitsRow.holds Try.pinned (OpenSpec.ofChange fnExactSendWaitsSpec)

/-- ITS FALSE NEIGHBOUR: 'it returns false'. Refute it at one input. -/
def fnExactSendWaitsWrong : ChangeSpec := { name := "fnExactSendWaits", fn := fun _ => fun
  | [d] => { results := [.lit (.bool false)], args := [d] }
  | _ => none }
def FnExactSendWaitsWrongFalsely : Prop := fnExactSendWaitsRow.holds Try.pinned (OpenSpec.ofChange fnExactSendWaitsWrong)

/-- 'laws.FnExactSendStatus': WHATEVER THE INPUT: true; the input reads as it did. -/
def fnExactSendStatusSpec : ChangeSpec := { name := "fnExactSendStatus", fn := fun _ => fun
  | [d] => { results := [.lit (.bool true)], args := [d] }
  | _ => none }
def fnExactSendStatusRow : OpenClaim := { program := "ytkfjcamkgigolaa", sum := "034739c2d82ee3ae2f0a3c1add9dff1962158ae150373b689b96ce9a058063e0", func := "loop.example/serialpair/laws.FnExactSendStatus", spec := "fnExactSendStatus", apart := false }
def FnExactSendStatusSaid : Prop := fnExactSendStatusRow.holds Try.pinned (OpenSpec.ofChange fnExactSendStatusSpec)

/-- ITS FALSE NEIGHBOUR: 'it returns false'. Refute it at one input. -/
def fnExactSendStatusWrong : ChangeSpec := { name := "fnExactSendStatus", fn := fun _ => fun
  | [d] => { results := [.lit (.bool false)], args := [d] }
  | _ => none }
def FnExactSendStatusWrongFalsely : Prop := fnExactSendStatusRow.holds Try.pinned (OpenSpec.ofChange fnExactSendStatusWrong)

/- THE SECOND FORM. 'bulk': how many values and letters a reading holds, each counted each time it is reached (what is shared counts as often as it is met; a slice's spare places count too). A statement '..UptoSaid' is the law's where the arguments, and the package variables that the reading takes, are together of bulk at most 1048576: NARROWER than '..Said'. Prove '..Said' where nothing that the law and all that it calls make is longer than what came in: it says more and counts as full. Else prove '..UptoSaid'. A law counts once. -/
mutual
def uptoBulk {H : Type} : DataW H → Nat
  | .lit (.string bytes) => bytes.length + 1
  | .lit _ => 1
  | .nil => 1
  | .ptr d => uptoBulk d + 1
  | .slice elems spare => uptoBulkAll elems + uptoBulkAll spare + 1
  | .agg parts => uptoBulkAll parts + 1
  | .iface _ d => uptoBulk d + 1
  | .map entries => uptoBulkEntries entries + 1
  | .held _ => 1
def uptoBulkAll {H : Type} : List (DataW H) → Nat
  | [] => 0
  | d :: r => uptoBulk d + uptoBulkAll r
def uptoBulkEntries {H : Type} : List (Lit × DataW H) → Nat
  | [] => 0
  | x :: r => uptoBulkEntry x + uptoBulkEntries r
def uptoBulkEntry {H : Type} : Lit × DataW H → Nat
  | (.string bytes, d) => bytes.length + uptoBulk d + 1
  | (_, d) => uptoBulk d + 1
 end
def uptoSmall : (H : Type) → List (DataW H) → Bool := fun _ ds => decide (uptoBulkAll ds ≤ 1048576)
def OpenSpec.upto (s : _root_.Go.ChangeSpec) : _root_.Go.OpenSpec := { _root_.Go.OpenSpec.ofChange s with cond := some uptoSmall }

/-- 'laws.FnFifoPart', WHERE WHAT IT READS IS OF BULK AT MOST 1048576: true; the input reads as it did. -/
def fnFifoPartUptoRow : OpenClaim := { program := "ytkfjcamkgigolaa", sum := "034739c2d82ee3ae2f0a3c1add9dff1962158ae150373b689b96ce9a058063e0", func := "loop.example/serialpair/laws.FnFifoPart", spec := "fnFifoPart", apart := false, narrowed := true }
def FnFifoPartUptoSaid : Prop := fnFifoPartUptoRow.holds Try.pinned (OpenSpec.upto fnFifoPartSpec)

/-- 'laws.FnExactFifoValid', WHERE WHAT IT READS IS OF BULK AT MOST 1048576: true; the input reads as it did. -/
def fnExactFifoValidUptoRow : OpenClaim := { program := "ytkfjcamkgigolaa", sum := "034739c2d82ee3ae2f0a3c1add9dff1962158ae150373b689b96ce9a058063e0", func := "loop.example/serialpair/laws.FnExactFifoValid", spec := "fnExactFifoValid", apart := false, narrowed := true }
def FnExactFifoValidUptoSaid : Prop := fnExactFifoValidUptoRow.holds Try.pinned (OpenSpec.upto fnExactFifoValidSpec)

/-- 'laws.FnSendPart', WHERE WHAT IT READS IS OF BULK AT MOST 1048576: true; the input reads as it did. -/
def fnSendPartUptoRow : OpenClaim := { program := "ytkfjcamkgigolaa", sum := "034739c2d82ee3ae2f0a3c1add9dff1962158ae150373b689b96ce9a058063e0", func := "loop.example/serialpair/laws.FnSendPart", spec := "fnSendPart", apart := false, narrowed := true }
def FnSendPartUptoSaid : Prop := fnSendPartUptoRow.holds Try.pinned (OpenSpec.upto fnSendPartSpec)

/-- 'laws.FnExactSendValid', WHERE WHAT IT READS IS OF BULK AT MOST 1048576: true; the input reads as it did. -/
def fnExactSendValidUptoRow : OpenClaim := { program := "ytkfjcamkgigolaa", sum := "034739c2d82ee3ae2f0a3c1add9dff1962158ae150373b689b96ce9a058063e0", func := "loop.example/serialpair/laws.FnExactSendValid", spec := "fnExactSendValid", apart := false, narrowed := true }
def FnExactSendValidUptoSaid : Prop := fnExactSendValidUptoRow.holds Try.pinned (OpenSpec.upto fnExactSendValidSpec)

/-- 'laws.FnSendStatus', WHERE WHAT IT READS IS OF BULK AT MOST 1048576: true; the input reads as it did. -/
def fnSendStatusUptoRow : OpenClaim := { program := "ytkfjcamkgigolaa", sum := "034739c2d82ee3ae2f0a3c1add9dff1962158ae150373b689b96ce9a058063e0", func := "loop.example/serialpair/laws.FnSendStatus", spec := "fnSendStatus", apart := false, narrowed := true }
def FnSendStatusUptoSaid : Prop := fnSendStatusUptoRow.holds Try.pinned (OpenSpec.upto fnSendStatusSpec)

/-- 'laws.FnExactSendWaits', WHERE WHAT IT READS IS OF BULK AT MOST 1048576: true; the input reads as it did. -/
def fnExactSendWaitsUptoRow : OpenClaim := { program := "ytkfjcamkgigolaa", sum := "034739c2d82ee3ae2f0a3c1add9dff1962158ae150373b689b96ce9a058063e0", func := "loop.example/serialpair/laws.FnExactSendWaits", spec := "fnExactSendWaits", apart := false, narrowed := true }
def FnExactSendWaitsUptoSaid : Prop := fnExactSendWaitsUptoRow.holds Try.pinned (OpenSpec.upto fnExactSendWaitsSpec)

/-- 'laws.FnExactSendStatus', WHERE WHAT IT READS IS OF BULK AT MOST 1048576: true; the input reads as it did. -/
def fnExactSendStatusUptoRow : OpenClaim := { program := "ytkfjcamkgigolaa", sum := "034739c2d82ee3ae2f0a3c1add9dff1962158ae150373b689b96ce9a058063e0", func := "loop.example/serialpair/laws.FnExactSendStatus", spec := "fnExactSendStatus", apart := false, narrowed := true }
def FnExactSendStatusUptoSaid : Prop := fnExactSendStatusUptoRow.holds Try.pinned (OpenSpec.upto fnExactSendStatusSpec)

end Rows
end Go.Proofs.Ytkfjcamkgigolaa
