/-
  No cell of these rows narrows 'for every input' (looked for: loops, veiled, ifaces, maps, wideKeys, modest, calm, conditions, laid).
  DERIVED. THE GIVEN ROWS OF THIS SEAT. 5 by the template 'for every input the law returns true; each argument reads behind the call as it read before'; 0 by the template 'total and deterministic' (their statements: YtemioipedkbkiaaTotals.lean).
  GIVEN WITH THE SEED: the statements are not yours to turn. If you find one false, say at which input.
  Laid BY PROGRAM, IN A SANDBOX (cutbox-rows.mjs): the forced cells as the released guide's own fill.sh prints them over the translation d58d05fd804c0992… (all of the seat's roots in one cut). By AI agents, Wed Nov 11 2026. No macro, syntax, notation, axiom, sorry.
-/
import Derived.Test.YtemioipedkbkiaaChecked
import GoSem.Claim
import GoSem.ClaimJoined
import GoSem.ClaimMapViews
import Derived.JoinedTies
import Derived.KernelRfl
namespace Go.Proofs.Ytemioipedkbkiaa
/- THE CELL 'sum', in the pinned program and in every row, IS THE sha256 OF THE DUMP (.gsa) THAT YtemioipedkbkiaaProg.lean LOADS. Nothing in Lean hashes anything: it is a label: what it is worth is what the hold of that sum in a sandbox is worth. -/
noncomputable def Try.pinned : Pinned := { name := "ytemioipedkbkiaa", sum := "d58d05fd804c0992658199a8d76ec210ee030b8ef7d7a31ac8ac74318055389b", checked := Try.checked }
namespace Rows
def none {H : Type} : Left H := { results := [], args := [] }

/-- 'laws.FnExactLineOf': WHATEVER THE INPUT: true; the input reads as it did. -/
def fnExactLineOfSpec : ChangeSpec := { name := "fnExactLineOf", fn := fun _ => fun
  | [d1, d2, d3] => { results := [.lit (.bool true)], args := [d1, d2, d3] }
  | _ => none }
def fnExactLineOfRow : OpenClaim := { program := "ytemioipedkbkiaa", sum := "d58d05fd804c0992658199a8d76ec210ee030b8ef7d7a31ac8ac74318055389b", func := "loop.example/serialpair/laws.FnExactLineOf", spec := "fnExactLineOf", unfollowed := true, recurses := true, apart := false }
def FnExactLineOfSaid : Prop := fnExactLineOfRow.holds Try.pinned (OpenSpec.ofChange fnExactLineOfSpec)

/-- ITS FALSE NEIGHBOUR: 'it returns false'. Refute it at one input. -/
def fnExactLineOfWrong : ChangeSpec := { name := "fnExactLineOf", fn := fun _ => fun
  | [d1, d2, d3] => { results := [.lit (.bool false)], args := [d1, d2, d3] }
  | _ => none }
def FnExactLineOfWrongFalsely : Prop := fnExactLineOfRow.holds Try.pinned (OpenSpec.ofChange fnExactLineOfWrong)

/-- 'laws.FnLineLength': WHATEVER THE INPUT: true; the input reads as it did. -/
def fnLineLengthSpec : ChangeSpec := { name := "fnLineLength", fn := fun _ => fun
  | [d] => { results := [.lit (.bool true)], args := [d] }
  | _ => none }
def fnLineLengthRow : OpenClaim := { program := "ytemioipedkbkiaa", sum := "d58d05fd804c0992658199a8d76ec210ee030b8ef7d7a31ac8ac74318055389b", func := "loop.example/serialpair/laws.FnLineLength", spec := "fnLineLength", unfollowed := true, recurses := true, apart := false }
def FnLineLengthSaid : Prop := fnLineLengthRow.holds Try.pinned (OpenSpec.ofChange fnLineLengthSpec)

/-- ITS FALSE NEIGHBOUR: 'it returns false'. Refute it at one input. -/
def fnLineLengthWrong : ChangeSpec := { name := "fnLineLength", fn := fun _ => fun
  | [d] => { results := [.lit (.bool false)], args := [d] }
  | _ => none }
def FnLineLengthWrongFalsely : Prop := fnLineLengthRow.holds Try.pinned (OpenSpec.ofChange fnLineLengthWrong)

/-- 'laws.FnLineJoin': WHATEVER THE INPUT: true; the input reads as it did. -/
def fnLineJoinSpec : ChangeSpec := { name := "fnLineJoin", fn := fun _ => fun
  | [d1, d2] => { results := [.lit (.bool true)], args := [d1, d2] }
  | _ => none }
def fnLineJoinRow : OpenClaim := { program := "ytemioipedkbkiaa", sum := "d58d05fd804c0992658199a8d76ec210ee030b8ef7d7a31ac8ac74318055389b", func := "loop.example/serialpair/laws.FnLineJoin", spec := "fnLineJoin", unfollowed := true, recurses := true, apart := false }
def FnLineJoinSaid : Prop := fnLineJoinRow.holds Try.pinned (OpenSpec.ofChange fnLineJoinSpec)

/-- ITS FALSE NEIGHBOUR: 'it returns false'. Refute it at one input. -/
def fnLineJoinWrong : ChangeSpec := { name := "fnLineJoin", fn := fun _ => fun
  | [d1, d2] => { results := [.lit (.bool false)], args := [d1, d2] }
  | _ => none }
def FnLineJoinWrongFalsely : Prop := fnLineJoinRow.holds Try.pinned (OpenSpec.ofChange fnLineJoinWrong)

/-- 'laws.FnLineIdle': WHATEVER THE INPUT: true; the input reads as it did. -/
def fnLineIdleSpec : ChangeSpec := { name := "fnLineIdle", fn := fun _ => fun
  | [d] => { results := [.lit (.bool true)], args := [d] }
  | _ => none }
def fnLineIdleRow : OpenClaim := { program := "ytemioipedkbkiaa", sum := "d58d05fd804c0992658199a8d76ec210ee030b8ef7d7a31ac8ac74318055389b", func := "loop.example/serialpair/laws.FnLineIdle", spec := "fnLineIdle", unfollowed := true, recurses := true, apart := false }
def FnLineIdleSaid : Prop := fnLineIdleRow.holds Try.pinned (OpenSpec.ofChange fnLineIdleSpec)

/-- ITS FALSE NEIGHBOUR: 'it returns false'. Refute it at one input. -/
def fnLineIdleWrong : ChangeSpec := { name := "fnLineIdle", fn := fun _ => fun
  | [d] => { results := [.lit (.bool false)], args := [d] }
  | _ => none }
def FnLineIdleWrongFalsely : Prop := fnLineIdleRow.holds Try.pinned (OpenSpec.ofChange fnLineIdleWrong)

/-- 'laws.FnLine': WHATEVER THE INPUT: true; the input reads as it did. -/
def fnLineSpec : ChangeSpec := { name := "fnLine", fn := fun _ => fun
  | [d] => { results := [.lit (.bool true)], args := [d] }
  | _ => none }
def fnLineRow : OpenClaim := { program := "ytemioipedkbkiaa", sum := "d58d05fd804c0992658199a8d76ec210ee030b8ef7d7a31ac8ac74318055389b", func := "loop.example/serialpair/laws.FnLine", spec := "fnLine", unfollowed := true, recurses := true, apart := false }
def FnLineSaid : Prop := fnLineRow.holds Try.pinned (OpenSpec.ofChange fnLineSpec)

/-- ITS FALSE NEIGHBOUR: 'it returns false'. Refute it at one input. -/
def fnLineWrong : ChangeSpec := { name := "fnLine", fn := fun _ => fun
  | [d] => { results := [.lit (.bool false)], args := [d] }
  | _ => none }
def FnLineWrongFalsely : Prop := fnLineRow.holds Try.pinned (OpenSpec.ofChange fnLineWrong)

/- THE SECOND FORM. 'bulk': how many values and letters a reading holds, each counted each time it is reached (what is shared counts as often as it is met; a slice's spare places count too). A statement '..UptoSaid' is the law's where the arguments, and the package variables that the reading takes, are together of bulk at most 1048576: NARROWER than '..Said'. Prove '..Said' where nothing that the law and all that it calls make is longer than what came in: it says more and counts as full. Else prove '..UptoSaid'. A law counts once. -/
mutual
def uptoBulk {H : Type} : DataW H → Nat
  | .lit (.string bytes) => bytes.length + 1
  | .lit _ => 1
  | .nil => 1
  | .ptr d => uptoBulk d + 1
  | .slice elems spare => uptoBulkAll elems + uptoBulkAll spare + 1
  | .agg parts => uptoBulkAll parts + 1
  | .iface _ d => uptoBulk d + 1
  | .map entries => uptoBulkEntries entries + 1
  | .held _ => 1
def uptoBulkAll {H : Type} : List (DataW H) → Nat
  | [] => 0
  | d :: r => uptoBulk d + uptoBulkAll r
def uptoBulkEntries {H : Type} : List (Lit × DataW H) → Nat
  | [] => 0
  | x :: r => uptoBulkEntry x + uptoBulkEntries r
def uptoBulkEntry {H : Type} : Lit × DataW H → Nat
  | (.string bytes, d) => bytes.length + uptoBulk d + 1
  | (_, d) => uptoBulk d + 1
 end
def uptoSmall : (H : Type) → List (DataW H) → Bool := fun _ ds => decide (uptoBulkAll ds ≤ 1048576)
def OpenSpec.upto (s : _root_.Go.ChangeSpec) : _root_.Go.OpenSpec := { _root_.Go.OpenSpec.ofChange s with cond := some uptoSmall }

/-- 'laws.FnExactLineOf', WHERE WHAT IT READS IS OF BULK AT MOST 1048576: true; the input reads as it did. -/
def fnExactLineOfUptoRow : OpenClaim := { program := "ytemioipedkbkiaa", sum := "d58d05fd804c0992658199a8d76ec210ee030b8ef7d7a31ac8ac74318055389b", func := "loop.example/serialpair/laws.FnExactLineOf", spec := "fnExactLineOf", unfollowed := true, recurses := true, apart := false, narrowed := true }
def FnExactLineOfUptoSaid : Prop := fnExactLineOfUptoRow.holds Try.pinned (OpenSpec.upto fnExactLineOfSpec)

/-- 'laws.FnLineLength', WHERE WHAT IT READS IS OF BULK AT MOST 1048576: true; the input reads as it did. -/
def fnLineLengthUptoRow : OpenClaim := { program := "ytemioipedkbkiaa", sum := "d58d05fd804c0992658199a8d76ec210ee030b8ef7d7a31ac8ac74318055389b", func := "loop.example/serialpair/laws.FnLineLength", spec := "fnLineLength", unfollowed := true, recurses := true, apart := false, narrowed := true }
def FnLineLengthUptoSaid : Prop := fnLineLengthUptoRow.holds Try.pinned (OpenSpec.upto fnLineLengthSpec)

/-- 'laws.FnLineJoin', WHERE WHAT IT READS IS OF BULK AT MOST 1048576: true; the input reads as it did. -/
def fnLineJoinUptoRow : OpenClaim := { program := "ytemioipedkbkiaa", sum := "d58d05fd804c0992658199a8d76ec210ee030b8ef7d7a31ac8ac74318055389b", func := "loop.example/serialpair/laws.FnLineJoin", spec := "fnLineJoin", unfollowed := true, recurses := true, apart := false, narrowed := true }
def FnLineJoinUptoSaid : Prop := fnLineJoinUptoRow.holds Try.pinned (OpenSpec.upto fnLineJoinSpec)

/-- 'laws.FnLineIdle', WHERE WHAT IT READS IS OF BULK AT MOST 1048576: true; the input reads as it did. -/
def fnLineIdleUptoRow : OpenClaim := { program := "ytemioipedkbkiaa", sum := "d58d05fd804c0992658199a8d76ec210ee030b8ef7d7a31ac8ac74318055389b", func := "loop.example/serialpair/laws.FnLineIdle", spec := "fnLineIdle", unfollowed := true, recurses := true, apart := false, narrowed := true }
def FnLineIdleUptoSaid : Prop := fnLineIdleUptoRow.holds Try.pinned (OpenSpec.upto fnLineIdleSpec)

/-- 'laws.FnLine', WHERE WHAT IT READS IS OF BULK AT MOST 1048576: true; the input reads as it did. -/
def fnLineUptoRow : OpenClaim := { program := "ytemioipedkbkiaa", sum := "d58d05fd804c0992658199a8d76ec210ee030b8ef7d7a31ac8ac74318055389b", func := "loop.example/serialpair/laws.FnLine", spec := "fnLine", unfollowed := true, recurses := true, apart := false, narrowed := true }
def FnLineUptoSaid : Prop := fnLineUptoRow.holds Try.pinned (OpenSpec.upto fnLineSpec)

end Rows
end Go.Proofs.Ytemioipedkbkiaa
