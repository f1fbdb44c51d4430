/-
  NARROWER THAN 'FOR EVERY INPUT', by the rows' own cells (each row's printed sentence says how): FnExactFormatOf: ifaces, laid · FnFormatOfWhen: ifaces, laid · FnFormatOf: ifaces, laid · FnFormatByte: ifaces, laid.
  DERIVED. THE GIVEN ROWS OF THIS SEAT. 4 by the template 'for every input the law returns true; each argument reads behind the call as it read before'; 0 by the template 'total and deterministic' (their statements: YtkiijeobadlnnaaDoorTotals.lean).
  GIVEN WITH THE SEED: the statements are not yours to turn. If you find one false, say at which input.
  Laid BY PROGRAM, IN A SANDBOX (cutbox-rows.mjs): the forced cells as the released guide's own fill.sh prints them over the translation d22440555a2ffc06… (all of the seat's roots in one cut). By AI agents, Wed Nov 11 2026. No macro, syntax, notation, axiom, sorry.
-/
import Derived.Test.YtkiijeobadlnnaaDoorChecked
import GoSem.Claim
import GoSem.ClaimJoined
import GoSem.ClaimMapViews
import Derived.JoinedTies
import Derived.KernelRfl
namespace Go.Proofs.YtkiijeobadlnnaaDoor
/- THE CELL 'sum', in the pinned program and in every row, IS THE sha256 OF THE DUMP (.gsa) THAT YtkiijeobadlnnaaDoorProg.lean LOADS. Nothing in Lean hashes anything: it is a label: what it is worth is what the hold of that sum in a sandbox is worth. -/
noncomputable def Tryd.pinned : Pinned := { name := "ytkiijeobadlnnaadoor", sum := "d22440555a2ffc067f89864b6175a3764c4f13c34efc5b6fb4c8ed178fbdc834", checked := Tryd.checked }
namespace Rows
def none {H : Type} : Left H := { results := [], args := [] }

/- WHAT THE LISTED PACKAGE-LEVEL VARIABLES READ AS WHEN THE CALL BEGINS. Each datum BY PROGRAM (the guide's laid-datum.mjs) off the statement by which the dump's own 'gosem.cut.vars' lays the variable. In a bare row this is a premise. The card (YtkiijeobadlnnaaDoorCards.lean) ties it to the program's text. -/
def laid_loop_example_serialpair_impl_errNoFormat {H : Type} : DataW H := .iface "*errors.errorString" (.ptr (.agg [.lit (.string [110, 111, 32, 102, 111, 114, 109, 97, 116])]))

/-- 'laws.FnExactFormatOf': WHATEVER THE INPUT: true; the input reads as it did. -/
def fnExactFormatOfSpec : ChangeSpec := { name := "fnExactFormatOf", vars := ["loop.example/serialpair/impl.errNoFormat"], fn := fun _ => fun
  | [d, g1] => { results := [.lit (.bool true)], args := [d], vars := [g1] }
  | _ => none }
def fnExactFormatOfRow : OpenClaim := { program := "ytkiijeobadlnnaadoor", sum := "d22440555a2ffc067f89864b6175a3764c4f13c34efc5b6fb4c8ed178fbdc834", func := "loop.example/serialpair/laws.FnExactFormatOf", spec := "fnExactFormatOf", inPlace := ["internal/reflectlite.TypeOf"], unfollowed := true, recurses := true, named := ["loop.example/serialpair/impl.errNoFormat"], ifaces := true, apart := false, laid := [("loop.example/serialpair/impl.errNoFormat", laid_loop_example_serialpair_impl_errNoFormat)] }
def FnExactFormatOfSaid : Prop := fnExactFormatOfRow.holds Tryd.pinned (OpenSpec.ofChange fnExactFormatOfSpec)

/-- ITS FALSE NEIGHBOUR: 'it returns false'. Refute it at one input. -/
def fnExactFormatOfWrong : ChangeSpec := { name := "fnExactFormatOf", vars := ["loop.example/serialpair/impl.errNoFormat"], fn := fun _ => fun
  | [d, g1] => { results := [.lit (.bool false)], args := [d], vars := [g1] }
  | _ => none }
def FnExactFormatOfWrongFalsely : Prop := fnExactFormatOfRow.holds Tryd.pinned (OpenSpec.ofChange fnExactFormatOfWrong)

/-- 'laws.FnFormatOfWhen': WHATEVER THE INPUT: true; the input reads as it did. -/
def fnFormatOfWhenSpec : ChangeSpec := { name := "fnFormatOfWhen", vars := ["loop.example/serialpair/impl.errNoFormat"], fn := fun _ => fun
  | [d, g1] => { results := [.lit (.bool true)], args := [d], vars := [g1] }
  | _ => none }
def fnFormatOfWhenRow : OpenClaim := { program := "ytkiijeobadlnnaadoor", sum := "d22440555a2ffc067f89864b6175a3764c4f13c34efc5b6fb4c8ed178fbdc834", func := "loop.example/serialpair/laws.FnFormatOfWhen", spec := "fnFormatOfWhen", inPlace := ["internal/reflectlite.TypeOf"], unfollowed := true, recurses := true, named := ["loop.example/serialpair/impl.errNoFormat"], ifaces := true, apart := false, laid := [("loop.example/serialpair/impl.errNoFormat", laid_loop_example_serialpair_impl_errNoFormat)] }
def FnFormatOfWhenSaid : Prop := fnFormatOfWhenRow.holds Tryd.pinned (OpenSpec.ofChange fnFormatOfWhenSpec)

/-- ITS FALSE NEIGHBOUR: 'it returns false'. Refute it at one input. -/
def fnFormatOfWhenWrong : ChangeSpec := { name := "fnFormatOfWhen", vars := ["loop.example/serialpair/impl.errNoFormat"], fn := fun _ => fun
  | [d, g1] => { results := [.lit (.bool false)], args := [d], vars := [g1] }
  | _ => none }
def FnFormatOfWhenWrongFalsely : Prop := fnFormatOfWhenRow.holds Tryd.pinned (OpenSpec.ofChange fnFormatOfWhenWrong)

/-- 'laws.FnFormatOf': WHATEVER THE INPUT: true; the input reads as it did. -/
def fnFormatOfSpec : ChangeSpec := { name := "fnFormatOf", vars := ["loop.example/serialpair/impl.errNoFormat"], fn := fun _ => fun
  | [d, g1] => { results := [.lit (.bool true)], args := [d], vars := [g1] }
  | _ => none }
def fnFormatOfRow : OpenClaim := { program := "ytkiijeobadlnnaadoor", sum := "d22440555a2ffc067f89864b6175a3764c4f13c34efc5b6fb4c8ed178fbdc834", func := "loop.example/serialpair/laws.FnFormatOf", spec := "fnFormatOf", inPlace := ["internal/reflectlite.TypeOf"], unfollowed := true, recurses := true, named := ["loop.example/serialpair/impl.errNoFormat"], ifaces := true, apart := false, laid := [("loop.example/serialpair/impl.errNoFormat", laid_loop_example_serialpair_impl_errNoFormat)] }
def FnFormatOfSaid : Prop := fnFormatOfRow.holds Tryd.pinned (OpenSpec.ofChange fnFormatOfSpec)

/-- ITS FALSE NEIGHBOUR: 'it returns false'. Refute it at one input. -/
def fnFormatOfWrong : ChangeSpec := { name := "fnFormatOf", vars := ["loop.example/serialpair/impl.errNoFormat"], fn := fun _ => fun
  | [d, g1] => { results := [.lit (.bool false)], args := [d], vars := [g1] }
  | _ => none }
def FnFormatOfWrongFalsely : Prop := fnFormatOfRow.holds Tryd.pinned (OpenSpec.ofChange fnFormatOfWrong)

/-- 'laws.FnFormatByte': WHATEVER THE INPUT: true; the input reads as it did. -/
def fnFormatByteSpec : ChangeSpec := { name := "fnFormatByte", vars := ["loop.example/serialpair/impl.errNoFormat"], fn := fun _ => fun
  | [d, g1] => { results := [.lit (.bool true)], args := [d], vars := [g1] }
  | _ => none }
def fnFormatByteRow : OpenClaim := { program := "ytkiijeobadlnnaadoor", sum := "d22440555a2ffc067f89864b6175a3764c4f13c34efc5b6fb4c8ed178fbdc834", func := "loop.example/serialpair/laws.FnFormatByte", spec := "fnFormatByte", inPlace := ["internal/reflectlite.TypeOf"], unfollowed := true, recurses := true, named := ["loop.example/serialpair/impl.errNoFormat"], ifaces := true, apart := false, laid := [("loop.example/serialpair/impl.errNoFormat", laid_loop_example_serialpair_impl_errNoFormat)] }
def FnFormatByteSaid : Prop := fnFormatByteRow.holds Tryd.pinned (OpenSpec.ofChange fnFormatByteSpec)

/-- ITS FALSE NEIGHBOUR: 'it returns false'. Refute it at one input. -/
def fnFormatByteWrong : ChangeSpec := { name := "fnFormatByte", vars := ["loop.example/serialpair/impl.errNoFormat"], fn := fun _ => fun
  | [d, g1] => { results := [.lit (.bool false)], args := [d], vars := [g1] }
  | _ => none }
def FnFormatByteWrongFalsely : Prop := fnFormatByteRow.holds Tryd.pinned (OpenSpec.ofChange fnFormatByteWrong)

/- THE SECOND FORM. 'bulk': how many values and letters a reading holds, each counted each time it is reached (what is shared counts as often as it is met; a slice's spare places count too). A statement '..UptoSaid' is the law's where the arguments, and the package variables that the reading takes, are together of bulk at most 1048576: NARROWER than '..Said'. Prove '..Said' where nothing that the law and all that it calls make is longer than what came in: it says more and counts as full. Else prove '..UptoSaid'. A law counts once. -/
mutual
def uptoBulk {H : Type} : DataW H → Nat
  | .lit (.string bytes) => bytes.length + 1
  | .lit _ => 1
  | .nil => 1
  | .ptr d => uptoBulk d + 1
  | .slice elems spare => uptoBulkAll elems + uptoBulkAll spare + 1
  | .agg parts => uptoBulkAll parts + 1
  | .iface _ d => uptoBulk d + 1
  | .map entries => uptoBulkEntries entries + 1
  | .held _ => 1
def uptoBulkAll {H : Type} : List (DataW H) → Nat
  | [] => 0
  | d :: r => uptoBulk d + uptoBulkAll r
def uptoBulkEntries {H : Type} : List (Lit × DataW H) → Nat
  | [] => 0
  | x :: r => uptoBulkEntry x + uptoBulkEntries r
def uptoBulkEntry {H : Type} : Lit × DataW H → Nat
  | (.string bytes, d) => bytes.length + uptoBulk d + 1
  | (_, d) => uptoBulk d + 1
 end
def uptoSmall : (H : Type) → List (DataW H) → Bool := fun _ ds => decide (uptoBulkAll ds ≤ 1048576)
def OpenSpec.upto (s : _root_.Go.ChangeSpec) : _root_.Go.OpenSpec := { _root_.Go.OpenSpec.ofChange s with cond := some uptoSmall }

/-- 'laws.FnExactFormatOf', WHERE WHAT IT READS IS OF BULK AT MOST 1048576: true; the input reads as it did. -/
def fnExactFormatOfUptoRow : OpenClaim := { program := "ytkiijeobadlnnaadoor", sum := "d22440555a2ffc067f89864b6175a3764c4f13c34efc5b6fb4c8ed178fbdc834", func := "loop.example/serialpair/laws.FnExactFormatOf", spec := "fnExactFormatOf", inPlace := ["internal/reflectlite.TypeOf"], unfollowed := true, recurses := true, named := ["loop.example/serialpair/impl.errNoFormat"], ifaces := true, apart := false, laid := [("loop.example/serialpair/impl.errNoFormat", laid_loop_example_serialpair_impl_errNoFormat)], narrowed := true }
def FnExactFormatOfUptoSaid : Prop := fnExactFormatOfUptoRow.holds Tryd.pinned (OpenSpec.upto fnExactFormatOfSpec)

/-- 'laws.FnFormatOfWhen', WHERE WHAT IT READS IS OF BULK AT MOST 1048576: true; the input reads as it did. -/
def fnFormatOfWhenUptoRow : OpenClaim := { program := "ytkiijeobadlnnaadoor", sum := "d22440555a2ffc067f89864b6175a3764c4f13c34efc5b6fb4c8ed178fbdc834", func := "loop.example/serialpair/laws.FnFormatOfWhen", spec := "fnFormatOfWhen", inPlace := ["internal/reflectlite.TypeOf"], unfollowed := true, recurses := true, named := ["loop.example/serialpair/impl.errNoFormat"], ifaces := true, apart := false, laid := [("loop.example/serialpair/impl.errNoFormat", laid_loop_example_serialpair_impl_errNoFormat)], narrowed := true }
def FnFormatOfWhenUptoSaid : Prop := fnFormatOfWhenUptoRow.holds Tryd.pinned (OpenSpec.upto fnFormatOfWhenSpec)

/-- 'laws.FnFormatOf', WHERE WHAT IT READS IS OF BULK AT MOST 1048576: true; the input reads as it did. -/
def fnFormatOfUptoRow : OpenClaim := { program := "ytkiijeobadlnnaadoor", sum := "d22440555a2ffc067f89864b6175a3764c4f13c34efc5b6fb4c8ed178fbdc834", func := "loop.example/serialpair/laws.FnFormatOf", spec := "fnFormatOf", inPlace := ["internal/reflectlite.TypeOf"], unfollowed := true, recurses := true, named := ["loop.example/serialpair/impl.errNoFormat"], ifaces := true, apart := false, laid := [("loop.example/serialpair/impl.errNoFormat", laid_loop_example_serialpair_impl_errNoFormat)], narrowed := true }
def FnFormatOfUptoSaid : Prop := fnFormatOfUptoRow.holds Tryd.pinned (OpenSpec.upto fnFormatOfSpec)

/-- 'laws.FnFormatByte', WHERE WHAT IT READS IS OF BULK AT MOST 1048576: true; the input reads as it did. -/
def fnFormatByteUptoRow : OpenClaim := { program := "ytkiijeobadlnnaadoor", sum := "d22440555a2ffc067f89864b6175a3764c4f13c34efc5b6fb4c8ed178fbdc834", func := "loop.example/serialpair/laws.FnFormatByte", spec := "fnFormatByte", inPlace := ["internal/reflectlite.TypeOf"], unfollowed := true, recurses := true, named := ["loop.example/serialpair/impl.errNoFormat"], ifaces := true, apart := false, laid := [("loop.example/serialpair/impl.errNoFormat", laid_loop_example_serialpair_impl_errNoFormat)], narrowed := true }
def FnFormatByteUptoSaid : Prop := fnFormatByteUptoRow.holds Tryd.pinned (OpenSpec.upto fnFormatByteSpec)

end Rows
end Go.Proofs.YtkiijeobadlnnaaDoor
