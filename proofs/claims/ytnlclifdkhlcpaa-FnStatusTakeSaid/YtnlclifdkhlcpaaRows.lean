/-
  No cell of these rows narrows 'for every input' (looked for: loops, veiled, ifaces, maps, wideKeys, modest, calm, conditions, laid).
  DERIVED. THE GIVEN ROWS OF THIS SEAT. 8 by the template 'for every input the law returns true; each argument reads behind the call as it read before'; 0 by the template 'total and deterministic' (their statements: YtnlclifdkhlcpaaTotals.lean).
  GIVEN WITH THE SEED: the statements are not yours to turn. If you find one false, say at which input.
  Laid BY PROGRAM, IN A SANDBOX (cutbox-rows.mjs): the forced cells as the released guide's own fill.sh prints them over the translation ee133eb50b61cdd2… (all of the seat's roots in one cut). By AI agents, Wed Nov 11 2026. No macro, syntax, notation, axiom, sorry.
-/
import Derived.Test.YtnlclifdkhlcpaaChecked
import GoSem.Claim
import GoSem.ClaimJoined
import GoSem.ClaimMapViews
import Derived.JoinedTies
import Derived.KernelRfl
namespace Go.Proofs.Ytnlclifdkhlcpaa
/- THE CELL 'sum', in the pinned program and in every row, IS THE sha256 OF THE DUMP (.gsa) THAT YtnlclifdkhlcpaaProg.lean LOADS. Nothing in Lean hashes anything: it is a label: what it is worth is what the hold of that sum in a sandbox is worth. -/
noncomputable def Try.pinned : Pinned := { name := "ytnlclifdkhlcpaa", sum := "ee133eb50b61cdd210cabee8fc0dbc1341679e3261d8f7be672c690261422e19", checked := Try.checked }
namespace Rows
def none {H : Type} : Left H := { results := [], args := [] }

/-- 'laws.FnRecvPart': WHATEVER THE INPUT: true; the input reads as it did. -/
def fnRecvPartSpec : ChangeSpec := { name := "fnRecvPart", fn := fun _ => fun
  | [d] => { results := [.lit (.bool true)], args := [d] }
  | _ => none }
def fnRecvPartRow : OpenClaim := { program := "ytnlclifdkhlcpaa", sum := "ee133eb50b61cdd210cabee8fc0dbc1341679e3261d8f7be672c690261422e19", func := "loop.example/serialpair/laws.FnRecvPart", spec := "fnRecvPart", apart := false }
def FnRecvPartSaid : Prop := fnRecvPartRow.holds Try.pinned (OpenSpec.ofChange fnRecvPartSpec)

/-- ITS FALSE NEIGHBOUR: 'it returns false'. Refute it at one input. -/
def fnRecvPartWrong : ChangeSpec := { name := "fnRecvPart", fn := fun _ => fun
  | [d] => { results := [.lit (.bool false)], args := [d] }
  | _ => none }
def FnRecvPartWrongFalsely : Prop := fnRecvPartRow.holds Try.pinned (OpenSpec.ofChange fnRecvPartWrong)

/-- 'laws.FnReady': WHATEVER THE INPUT: true; the input reads as it did. -/
def fnReadySpec : ChangeSpec := { name := "fnReady", fn := fun _ => fun
  | [d] => { results := [.lit (.bool true)], args := [d] }
  | _ => none }
def fnReadyRow : OpenClaim := { program := "ytnlclifdkhlcpaa", sum := "ee133eb50b61cdd210cabee8fc0dbc1341679e3261d8f7be672c690261422e19", func := "loop.example/serialpair/laws.FnReady", spec := "fnReady", apart := false }
def FnReadySaid : Prop := fnReadyRow.holds Try.pinned (OpenSpec.ofChange fnReadySpec)

/-- ITS FALSE NEIGHBOUR: 'it returns false'. Refute it at one input. -/
def fnReadyWrong : ChangeSpec := { name := "fnReady", fn := fun _ => fun
  | [d] => { results := [.lit (.bool false)], args := [d] }
  | _ => none }
def FnReadyWrongFalsely : Prop := fnReadyRow.holds Try.pinned (OpenSpec.ofChange fnReadyWrong)

/-- 'laws.FnReadyLateWhen': WHATEVER THE INPUT: true; the input reads as it did. -/
def fnReadyLateWhenSpec : ChangeSpec := { name := "fnReadyLateWhen", fn := fun _ => fun
  | [d] => { results := [.lit (.bool true)], args := [d] }
  | _ => none }
def fnReadyLateWhenRow : OpenClaim := { program := "ytnlclifdkhlcpaa", sum := "ee133eb50b61cdd210cabee8fc0dbc1341679e3261d8f7be672c690261422e19", func := "loop.example/serialpair/laws.FnReadyLateWhen", spec := "fnReadyLateWhen", apart := false }
def FnReadyLateWhenSaid : Prop := fnReadyLateWhenRow.holds Try.pinned (OpenSpec.ofChange fnReadyLateWhenSpec)

/-- ITS FALSE NEIGHBOUR: 'it returns false'. Refute it at one input. -/
def fnReadyLateWhenWrong : ChangeSpec := { name := "fnReadyLateWhen", fn := fun _ => fun
  | [d] => { results := [.lit (.bool false)], args := [d] }
  | _ => none }
def FnReadyLateWhenWrongFalsely : Prop := fnReadyLateWhenRow.holds Try.pinned (OpenSpec.ofChange fnReadyLateWhenWrong)

/-- 'laws.FnExactRecvValid': WHATEVER THE INPUT: true; the input reads as it did. -/
def fnExactRecvValidSpec : ChangeSpec := { name := "fnExactRecvValid", fn := fun _ => fun
  | [d] => { results := [.lit (.bool true)], args := [d] }
  | _ => none }
def fnExactRecvValidRow : OpenClaim := { program := "ytnlclifdkhlcpaa", sum := "ee133eb50b61cdd210cabee8fc0dbc1341679e3261d8f7be672c690261422e19", func := "loop.example/serialpair/laws.FnExactRecvValid", spec := "fnExactRecvValid", apart := false }
def FnExactRecvValidSaid : Prop := fnExactRecvValidRow.holds Try.pinned (OpenSpec.ofChange fnExactRecvValidSpec)

/-- ITS FALSE NEIGHBOUR: 'it returns false'. Refute it at one input. -/
def fnExactRecvValidWrong : ChangeSpec := { name := "fnExactRecvValid", fn := fun _ => fun
  | [d] => { results := [.lit (.bool false)], args := [d] }
  | _ => none }
def FnExactRecvValidWrongFalsely : Prop := fnExactRecvValidRow.holds Try.pinned (OpenSpec.ofChange fnExactRecvValidWrong)

/-- 'laws.FnStatus': WHATEVER THE INPUT: true; the input reads as it did. -/
def fnStatusSpec : ChangeSpec := { name := "fnStatus", fn := fun _ => fun
  | [d] => { results := [.lit (.bool true)], args := [d] }
  | _ => none }
def fnStatusRow : OpenClaim := { program := "ytnlclifdkhlcpaa", sum := "ee133eb50b61cdd210cabee8fc0dbc1341679e3261d8f7be672c690261422e19", func := "loop.example/serialpair/laws.FnStatus", spec := "fnStatus", apart := false }
def FnStatusSaid : Prop := fnStatusRow.holds Try.pinned (OpenSpec.ofChange fnStatusSpec)

/-- ITS FALSE NEIGHBOUR: 'it returns false'. Refute it at one input. -/
def fnStatusWrong : ChangeSpec := { name := "fnStatus", fn := fun _ => fun
  | [d] => { results := [.lit (.bool false)], args := [d] }
  | _ => none }
def FnStatusWrongFalsely : Prop := fnStatusRow.holds Try.pinned (OpenSpec.ofChange fnStatusWrong)

/-- 'laws.FnStatusTake': WHATEVER THE INPUT: true; the input reads as it did. -/
def fnStatusTakeSpec : ChangeSpec := { name := "fnStatusTake", fn := fun _ => fun
  | [d] => { results := [.lit (.bool true)], args := [d] }
  | _ => none }
def fnStatusTakeRow : OpenClaim := { program := "ytnlclifdkhlcpaa", sum := "ee133eb50b61cdd210cabee8fc0dbc1341679e3261d8f7be672c690261422e19", func := "loop.example/serialpair/laws.FnStatusTake", spec := "fnStatusTake", apart := false }
def FnStatusTakeSaid : Prop := fnStatusTakeRow.holds Try.pinned (OpenSpec.ofChange fnStatusTakeSpec)

/-- ITS FALSE NEIGHBOUR: 'it returns false'. Refute it at one input. -/
def fnStatusTakeWrong : ChangeSpec := { name := "fnStatusTake", fn := fun _ => fun
  | [d] => { results := [.lit (.bool false)], args := [d] }
  | _ => none }
def FnStatusTakeWrongFalsely : Prop := fnStatusTakeRow.holds Try.pinned (OpenSpec.ofChange fnStatusTakeWrong)

/-- 'laws.FnExactRecvReady': WHATEVER THE INPUT: true; the input reads as it did. -/
def fnExactRecvReadySpec : ChangeSpec := { name := "fnExactRecvReady", fn := fun _ => fun
  | [d] => { results := [.lit (.bool true)], args := [d] }
  | _ => none }
def fnExactRecvReadyRow : OpenClaim := { program := "ytnlclifdkhlcpaa", sum := "ee133eb50b61cdd210cabee8fc0dbc1341679e3261d8f7be672c690261422e19", func := "loop.example/serialpair/laws.FnExactRecvReady", spec := "fnExactRecvReady", apart := false }
def FnExactRecvReadySaid : Prop := fnExactRecvReadyRow.holds Try.pinned (OpenSpec.ofChange fnExactRecvReadySpec)

/-- ITS FALSE NEIGHBOUR: 'it returns false'. Refute it at one input. -/
def fnExactRecvReadyWrong : ChangeSpec := { name := "fnExactRecvReady", fn := fun _ => fun
  | [d] => { results := [.lit (.bool false)], args := [d] }
  | _ => none }
def FnExactRecvReadyWrongFalsely : Prop := fnExactRecvReadyRow.holds Try.pinned (OpenSpec.ofChange fnExactRecvReadyWrong)

/-- 'laws.FnExactRecvStatus': WHATEVER THE INPUT: true; the input reads as it did. -/
def fnExactRecvStatusSpec : ChangeSpec := { name := "fnExactRecvStatus", fn := fun _ => fun
  | [d] => { results := [.lit (.bool true)], args := [d] }
  | _ => none }
def fnExactRecvStatusRow : OpenClaim := { program := "ytnlclifdkhlcpaa", sum := "ee133eb50b61cdd210cabee8fc0dbc1341679e3261d8f7be672c690261422e19", func := "loop.example/serialpair/laws.FnExactRecvStatus", spec := "fnExactRecvStatus", apart := false }
def FnExactRecvStatusSaid : Prop := fnExactRecvStatusRow.holds Try.pinned (OpenSpec.ofChange fnExactRecvStatusSpec)

/-- ITS FALSE NEIGHBOUR: 'it returns false'. Refute it at one input. -/
def fnExactRecvStatusWrong : ChangeSpec := { name := "fnExactRecvStatus", fn := fun _ => fun
  | [d] => { results := [.lit (.bool false)], args := [d] }
  | _ => none }
def FnExactRecvStatusWrongFalsely : Prop := fnExactRecvStatusRow.holds Try.pinned (OpenSpec.ofChange fnExactRecvStatusWrong)

/- THE SECOND FORM. 'bulk': how many values and letters a reading holds, each counted each time it is reached (what is shared counts as often as it is met; a slice's spare places count too). A statement '..UptoSaid' is the law's where the arguments, and the package variables that the reading takes, are together of bulk at most 1048576: NARROWER than '..Said'. Prove '..Said' where nothing that the law and all that it calls make is longer than what came in: it says more and counts as full. Else prove '..UptoSaid'. A law counts once. -/
mutual
def uptoBulk {H : Type} : DataW H → Nat
  | .lit (.string bytes) => bytes.length + 1
  | .lit _ => 1
  | .nil => 1
  | .ptr d => uptoBulk d + 1
  | .slice elems spare => uptoBulkAll elems + uptoBulkAll spare + 1
  | .agg parts => uptoBulkAll parts + 1
  | .iface _ d => uptoBulk d + 1
  | .map entries => uptoBulkEntries entries + 1
  | .held _ => 1
def uptoBulkAll {H : Type} : List (DataW H) → Nat
  | [] => 0
  | d :: r => uptoBulk d + uptoBulkAll r
def uptoBulkEntries {H : Type} : List (Lit × DataW H) → Nat
  | [] => 0
  | x :: r => uptoBulkEntry x + uptoBulkEntries r
def uptoBulkEntry {H : Type} : Lit × DataW H → Nat
  | (.string bytes, d) => bytes.length + uptoBulk d + 1
  | (_, d) => uptoBulk d + 1
 end
def uptoSmall : (H : Type) → List (DataW H) → Bool := fun _ ds => decide (uptoBulkAll ds ≤ 1048576)
def OpenSpec.upto (s : _root_.Go.ChangeSpec) : _root_.Go.OpenSpec := { _root_.Go.OpenSpec.ofChange s with cond := some uptoSmall }

/-- 'laws.FnRecvPart', WHERE WHAT IT READS IS OF BULK AT MOST 1048576: true; the input reads as it did. -/
def fnRecvPartUptoRow : OpenClaim := { program := "ytnlclifdkhlcpaa", sum := "ee133eb50b61cdd210cabee8fc0dbc1341679e3261d8f7be672c690261422e19", func := "loop.example/serialpair/laws.FnRecvPart", spec := "fnRecvPart", apart := false, narrowed := true }
def FnRecvPartUptoSaid : Prop := fnRecvPartUptoRow.holds Try.pinned (OpenSpec.upto fnRecvPartSpec)

/-- 'laws.FnReady', WHERE WHAT IT READS IS OF BULK AT MOST 1048576: true; the input reads as it did. -/
def fnReadyUptoRow : OpenClaim := { program := "ytnlclifdkhlcpaa", sum := "ee133eb50b61cdd210cabee8fc0dbc1341679e3261d8f7be672c690261422e19", func := "loop.example/serialpair/laws.FnReady", spec := "fnReady", apart := false, narrowed := true }
def FnReadyUptoSaid : Prop := fnReadyUptoRow.holds Try.pinned (OpenSpec.upto fnReadySpec)

/-- 'laws.FnReadyLateWhen', WHERE WHAT IT READS IS OF BULK AT MOST 1048576: true; the input reads as it did. -/
def fnReadyLateWhenUptoRow : OpenClaim := { program := "ytnlclifdkhlcpaa", sum := "ee133eb50b61cdd210cabee8fc0dbc1341679e3261d8f7be672c690261422e19", func := "loop.example/serialpair/laws.FnReadyLateWhen", spec := "fnReadyLateWhen", apart := false, narrowed := true }
def FnReadyLateWhenUptoSaid : Prop := fnReadyLateWhenUptoRow.holds Try.pinned (OpenSpec.upto fnReadyLateWhenSpec)

/-- 'laws.FnExactRecvValid', WHERE WHAT IT READS IS OF BULK AT MOST 1048576: true; the input reads as it did. -/
def fnExactRecvValidUptoRow : OpenClaim := { program := "ytnlclifdkhlcpaa", sum := "ee133eb50b61cdd210cabee8fc0dbc1341679e3261d8f7be672c690261422e19", func := "loop.example/serialpair/laws.FnExactRecvValid", spec := "fnExactRecvValid", apart := false, narrowed := true }
def FnExactRecvValidUptoSaid : Prop := fnExactRecvValidUptoRow.holds Try.pinned (OpenSpec.upto fnExactRecvValidSpec)

/-- 'laws.FnStatus', WHERE WHAT IT READS IS OF BULK AT MOST 1048576: true; the input reads as it did. -/
def fnStatusUptoRow : OpenClaim := { program := "ytnlclifdkhlcpaa", sum := "ee133eb50b61cdd210cabee8fc0dbc1341679e3261d8f7be672c690261422e19", func := "loop.example/serialpair/laws.FnStatus", spec := "fnStatus", apart := false, narrowed := true }
def FnStatusUptoSaid : Prop := fnStatusUptoRow.holds Try.pinned (OpenSpec.upto fnStatusSpec)

/-- 'laws.FnStatusTake', WHERE WHAT IT READS IS OF BULK AT MOST 1048576: true; the input reads as it did. -/
def fnStatusTakeUptoRow : OpenClaim := { program := "ytnlclifdkhlcpaa", sum := "ee133eb50b61cdd210cabee8fc0dbc1341679e3261d8f7be672c690261422e19", func := "loop.example/serialpair/laws.FnStatusTake", spec := "fnStatusTake", apart := false, narrowed := true }
def FnStatusTakeUptoSaid : Prop := fnStatusTakeUptoRow.holds Try.pinned (OpenSpec.upto fnStatusTakeSpec)

/-- 'laws.FnExactRecvReady', WHERE WHAT IT READS IS OF BULK AT MOST 1048576: true; the input reads as it did. -/
def fnExactRecvReadyUptoRow : OpenClaim := { program := "ytnlclifdkhlcpaa", sum := "ee133eb50b61cdd210cabee8fc0dbc1341679e3261d8f7be672c690261422e19", func := "loop.example/serialpair/laws.FnExactRecvReady", spec := "fnExactRecvReady", apart := false, narrowed := true }
def FnExactRecvReadyUptoSaid : Prop := fnExactRecvReadyUptoRow.holds Try.pinned (OpenSpec.upto fnExactRecvReadySpec)

/-- 'laws.FnExactRecvStatus', WHERE WHAT IT READS IS OF BULK AT MOST 1048576: true; the input reads as it did. -/
def fnExactRecvStatusUptoRow : OpenClaim := { program := "ytnlclifdkhlcpaa", sum := "ee133eb50b61cdd210cabee8fc0dbc1341679e3261d8f7be672c690261422e19", func := "loop.example/serialpair/laws.FnExactRecvStatus", spec := "fnExactRecvStatus", apart := false, narrowed := true }
def FnExactRecvStatusUptoSaid : Prop := fnExactRecvStatusUptoRow.holds Try.pinned (OpenSpec.upto fnExactRecvStatusSpec)

end Rows
end Go.Proofs.Ytnlclifdkhlcpaa
