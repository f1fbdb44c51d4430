/-
  What the tied condition gives a walk: the sentinel's variable holds a pointer to an errors.errorString; and the door's own heap meets the condition. No condition beyond the row's own.
-/
import Derived.Test.YtkiijeobadlnnaaDoorRows
import Derived.Test.YtkiijeobadlnnaaDoorOpens
import Derived.ChangeSame
import Derived.ChangeVars
import Derived.JoinedOf
import Derived.RowKit
import Derived.RowKitTokens
import Derived.LaidLaws
import Derived.LaidMore
import Derived.LaidHandle
import Derived.MakeChecks
import Derived.Stop.Joined
import Derived.Stop.LaidErr
namespace Go.Proofs.YtkiijeobadlnnaaDoor
open Go.ChangeShapes Go.WideShapes Go.ChangeAt Go.RowKit

def doorName : String := "loop.example/serialpair/impl.errNoFormat"
def doorLaid : List (String × DataW Unit) := [("loop.example/serialpair/impl.errNoFormat", Rows.laid_loop_example_serialpair_impl_errNoFormat)]
theorem ownNone : ownKnob Tryd.prog.godebug = none := by kernel_rfl
theorem outLaid : laidOutB Tryd.prog = true := by kernel_rfl
theorem doorAt : Tryd.prog.globalNamed "loop.example/serialpair/impl.errNoFormat" = some 0 := by kernel_rfl
theorem doorType : (Tryd.prog.globals[0]?).map (·.type) = some 37 := by kernel_rfl
theorem starred : "*" ++ "errors.errorString" = "*errors.errorString" := by decide
theorem oneRowOf (u : TypeId) (h : Tryd.prog.typeName? 3 u = some "*errors.errorString") : u = 64 :=
  typeName_ptr_named (nm := "errors.errorString") (by rw [starred]; kernel_rfl) (by kernel_rfl) (by decide) u (by rw [starred]; exact h)
theorem of_laid {W : World} (h : laidMetH Tryd.prog doorLaid W) : ∃ a : Addr, W.var? Tryd.prog "loop.example/serialpair/impl.errNoFormat" = some #[.iface 64 (.pointer (some a))] ∧ W.cell? ⟨0, 0, none⟩ = some (.iface 64 (.pointer (some a))) := by
  rw [MakeChecks.laidMetH_plain _ _ _ (by kernel_rfl)] at h
  obtain ⟨a, s, hv, _, _, _⟩ := laid_sentinel h doorAt doorType Tryd.underlying37 oneRowOf Tryd.underlying64 Tryd.underlying90 rfl rfl Tryd.underlying9 (by kernel_rfl) (by kernel_rfl)
  exact ⟨a, hv, by simpa using World.var?_cell doorAt hv 0⟩
theorem door_met (os : Os) (args : Array Value) : laidMetH Tryd.prog doorLaid ((World.doorLaid Tryd.prog 28 os).forCall (fun _ _ => 0) ⟨#[], args, []⟩).memory :=
  laidMetH_of_parts3 (fuel := 8) (laidMet_of_run' 8 (by kernel_rfl) (by kernel_rfl)) (by kernel_rfl) (by kernel_rfl)
theorem var_below {W W' : World} {x : Value} (hv : W.var? Tryd.prog "loop.example/serialpair/impl.errNoFormat" = some #[x]) (hb : Below W.heap.size W W') : W'.var? Tryd.prog "loop.example/serialpair/impl.errNoFormat" = some #[x] := by
  unfold World.var? at hv ⊢
  rw [doorAt] at hv ⊢
  simp only [Option.bind_some] at hv ⊢
  have hg : 0 < W.heap.size := by
    cases hh : W.heap[0]? with
    | none => rw [hh] at hv; cases hv
    | some o => exact (Array.getElem?_eq_some_iff.1 hh).1
  rw [hb.block 0 hg]
  exact hv
end Go.Proofs.YtkiijeobadlnnaaDoor
