/-
  Bytes that came, compared: each contract says what the function returns, and that nothing that was there has turned.
-/
import Derived.Test.YtnbomcglkgbblaaGots
import Derived.Deep.RegionHeld3
namespace Go.Proofs.Ytnbomcglkgbblaa
open Go.RowKit
set_option linter.unusedVariables false

theorem keep_cell {w w' : World} {p : Addr} {v : Value} (h : w.cell? p = some v) (k : Below w.heap.size w w') : w'.cell? p = some v := (k.cell (lt_of_some (by rw [h]; rfl))).trans h
theorem eqGot_same (x y : Int) (w : World) :
    Calls Try.prog 19 #[.agg #[.int .i64 x, .int .i64 y], .agg #[.int .i64 x, .int .i64 y]] w fun e w' => e = .returned (.bool true) ∧ Below w.heap.size w w' := by
  have B := hide (((Below.refl w.heap.size w).alloc (Nat.le_refl _) (.cells #[.int .i64 x, .int .i64 y] 34)).alloc (by simp) (.cells #[.int .i64 x, .int .i64 y] 34))
  go_enter Try.func19, Try.ntmps19
  go_wp2
  go_ret
  exact ⟨rfl, B.out⟩
end Go.Proofs.Ytnbomcglkgbblaa
