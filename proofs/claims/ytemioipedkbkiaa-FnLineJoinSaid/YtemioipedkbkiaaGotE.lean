/-
  Bytes that came, compared: each contract says what the function returns, and that nothing that was there has turned.
-/
import Derived.Test.YtemioipedkbkiaaGots
import Derived.Deep.RegionHeld3
namespace Go.Proofs.Ytemioipedkbkiaa
open Go.RowKit
set_option linter.unusedVariables false

theorem keep_cell {w w' : World} {p : Addr} {v : Value} (h : w.cell? p = some v) (k : Below w.heap.size w w') : w'.cell? p = some v := (k.cell (lt_of_some (by rw [h]; rfl))).trans h
end Go.Proofs.Ytemioipedkbkiaa
