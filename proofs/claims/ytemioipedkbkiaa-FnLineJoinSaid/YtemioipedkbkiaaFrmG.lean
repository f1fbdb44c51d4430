/-
  Walks of the reference's functions that read a frame; both contracts joined.
-/
import Derived.Test.YtemioipedkbkiaaFrmF
import Derived.Test.YtemioipedkbkiaaFrmS
import Derived.Deep.RegionHeld3
namespace Go.Proofs.Ytemioipedkbkiaa
open Go.RowKit
set_option linter.unusedVariables false

theorem hi_step {zs : List Int} {j : Nat} {H V : Int} (h : vs zs (j + 1) + 2 ^ (j + 1) * H = V) : vs zs j + 2 ^ j * (2 * H + zs.getD (1 + j) 0) = V := by
  rw [← h]
  simp only [vs]
  rw [Int.pow_succ, Int.mul_add, Int.mul_comm (zs.getD (1 + j) 0), Int.mul_assoc, Int.add_assoc, Int.add_comm (2 ^ j * (2 * H))]
theorem hi_bd {zs : List Int} {j : Nat} {H V : Int} (h : vs zs j + 2 ^ j * H = V) (h0 : 0 ≤ vs zs j) (hH : 0 ≤ H) : H ≤ V := by
  have hp : (1 : Int) ≤ 2 ^ j := by have : (0 : Int) < 2 ^ j := Int.pow_pos (by omega); omega
  have : 1 * H ≤ 2 ^ j * H := Int.mul_le_mul_of_nonneg_right hp hH
  omega
end Go.Proofs.Ytemioipedkbkiaa
