/-
  Walks of the functions that return the bits of a frame.
-/
import Derived.Test.YtnbomcglkgbblaaPop
import Derived.Test.YtnbomcglkgbblaaOwn
import Derived.Laws.MakeOwn
namespace Go.Proofs.Ytnbomcglkgbblaa
open Go.RowKit
set_option linter.unusedVariables false

/-- The bits of a byte, the least one first; a frame. -/
def fbits (n : Nat) (x : Int) : List Int := (List.range n).map fun i => x / 2 ^ i % 2
def frm (a b c x : Int) : List Int := 0 :: (fbits a.toNat x ++ ((if b = 0 then [] else [pb b x]) ++ List.replicate c.toNat 1))
def fok (a b c x : Int) : Bool := fv a b c && (decide (0 ≤ x) && decide (x < 2 ^ a.toNat))
theorem fb_snoc {k : Nat} {x y : Int} (h : y = x / 2 ^ k % 2) : 0 :: fbits k x ++ [y] = 0 :: fbits (k + 1) x := by
  subst h
  simp [fbits, List.range_succ]
theorem fbits_len (n : Nat) (x : Int) : (fbits n x).length = n := by simp [fbits]
end Go.Proofs.Ytnbomcglkgbblaa
