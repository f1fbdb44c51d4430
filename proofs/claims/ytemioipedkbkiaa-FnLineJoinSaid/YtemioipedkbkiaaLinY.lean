/-
  Walks of the two functions LineByte. Each contract says what the function returns for what the slice reads as, and that nothing that was there has turned.
-/
import Derived.Test.YtemioipedkbkiaaLinB
namespace Go.Proofs.Ytemioipedkbkiaa
open Go.RowKit
set_option linter.unusedVariables false

def lbOk (a b c : Int) (n : Nat) (zs : List Int) (x : Int) : Prop := fv a b c = true ∧ smp n zs = true ∧ 0 ≤ x ∧ x < (n : Int)
instance (a b c : Int) (n : Nat) (zs : List Int) (x : Int) : Decidable (lbOk a b c n zs x) := by unfold lbOk; infer_instance
def lbv (a b c : Int) (n : Nat) (zs : List Int) (x : Int) : Int := if lbOk a b c n zs x then byv a b c zs x.toNat else 0
def lbc (a b c : Int) (n : Nat) (zs : List Int) (x : Int) : Int := if lbOk a b c n zs x then byc a b c zs x.toNat else 3
theorem lb_in {a b c : Int} {n : Nat} {zs : List Int} {x : Int} (h1 : fv a b c = true) (h2 : smp n zs = true) (h3 : 0 ≤ x) (h4 : x < (n : Int)) : lbv a b c n zs x = byv a b c zs x.toNat ∧ lbc a b c n zs x = byc a b c zs x.toNat := by
  unfold lbv lbc; rw [if_pos ⟨h1, h2, h3, h4⟩, if_pos ⟨h1, h2, h3, h4⟩]; exact ⟨rfl, rfl⟩
theorem lb_out {a b c : Int} {n : Nat} {zs : List Int} {x : Int} (h : ¬ lbOk a b c n zs x) : lbv a b c n zs x = 0 ∧ lbc a b c n zs x = 3 := by
  unfold lbv lbc; rw [if_neg h, if_neg h]; exact ⟨rfl, rfl⟩
end Go.Proofs.Ytemioipedkbkiaa
