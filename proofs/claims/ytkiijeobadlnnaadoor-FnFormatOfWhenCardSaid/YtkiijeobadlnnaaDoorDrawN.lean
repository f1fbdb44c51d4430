/-
  Walks of the functions that draw a number. Each contract says that it is in range, and that nothing that was there has turned.
-/
import Derived.Test.YtkiijeobadlnnaaDoorDraw
namespace Go.Proofs.YtkiijeobadlnnaaDoor
open Go.RowKit

/-- A number was drawn. -/
def Nm (lo hi : Int) (w : World) (e : Ending) (w' : World) : Prop := ∃ m : Int, e = .returned (.int .i64 m) ∧ lo ≤ m ∧ m ≤ hi ∧ Below w.heap.size w w'

theorem dDrawFormatOf_any (a : Option Addr) (len cap : Nat) (zs : List Int) (w : World) (h : IsRow .u8 w a len cap zs) :
    Calls Tryd.prog 10 #[.slice a len cap] w (Nm (-1) 34 w) := by
  go_enter Tryd.func10, Tryd.ntmps10
  go_wp2_with fail
  refine (open_any a len cap zs _ h).mono ?_
  rintro e w1 ⟨rfl, hr1, hz1, k1⟩
  have Z1 := hide hz1
  clear hz1
  go_wp2_with fail
  refine (pick_any _ _ _ _ hr1 (by omega) (by omega) (by omega)).mono ?_
  rintro e w2 ⟨m, rfl, hm0, hm1, _, k2⟩
  have K := hide (k2.below k1 (Nat.le_refl _))
  clear k1 k2
  go_wp2
  go_ret
  exact ⟨_, rfl, by omega, by omega, K.out⟩
end Go.Proofs.YtkiijeobadlnnaaDoor
