/-
  Walks of the functions that draw a format with a byte, and a format with bits. Each contract says that the parts are small integers and that nothing that was there has turned.
-/
import Derived.Test.YtemioipedkbkiaaDrawF
import Derived.Test.YtemioipedkbkiaaFrmE
import Derived.Deep.RegionLaw
import Derived.Deep.RegionHeld3
import Derived.Outline
import Derived.StillTailTactics
namespace Go.Proofs.Ytemioipedkbkiaa
open Go.RowKit
set_option linter.unusedVariables false

theorem Bk.cast {w : World} {g : Nat} {t : TypeId} {cs cs' : Array Value} (h : Bk w g t cs) (e : cs = cs') : Bk w g t cs' := e ▸ h
theorem gen_ret {P : Program} {F : Func} {Q : Ending → World → Prop} {X : Exit} {A : Act} {q : World → Prop} {wz : World} (h1 : q wz) (h2 : ∀ w, q w → bodyPost P F Q X A w) : bodyPost P F Q X A wz := h2 wz h1
theorem but_alloc {w w' : World} {B : Nat} (h : Below B w w') (o : Obj) (hB : B ≤ w.heap.size) : Below B w (w'.alloc o) := h.alloc (Nat.le_trans hB h.size) o
def cl (n : Int) : Int := max (min n 7) 5
theorem cl_bd (n : Int) : 5 ≤ cl n ∧ cl n ≤ 7 := by unfold cl; omega
theorem clamp_any (n : Int) (w : World) :
    Calls Try.prog 40 #[.int .i64 n] w fun e w' => e = .returned (.int .i64 (cl n)) ∧ w = w' := by
  go_enter Try.func40, Try.ntmps40
  go_wp2
  all_goals
    go_ret
    exact ⟨ret_int (by unfold cl; omega), rfl⟩
end Go.Proofs.Ytemioipedkbkiaa
