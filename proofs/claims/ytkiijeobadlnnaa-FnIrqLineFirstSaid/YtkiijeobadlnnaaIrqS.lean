/-
  The reference's interrupt that counts most; what is drawn for the laws on it.
-/
import Derived.Test.YtkiijeobadlnnaaIrqO
import Derived.Test.YtkiijeobadlnnaaDraw
import Derived.Deep.DeepCutAuto
namespace Go.Proofs.Ytkiijeobadlnnaa
open Go.RowKit
set_option linter.unusedVariables false

set_option maxHeartbeats 2000000 in
theorem sOf_yes (st rd en : Int) (md : Bool) (w : World) (s0 : 0 ≤ st) (s1 : st ≤ 127) (r0 : 0 ≤ rd) (r1 : rd ≤ 2) (n0 : 0 ≤ en) (n1 : en ≤ 15) :
    Calls Try.prog 6 #[.int .i64 st, .int .i64 rd, .bool md, .int .i64 en] w fun e w' => e = .returned (.int .i64 (irqS st rd md en)) ∧ w = w' := by
  have x1 : (decide (0 ≤ st) && decide (st ≤ 127)) = true := by simp; omega
  have x2 : (decide (0 ≤ rd) && decide (rd ≤ 2)) = true := by simp; omega
  have x3 : (decide (0 ≤ en) && decide (en ≤ 15)) = true := by simp; omega
  have X1 := hide x1
  have X2 := hide x2
  have X3 := hide x3
  clear x1 x2 x3
  go_enter Try.func6, Try.ntmps6
  go_wp2_with (first | (go_at_call 9; refine (l6In_any _ _ _ _).mono ?_; rintro e w' ⟨rfl, rfl⟩; first | rw [X1.out] | rw [X2.out] | rw [X3.out]) | (go_at_call 10; refine (bit_any _ _ _ (by decide) (by omega) (by omega)).mono ?_; rintro e w' ⟨rfl, rfl⟩))
  all_goals
    go_ret
    refine ⟨ret_int ?_, rfl⟩
    have e2 : st % 16 < 2 → decide (2 ≤ st % 16) = false := fun h => by simp; omega
    simp [irqS, *]
theorem sOf_no (st rd en : Int) (md : Bool) (w : World) (h : irqG st rd en = false) :
    Calls Try.prog 6 #[.int .i64 st, .int .i64 rd, .bool md, .int .i64 en] w fun e w' => e = .returned (.int .i64 1) ∧ w = w' := by
  have hc : (decide (0 ≤ st) && decide (st ≤ 127)) = false ∨ (decide (0 ≤ st) && decide (st ≤ 127)) = true ∧ (decide (0 ≤ rd) && decide (rd ≤ 2)) = false ∨ (decide (0 ≤ st) && decide (st ≤ 127)) = true ∧ (decide (0 ≤ rd) && decide (rd ≤ 2)) = true ∧ (decide (0 ≤ en) && decide (en ≤ 15)) = false := by
    simp only [irqG] at h
    cases h1 : (decide (0 ≤ st) && decide (st ≤ 127)) <;> cases h2 : (decide (0 ≤ rd) && decide (rd ≤ 2)) <;> cases h3 : (decide (0 ≤ en) && decide (en ≤ 15)) <;> simp_all
  clear h
  rcases hc with x1 | ⟨x1, x2⟩ | ⟨x1, x2, x3⟩
  · have X1 := hide x1
    clear x1
    go_enter Try.func6, Try.ntmps6
    go_wp2_with (go_at_call 9; refine (l6In_any _ _ _ _).mono ?_; rintro e w' ⟨rfl, rfl⟩; rw [X1.out])
    go_ret
    exact ⟨rfl, rfl⟩
  · have X1 := hide x1
    have X2 := hide x2
    clear x1 x2
    go_enter Try.func6, Try.ntmps6
    go_wp2_with (go_at_call 9; refine (l6In_any _ _ _ _).mono ?_; rintro e w' ⟨rfl, rfl⟩; first | rw [X1.out] | rw [X2.out])
    go_ret
    exact ⟨rfl, rfl⟩
  · have X1 := hide x1
    have X2 := hide x2
    have X3 := hide x3
    clear x1 x2 x3
    go_enter Try.func6, Try.ntmps6
    go_wp2_with (go_at_call 9; refine (l6In_any _ _ _ _).mono ?_; rintro e w' ⟨rfl, rfl⟩; first | rw [X1.out] | rw [X2.out] | rw [X3.out])
    go_ret
    exact ⟨rfl, rfl⟩
theorem sOf_any (st rd en : Int) (md : Bool) (w : World) :
    Calls Try.prog 6 #[.int .i64 st, .int .i64 rd, .bool md, .int .i64 en] w fun e w' => e = .returned (.int .i64 (irqR st rd md en)) ∧ w = w' := by
  unfold irqR
  cases h : irqG st rd en
  · exact sOf_no st rd en md w h
  · simp [irqG] at h
    rw [if_pos rfl, irqV_eq (by omega) (by omega) (by omega) (by omega)]
    exact sOf_yes st rd en md w (by omega) (by omega) (by omega) (by omega) (by omega) (by omega)
set_option maxHeartbeats 1000000 in
theorem fnExactIrqOf_walk (st : Int) (w0 : (Lit.int .i64 st).wf = true) (rd : Int) (w1 : (Lit.int .i64 rd).wf = true) (md : Bool) (en : Int) (w3 : (Lit.int .i64 en).wf = true) (w : World) :
    Calls Try.prog 3 #[.int .i64 st, .int .i64 rd, .bool md, .int .i64 en] w fun e w' => e = .returned (.bool true) ∧ Below w.heap.size w w' := by
  clear w0 w1 w3
  go_enter Try.func3, Try.ntmps3
  go_wp2_with fail
  refine (sOf_any _ _ _ _ _).mono ?_
  rintro e w' ⟨rfl, rfl⟩
  go_wp2_with fail
  refine (irqOf_any _ _ _ _ _).mono ?_
  rintro e w1 ⟨rfl, k1⟩
  go_wp2
  go_ret
  exact ⟨rfl, k1⟩
end Go.Proofs.Ytkiijeobadlnnaa
