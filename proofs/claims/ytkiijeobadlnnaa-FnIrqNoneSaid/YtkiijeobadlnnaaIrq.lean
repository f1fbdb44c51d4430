/-
  Walks of the functions on interrupts' ranks and bits. Each contract says what the function returns and that nothing that was there has turned.
-/
import Derived.Test.YtkiijeobadlnnaaRows
import Derived.Test.YtkiijeobadlnnaaKit
import Derived.Deep.WholeRow
namespace Go.Proofs.Ytkiijeobadlnnaa
open Go.RowKit

def rkOf (q : Int) : Int := if q = 6 then 0 else if q = 4 then 1 else if q = 12 then 2 else if q = 2 then 3 else if q = 0 then 4 else if q = 1 then 5 else -1
def bitOf (q : Int) : Int := if q = 6 then 4 else if q = 4 then 1 else if q = 12 then 1 else if q = 2 then 2 else if q = 0 then 8 else if q = 1 then 0 else -1
def knows (q : Int) : Bool := q == 6 || q == 4 || q == 12 || q == 2 || q == 0 || q == 1
theorem irq_cases (q : Int) : q = 6 ∨ q = 4 ∨ q = 12 ∨ q = 2 ∨ q = 0 ∨ q = 1 ∨ ((6 == q) = false ∧ (4 == q) = false ∧ (12 == q) = false ∧ (2 == q) = false ∧ (0 == q) = false ∧ (1 == q) = false) := by
  simp; omega
theorem irq_none {q : Int} (h : (6 == q) = false ∧ (4 == q) = false ∧ (12 == q) = false ∧ (2 == q) = false ∧ (0 == q) = false ∧ (1 == q) = false) : rkOf q = -1 ∧ bitOf q = -1 ∧ knows q = false := by
  simp at h
  refine ⟨?_, ?_, ?_⟩
  · unfold rkOf; rw [if_neg (by omega), if_neg (by omega), if_neg (by omega), if_neg (by omega), if_neg (by omega), if_neg (by omega)]
  · unfold bitOf; rw [if_neg (by omega), if_neg (by omega), if_neg (by omega), if_neg (by omega), if_neg (by omega), if_neg (by omega)]
  · simp [knows]; omega

def kindsV : Array Value := #[.int .i64 0, .int .i64 6, .int .i64 4, .int .i64 1, .int .i64 4, .int .i64 1, .int .i64 2, .int .i64 12, .int .i64 1, .int .i64 3, .int .i64 2, .int .i64 2, .int .i64 4, .int .i64 0, .int .i64 8, .int .i64 5, .int .i64 1, .int .i64 0]
theorem kinds_one : kindsV.all (·.oneCell') = true := by decide +kernel
theorem kinds_size : (Try.prog.info? 35).map (·.size) = some kindsV.size := by kernel_rfl
theorem kinds_any (w : World) :
    Calls Try.prog 11 #[] w fun e w' => e = .returned (.agg kindsV) ∧ w.alloc (.cells kindsV 35) = w' := by
  go_enter Try.func11, Try.ntmps11
  go_wp2_with (refine wpList_store_row rfl 35 (.tmp 0) (.tmp 7) rfl w.heap.size kindsV rfl rfl 35 _ (heap_alloc_new _ _) kinds_size rfl kinds_one ?_)
  rw [World.setRow_alloc_new]
  exact bodyPost_ret (v := .agg kindsV) (results_cell_row (g := w.heap.size) rfl _ _ 35 kindsV (0, 0) _ rfl (heap_alloc_new _ _) Try.underlying35 rfl (by kernel_rfl)) rfl ⟨rfl, rfl⟩

theorem kind_at (w : World) :
    (Instr.index 35 (.agg kindsV) (.int .i64 0)).run Try.prog w = .ok (.agg #[.int .i64 0, .int .i64 6, .int .i64 4]) w ∧ (Instr.index 35 (.agg kindsV) (.int .i64 1)).run Try.prog w = .ok (.agg #[.int .i64 1, .int .i64 4, .int .i64 1]) w ∧
    (Instr.index 35 (.agg kindsV) (.int .i64 2)).run Try.prog w = .ok (.agg #[.int .i64 2, .int .i64 12, .int .i64 1]) w ∧ (Instr.index 35 (.agg kindsV) (.int .i64 3)).run Try.prog w = .ok (.agg #[.int .i64 3, .int .i64 2, .int .i64 2]) w ∧
    (Instr.index 35 (.agg kindsV) (.int .i64 4)).run Try.prog w = .ok (.agg #[.int .i64 4, .int .i64 0, .int .i64 8]) w ∧ (Instr.index 35 (.agg kindsV) (.int .i64 5)).run Try.prog w = .ok (.agg #[.int .i64 5, .int .i64 1, .int .i64 0]) w :=
  ⟨by kernel_rfl, by kernel_rfl, by kernel_rfl, by kernel_rfl, by kernel_rfl, by kernel_rfl⟩

end Go.Proofs.Ytkiijeobadlnnaa
