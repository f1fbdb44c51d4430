/-
  Walks of the functions on interrupts' ranks and bits. Each contract says what the function returns and that nothing that was there has turned.
-/
import Derived.Test.YtpgbagclcapmmaaRows
import Derived.Test.YtpgbagclcapmmaaKit
import Derived.Deep.WholeRow
namespace Go.Proofs.Ytpgbagclcapmmaa
open Go.RowKit

def rkOf (q : Int) : Int := if q = 6 then 0 else if q = 4 then 1 else if q = 12 then 2 else if q = 2 then 3 else if q = 0 then 4 else if q = 1 then 5 else -1
def bitOf (q : Int) : Int := if q = 6 then 4 else if q = 4 then 1 else if q = 12 then 1 else if q = 2 then 2 else if q = 0 then 8 else if q = 1 then 0 else -1
def knows (q : Int) : Bool := q == 6 || q == 4 || q == 12 || q == 2 || q == 0 || q == 1
theorem irq_cases (q : Int) : q = 6 ∨ q = 4 ∨ q = 12 ∨ q = 2 ∨ q = 0 ∨ q = 1 ∨ ((6 == q) = false ∧ (4 == q) = false ∧ (12 == q) = false ∧ (2 == q) = false ∧ (0 == q) = false ∧ (1 == q) = false) := by
  simp; omega
theorem irq_none {q : Int} (h : (6 == q) = false ∧ (4 == q) = false ∧ (12 == q) = false ∧ (2 == q) = false ∧ (0 == q) = false ∧ (1 == q) = false) : rkOf q = -1 ∧ bitOf q = -1 ∧ knows q = false := by
  simp at h
  refine ⟨?_, ?_, ?_⟩
  · unfold rkOf; rw [if_neg (by omega), if_neg (by omega), if_neg (by omega), if_neg (by omega), if_neg (by omega), if_neg (by omega)]
  · unfold bitOf; rw [if_neg (by omega), if_neg (by omega), if_neg (by omega), if_neg (by omega), if_neg (by omega), if_neg (by omega)]
  · simp [knows]; omega

def kindsV : Array Value := #[.int .i64 0, .int .i64 6, .int .i64 4, .int .i64 1, .int .i64 4, .int .i64 1, .int .i64 2, .int .i64 12, .int .i64 1, .int .i64 3, .int .i64 2, .int .i64 2, .int .i64 4, .int .i64 0, .int .i64 8, .int .i64 5, .int .i64 1, .int .i64 0]
theorem kinds_one : kindsV.all (·.oneCell') = true := by decide +kernel
theorem kinds_size : (Try.prog.info? 48).map (·.size) = some kindsV.size := by kernel_rfl
theorem kinds_any (w : World) :
    Calls Try.prog 39 #[] w fun e w' => e = .returned (.agg kindsV) ∧ w.alloc (.cells kindsV 48) = w' := by
  go_enter Try.func39, Try.ntmps39
  go_wp2_with (refine wpList_store_row rfl 48 (.tmp 0) (.tmp 7) rfl w.heap.size kindsV rfl rfl 48 _ (heap_alloc_new _ _) kinds_size rfl kinds_one ?_)
  rw [World.setRow_alloc_new]
  exact bodyPost_ret (v := .agg kindsV) (results_cell_row (g := w.heap.size) rfl _ _ 48 kindsV (0, 0) _ rfl (heap_alloc_new _ _) Try.underlying48 rfl (by kernel_rfl)) rfl ⟨rfl, rfl⟩

theorem kind_at (w : World) :
    (Instr.index 48 (.agg kindsV) (.int .i64 0)).run Try.prog w = .ok (.agg #[.int .i64 0, .int .i64 6, .int .i64 4]) w ∧ (Instr.index 48 (.agg kindsV) (.int .i64 1)).run Try.prog w = .ok (.agg #[.int .i64 1, .int .i64 4, .int .i64 1]) w ∧
    (Instr.index 48 (.agg kindsV) (.int .i64 2)).run Try.prog w = .ok (.agg #[.int .i64 2, .int .i64 12, .int .i64 1]) w ∧ (Instr.index 48 (.agg kindsV) (.int .i64 3)).run Try.prog w = .ok (.agg #[.int .i64 3, .int .i64 2, .int .i64 2]) w ∧
    (Instr.index 48 (.agg kindsV) (.int .i64 4)).run Try.prog w = .ok (.agg #[.int .i64 4, .int .i64 0, .int .i64 8]) w ∧ (Instr.index 48 (.agg kindsV) (.int .i64 5)).run Try.prog w = .ok (.agg #[.int .i64 5, .int .i64 1, .int .i64 0]) w :=
  ⟨by kernel_rfl, by kernel_rfl, by kernel_rfl, by kernel_rfl, by kernel_rfl, by kernel_rfl⟩

set_option maxHeartbeats 2000000 in
theorem find_yes (q r b : Int) (w : World) (hq : (q = 6 ∧ r = 0 ∧ b = 4) ∨ (q = 4 ∧ r = 1 ∧ b = 1) ∨ (q = 12 ∧ r = 2 ∧ b = 1) ∨ (q = 2 ∧ r = 3 ∧ b = 2) ∨ (q = 0 ∧ r = 4 ∧ b = 8) ∨ (q = 1 ∧ r = 5 ∧ b = 0)) :
    Calls Try.prog 35 #[.int .i64 q] w fun e w' => e = .returned (.tuple #[.agg #[.int .i64 r, .int .i64 q, .int .i64 b], .bool true]) ∧ Below w.heap.size w w' := by
  have i0 := fun w => (kind_at w).1
  have i1 := fun w => (kind_at w).2.1
  have i2 := fun w => (kind_at w).2.2.1
  have i3 := fun w => (kind_at w).2.2.2.1
  have i4 := fun w => (kind_at w).2.2.2.2.1
  have i5 := fun w => (kind_at w).2.2.2.2.2
  rcases hq with ⟨rfl, rfl, rfl⟩ | ⟨rfl, rfl, rfl⟩ | ⟨rfl, rfl, rfl⟩ | ⟨rfl, rfl, rfl⟩ | ⟨rfl, rfl, rfl⟩ | ⟨rfl, rfl, rfl⟩
  all_goals
    go_enter Try.func35, Try.ntmps35
    go_wp2_with (go_at_call 39; refine (kinds_any _).mono ?_; rintro e w' ⟨rfl, rfl⟩)
    refine wp_loop_rounds 8 ?_
    repeat any_goals (rw [rounds_succ]; go_wp2)
    refine bodyPost_ret (by simp [results, Try.results35, go_sem]) rfl ⟨rfl, ?_⟩
    repeat (first | exact Below.refl _ _ | refine Below.alloc ?_ (by simp; try omega) _)
theorem find_k (q : Int) (w : World) (h : knows q = true) :
    Calls Try.prog 35 #[.int .i64 q] w fun e w' => e = .returned (.tuple #[.agg #[.int .i64 (rkOf q), .int .i64 q, .int .i64 (bitOf q)], .bool true]) ∧ Below w.heap.size w w' := by
  refine find_yes q (rkOf q) (bitOf q) w ?_
  rcases irq_cases q with rfl | rfl | rfl | rfl | rfl | rfl | h'
  iterate 6 simp [rkOf, bitOf]
  rw [(irq_none h').2.2] at h
  cases h
set_option maxHeartbeats 1000000 in
theorem find_no (q : Int) (w : World) (h : (6 == q) = false ∧ (4 == q) = false ∧ (12 == q) = false ∧ (2 == q) = false ∧ (0 == q) = false ∧ (1 == q) = false) :
    Calls Try.prog 35 #[.int .i64 q] w fun e w' => e = .returned (.tuple #[.agg #[.int .i64 0, .int .i64 0, .int .i64 0], .bool false]) ∧ Below w.heap.size w w' := by
  have i0 := fun w => (kind_at w).1
  have i1 := fun w => (kind_at w).2.1
  have i2 := fun w => (kind_at w).2.2.1
  have i3 := fun w => (kind_at w).2.2.2.1
  have i4 := fun w => (kind_at w).2.2.2.2.1
  have i5 := fun w => (kind_at w).2.2.2.2.2
  obtain ⟨h1, h2, h3, h4, h5, h6⟩ := h
  go_enter Try.func35, Try.ntmps35
  go_wp2_with (go_at_call 39; refine (kinds_any _).mono ?_; rintro e w' ⟨rfl, rfl⟩)
  refine wp_loop_rounds 8 ?_
  repeat any_goals (rw [rounds_succ]; go_wp2)
  refine bodyPost_ret (by simp [results, Try.results35, go_sem]) rfl ⟨rfl, ?_⟩
  repeat (first | exact Below.refl _ _ | refine Below.alloc ?_ (by simp; try omega) _)
theorem irank_any (q : Int) (w : World) : Calls Try.prog 21 #[.int .i64 q] w fun e w' => e = .returned (.int .i64 (rkOf q)) ∧ Below w.heap.size w w' := by
  rcases irq_cases q with rfl | rfl | rfl | rfl | rfl | rfl | h
  rotate_right
  · rw [(irq_none h).1]
    go_enter Try.func21, Try.ntmps21
    go_wp2_with (go_at_call 35; refine (find_no _ _ h).mono ?_; rintro e w1 ⟨rfl, hb⟩)
    go_ret
    exact ⟨rfl, hb.trans ((Below.refl _ _).alloc hb.size _)⟩
  all_goals
    go_enter Try.func21, Try.ntmps21
    go_wp2_with (go_at_call 35; refine (find_k _ _ rfl).mono ?_; rintro e w1 ⟨rfl, hb⟩)
    go_ret
    exact ⟨rfl, hb.trans ((Below.refl _ _).alloc hb.size _)⟩
theorem ibit_any (q : Int) (w : World) : Calls Try.prog 24 #[.int .i64 q] w fun e w' => e = .returned (.int .i64 (bitOf q)) ∧ Below w.heap.size w w' := by
  rcases irq_cases q with rfl | rfl | rfl | rfl | rfl | rfl | h
  rotate_right
  · rw [(irq_none h).2.1]
    go_enter Try.func24, Try.ntmps24
    go_wp2_with (go_at_call 35; refine (find_no _ _ h).mono ?_; rintro e w1 ⟨rfl, hb⟩)
    go_ret
    exact ⟨rfl, hb.trans ((Below.refl _ _).alloc hb.size _)⟩
  all_goals
    go_enter Try.func24, Try.ntmps24
    go_wp2_with (go_at_call 35; refine (find_k _ _ rfl).mono ?_; rintro e w1 ⟨rfl, hb⟩)
    go_ret
    exact ⟨rfl, hb.trans ((Below.refl _ _).alloc hb.size _)⟩
set_option maxHeartbeats 1000000 in
theorem srank_any (q : Int) (w : World) : Calls Try.prog 22 #[.int .i64 q] w fun e w' => e = .returned (.int .i64 (rkOf q)) ∧ Below w.heap.size w w' := by
  rcases irq_cases q with rfl | rfl | rfl | rfl | rfl | rfl | h
  rotate_right
  · rw [(irq_none h).1]
    obtain ⟨h1, h2, h3, h4, h5, h6⟩ := h
    go_enter Try.func22, Try.ntmps22
    go_wp2
    refine wp_loop_rounds 8 ?_
    repeat any_goals (rw [rounds_succ]; go_wp2)
    go_ret
    exact ⟨rfl, (Below.refl _ _).alloc (Nat.le_refl _) _⟩
  all_goals
    go_enter Try.func22, Try.ntmps22
    go_wp2
    refine wp_loop_rounds 8 ?_
    repeat any_goals (rw [rounds_succ]; go_wp2)
    go_ret
    exact ⟨rfl, (Below.refl _ _).alloc (Nat.le_refl _) _⟩
theorem sbit_any (q : Int) (w : World) : Calls Try.prog 25 #[.int .i64 q] w fun e w' => e = .returned (.int .i64 (bitOf q)) ∧ w = w' := by
  rcases irq_cases q with rfl | rfl | rfl | rfl | rfl | rfl | h
  rotate_right
  · rw [(irq_none h).2.1]
    have h1 : (q == 6) = false := by have := h.1; simp at this ⊢; omega
    have h2 : (q == 4) = false := by have := h.2.1; simp at this ⊢; omega
    have h3 : (q == 12) = false := by have := h.2.2.1; simp at this ⊢; omega
    have h4 : (q == 2) = false := by have := h.2.2.2.1; simp at this ⊢; omega
    have h5 : (q == 0) = false := by have := h.2.2.2.2.1; simp at this ⊢; omega
    have h6 : (q == 1) = false := by have := h.2.2.2.2.2; simp at this ⊢; omega
    clear h
    go_enter Try.func25, Try.ntmps25
    go_wp2
    go_ret
    exact ⟨rfl, rfl⟩
  all_goals
    go_enter Try.func25, Try.ntmps25
    go_wp2
    go_ret
    exact ⟨rfl, rfl⟩
end Go.Proofs.Ytpgbagclcapmmaa
