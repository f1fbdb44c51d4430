/-
  Walks of the functions that only reckon: formats, divisors, triggers, ranks. Each contract says what the function returns and that nothing that was there has turned.
-/
import Derived.Test.YtpgbagclcapmmaaRows
import Derived.Test.YtpgbagclcapmmaaKit
namespace Go.Proofs.Ytpgbagclcapmmaa
open Go.RowKit

def fv (a b c : Int) : Bool := decide (5 ≤ a) && decide (a ≤ 8) && decide (0 ≤ b) && decide (b ≤ 2) && decide (1 ≤ c) && decide (c ≤ 2)
theorem fv_iff {a b c : Int} : fv a b c = true ↔ 5 ≤ a ∧ a ≤ 8 ∧ 0 ≤ b ∧ b ≤ 2 ∧ 1 ≤ c ∧ c ≤ 2 := by simp [fv, and_assoc]

theorem ifv_any (a b c : Int) (w : World) :
    Calls Try.prog 29 #[.agg #[.int .i64 a, .int .i64 b, .int .i64 c]] w fun e w' => e = .returned (.bool (fv a b c)) ∧ Below w.heap.size w w' := by
  have B := (Below.refl w.heap.size w).alloc (Nat.le_refl _) (.cells #[.int .i64 a, .int .i64 b, .int .i64 c] 30)
  go_enter Try.func29, Try.ntmps29
  go_wp2
  all_goals
    go_ret
    exact ⟨by simp [fv]; try omega, B⟩
theorem sfv_any (a b c : Int) (w : World) :
    Calls Try.prog 37 #[.agg #[.int .i64 a, .int .i64 b, .int .i64 c]] w fun e w' => e = .returned (.bool (fv a b c)) ∧ Below w.heap.size w w' := by
  have B := (Below.refl w.heap.size w).alloc (Nat.le_refl _) (.cells #[.int .i64 a, .int .i64 b, .int .i64 c] 30)
  go_enter Try.func37, Try.ntmps37
  go_wp2
  all_goals
    go_ret
    exact ⟨by simp [fv]; try omega, B⟩


/-- The divisor of a rate, as the reference has it. -/
def dvOk (r : Int) : Bool := decide (50 ≤ r) && decide (r ≤ 115200)
def dvOf (r : Int) : Int := if 50 ≤ r ∧ r ≤ 115200 then (230399 + r) / (2 * r) else 0
theorem dv_eq (r q s : Int) (hr : 0 < r) (h : 115200 = r * q + s) (hs : 0 ≤ s) (hs2 : s < r) : (230399 + r) / (2 * r) = if r < 2 * s then q + 1 else q := by
  have e : 2 * r * q = 2 * (r * q) := Int.mul_assoc 2 r q
  have e2 : 2 * r * (q + 1) = 2 * (r * q) + 2 * r := by rw [Int.mul_add, e]; omega
  split
  · rw [Int.ediv_eq_iff_of_pos (by omega)]
    have e3 : (q + 1) * (2 * r) = 2 * r * (q + 1) := Int.mul_comm _ _
    constructor <;> omega
  · rw [Int.ediv_eq_iff_of_pos (by omega)]
    have e3 : q * (2 * r) = 2 * r * q := Int.mul_comm _ _
    constructor <;> omega

theorem sdv_any (r : Int) (w : World) :
    Calls Try.prog 16 #[.int .i64 r] w fun e w' => e = .returned (.tuple #[.int .i64 (dvOf r), .bool (dvOk r)]) ∧ w = w' := by
  by_cases h : 50 ≤ r ∧ r ≤ 115200
  · have e1 : dvOf r = (230399 + r) / (2 * r) := by simp [dvOf, h]
    have e2 : dvOk r = true := by simp [dvOk, h]
    rw [e1, e2]
    clear e1 e2
    obtain ⟨h1, h2⟩ := h
    go_enter Try.func16, Try.ntmps16
    go_wp2
    go_ret2
    exact ⟨by rw [show (230399 + r) = 230400 + r - 1 by omega]; rfl, rfl⟩
  · have e1 : dvOf r = 0 := by simp [dvOf, h]
    have e2 : dvOk r = false := by simp [dvOk]; omega
    rw [e1, e2]
    clear e1 e2
    by_cases h1 : 50 ≤ r
    · have h2 : decide (r ≤ 115200) = false := by simp; omega
      clear h
      go_enter Try.func16, Try.ntmps16
      go_wp2
      go_ret2
      exact ⟨rfl, rfl⟩
    · have h2 : decide (50 ≤ r) = false := by simp; omega
      clear h
      go_enter Try.func16, Try.ntmps16
      go_wp2
      go_ret2
      exact ⟨rfl, rfl⟩
theorem idv_any (r : Int) (w : World) :
    Calls Try.prog 15 #[.int .i64 r] w fun e w' => e = .returned (.tuple #[.int .i64 (dvOf r), .bool (dvOk r)]) ∧ w = w' := by
  by_cases h : 50 ≤ r ∧ r ≤ 115200
  · have e1 : dvOf r = (230399 + r) / (2 * r) := by simp [dvOf, h]
    have e2 : dvOk r = true := by simp [dvOk, h]
    have e3 := dv_eq r (115200 / r) (115200 % r) (by omega) (by rw [Int.mul_comm]; exact (Int.ediv_mul_add_emod ..).symm) (Int.emod_nonneg _ (by omega)) (Int.emod_lt_of_pos _ (by omega))
    rw [e1, e2, e3]
    clear e1 e2 e3
    obtain ⟨h1, h2⟩ := h
    have m0 : 0 ≤ 115200 % r := Int.emod_nonneg _ (by omega)
    have m1 : 115200 % r < r := Int.emod_lt_of_pos _ (by omega)
    have q0 : 0 ≤ 115200 / r := Int.ediv_nonneg (by omega) (by omega)
    have q1 : 115200 / r ≤ 115200 := Int.ediv_le_self _ (by omega)
    by_cases h3 : r < 2 * (115200 % r)
    all_goals
      go_enter Try.func15, Try.ntmps15
      go_wp2
      go_ret2
      exact ⟨by simp, rfl⟩
  · have e1 : dvOf r = 0 := by simp [dvOf, h]
    have e2 : dvOk r = false := by simp [dvOk]; omega
    rw [e1, e2]
    clear e1 e2
    by_cases h1 : 50 ≤ r
    · have h2 : 115200 < r := by omega
      clear h
      go_enter Try.func15, Try.ntmps15
      go_wp2
      go_ret2
      exact ⟨rfl, rfl⟩
    · clear h
      go_enter Try.func15, Try.ntmps15
      go_wp2
      go_ret2
      exact ⟨rfl, rfl⟩

/-- The trigger of a code; the code of a number. -/
def trOf (c : Int) : Int := if c = 0 then 1 else if c = 1 then 4 else if c = 2 then 8 else if c = 3 then 14 else -1
def trCode (m : Int) : Int := if 14 ≤ m then 3 else if 8 ≤ m then 2 else if 4 ≤ m then 1 else if 1 ≤ m then 0 else -1
theorem str_any (c : Int) (w : World) :
    Calls Try.prog 19 #[.int .i64 c] w fun e w' => e = .returned (.int .i64 (trOf c)) ∧ Below w.heap.size w w' := by
  have B := (Below.refl w.heap.size w).alloc (Nat.le_refl _) (.cells #[.int .i64 1, .int .i64 4, .int .i64 8, .int .i64 14] 3)
  by_cases h : 0 ≤ c
  · by_cases h2 : c ≤ 3
    · obtain rfl | rfl | rfl | rfl : c = 0 ∨ c = 1 ∨ c = 2 ∨ c = 3 := by omega
      all_goals
        go_enter Try.func19, Try.ntmps19
        go_wp2
        go_ret
        exact ⟨rfl, B⟩
    · have h3 : decide (c ≤ 3) = false := by simp; omega
      have e : trOf c = -1 := by simp [trOf]; omega
      rw [e]
      clear e h2
      go_enter Try.func19, Try.ntmps19
      go_wp2
      go_ret
      exact ⟨rfl, Below.refl _ _⟩
  · have h3 : decide (0 ≤ c) = false := by simp; omega
    have e : trOf c = -1 := by simp [trOf]; omega
    rw [e]
    clear e h
    go_enter Try.func19, Try.ntmps19
    go_wp2
    go_ret
    exact ⟨rfl, Below.refl _ _⟩
theorem triggers_any (w : World) :
    Calls Try.prog 32 #[] w fun e w' => e = .returned (.agg #[.int .i64 1, .int .i64 4, .int .i64 8, .int .i64 14]) ∧ w.alloc (.cells #[.int .i64 1, .int .i64 4, .int .i64 8, .int .i64 14] 36) = w' := by
  go_enter Try.func32, Try.ntmps32
  go_wp2
  exact bodyPost_ret (v := .agg #[.int .i64 1, .int .i64 4, .int .i64 8, .int .i64 14]) (by simp [results, Try.results32, go_sem]) rfl ⟨rfl, rfl⟩
theorem itr_any (c : Int) (w : World) :
    Calls Try.prog 17 #[.int .i64 c] w fun e w' => e = .returned (.int .i64 (trOf c)) ∧ Below w.heap.size w w' := by
  have B := ((Below.refl w.heap.size w).alloc (Nat.le_refl _) (.cells #[.int .i64 1, .int .i64 4, .int .i64 8, .int .i64 14] 36)).alloc (by simp) (.cells #[.int .i64 1, .int .i64 4, .int .i64 8, .int .i64 14] 36)
  by_cases h : 0 ≤ c
  · by_cases h2 : c ≤ 3
    · obtain rfl | rfl | rfl | rfl : c = 0 ∨ c = 1 ∨ c = 2 ∨ c = 3 := by omega
      all_goals
        go_enter Try.func17, Try.ntmps17
        go_wp2_with (go_at_call 32; refine (triggers_any _).mono ?_; rintro e w' ⟨rfl, rfl⟩)
        go_ret
        exact ⟨rfl, B⟩
    · have e : trOf c = -1 := by simp [trOf]; omega
      rw [e]
      clear e
      have h3 : 4 ≤ c := by omega
      clear h2
      go_enter Try.func17, Try.ntmps17
      go_wp2_with (go_at_call 32; refine (triggers_any _).mono ?_; rintro e w' ⟨rfl, rfl⟩)
      go_ret
      exact ⟨rfl, B⟩
  · have e : trOf c = -1 := by simp [trOf]; omega
    rw [e]
    clear e
    go_enter Try.func17, Try.ntmps17
    go_wp2_with (go_at_call 32; refine (triggers_any _).mono ?_; rintro e w' ⟨rfl, rfl⟩)
    go_ret
    exact ⟨rfl, B⟩
theorem tr_cases (m : Int) : (m < 1 ∧ trCode m = -1) ∨ (1 ≤ m ∧ m < 4 ∧ trCode m = 0) ∨ (4 ≤ m ∧ m < 8 ∧ trCode m = 1) ∨ (8 ≤ m ∧ m < 14 ∧ trCode m = 2) ∨ (14 ≤ m ∧ trCode m = 3) := by
  unfold trCode
  by_cases h1 : 14 ≤ m
  · simp [h1]
  · by_cases h2 : 8 ≤ m
    · simp [h1, h2]; omega
    · by_cases h3 : 4 ≤ m
      · simp [h1, h2, h3]; omega
      · by_cases h4 : 1 ≤ m
        · simp [h1, h2, h3, h4]; omega
        · simp [h1, h2, h3, h4]; omega
theorem tri_at (w : World) : (Instr.index 36 (.agg #[.int .i64 1, .int .i64 4, .int .i64 8, .int .i64 14]) (.int .i64 0)).run Try.prog w = .ok (.int .i64 1) w ∧ (Instr.index 36 (.agg #[.int .i64 1, .int .i64 4, .int .i64 8, .int .i64 14]) (.int .i64 1)).run Try.prog w = .ok (.int .i64 4) w ∧
    (Instr.index 36 (.agg #[.int .i64 1, .int .i64 4, .int .i64 8, .int .i64 14]) (.int .i64 2)).run Try.prog w = .ok (.int .i64 8) w ∧ (Instr.index 36 (.agg #[.int .i64 1, .int .i64 4, .int .i64 8, .int .i64 14]) (.int .i64 3)).run Try.prog w = .ok (.int .i64 14) w :=
  ⟨by kernel_rfl, by kernel_rfl, by kernel_rfl, by kernel_rfl⟩
theorem itc_any (m : Int) (w : World) :
    Calls Try.prog 12 #[.int .i64 m] w fun e w' => e = .returned (.int .i64 (trCode m)) ∧ Below w.heap.size w w' := by
  rcases tr_cases m with ⟨a, e⟩ | ⟨a, b, e⟩ | ⟨a, b, e⟩ | ⟨a, b, e⟩ | ⟨a, e⟩
  all_goals
    rw [e]
    clear e
    have i0 := fun w => (tri_at w).1
    have i1 := fun w => (tri_at w).2.1
    have i2 := fun w => (tri_at w).2.2.1
    have i3 := fun w => (tri_at w).2.2.2
    go_enter Try.func12, Try.ntmps12
    go_wp2_with (go_at_call 32; refine (triggers_any _).mono ?_; rintro e w' ⟨rfl, rfl⟩)
    refine wp_loop_rounds 6 ?_
    repeat any_goals (rw [rounds_succ]; go_wp2)
    go_ret
    exact ⟨rfl, (Below.refl w.heap.size w).alloc (Nat.le_refl _) _⟩
set_option maxHeartbeats 2000000 in
theorem stc_any (m : Int) (w : World) :
    Calls Try.prog 13 #[.int .i64 m] w fun e w' => e = .returned (.int .i64 (trCode m)) ∧ Below w.heap.size w w' := by
  have B := ((((Below.refl w.heap.size w).alloc (Nat.le_refl _) (.cells #[.int .i64 1, .int .i64 4, .int .i64 8, .int .i64 14] 3)).alloc (by simp) (.cells #[.int .i64 1, .int .i64 4, .int .i64 8, .int .i64 14] 3)).alloc (by simp; omega) (.cells #[.int .i64 1, .int .i64 4, .int .i64 8, .int .i64 14] 3)).alloc (by simp; omega) (.cells #[.int .i64 1, .int .i64 4, .int .i64 8, .int .i64 14] 3)
  rcases tr_cases m with ⟨a, e⟩ | ⟨a, b, e⟩ | ⟨a, b, e⟩ | ⟨a, b, e⟩ | ⟨a, e⟩
  all_goals
    rw [e]
    clear e
    go_enter Try.func13, Try.ntmps13
    go_wp2
    refine wp_loop_rounds 6 ?_
    repeat any_goals (rw [rounds_succ]; go_wp2)
    go_ret
    exact ⟨rfl, B⟩
end Go.Proofs.Ytpgbagclcapmmaa
