/-
  Walks of the functions that only reckon: formats, divisors, triggers, ranks. Each contract says what the function returns and that nothing that was there has turned.
-/
import Derived.Test.YtemioipedkbkiaaRows
import Derived.Test.YtemioipedkbkiaaKit
namespace Go.Proofs.Ytemioipedkbkiaa
open Go.RowKit

def fv (a b c : Int) : Bool := decide (5 ≤ a) && decide (a ≤ 8) && decide (0 ≤ b) && decide (b ≤ 2) && decide (1 ≤ c) && decide (c ≤ 2)
theorem fv_iff {a b c : Int} : fv a b c = true ↔ 5 ≤ a ∧ a ≤ 8 ∧ 0 ≤ b ∧ b ≤ 2 ∧ 1 ≤ c ∧ c ≤ 2 := by simp [fv, and_assoc]

theorem ifv_any (a b c : Int) (w : World) :
    Calls Try.prog 25 #[.agg #[.int .i64 a, .int .i64 b, .int .i64 c]] w fun e w' => e = .returned (.bool (fv a b c)) ∧ Below w.heap.size w w' := by
  have B := (Below.refl w.heap.size w).alloc (Nat.le_refl _) (.cells #[.int .i64 a, .int .i64 b, .int .i64 c] 27)
  go_enter Try.func25, Try.ntmps25
  go_wp2
  all_goals
    go_ret
    exact ⟨by simp [fv]; try omega, B⟩
theorem sfv_any (a b c : Int) (w : World) :
    Calls Try.prog 21 #[.agg #[.int .i64 a, .int .i64 b, .int .i64 c]] w fun e w' => e = .returned (.bool (fv a b c)) ∧ Below w.heap.size w w' := by
  have B := (Below.refl w.heap.size w).alloc (Nat.le_refl _) (.cells #[.int .i64 a, .int .i64 b, .int .i64 c] 27)
  go_enter Try.func21, Try.ntmps21
  go_wp2
  all_goals
    go_ret
    exact ⟨by simp [fv]; try omega, B⟩

theorem toFormat_any (a b c : Int) (w : World) :
    Calls Try.prog 9 #[.agg #[.int .i64 a, .int .i64 b, .int .i64 c]] w fun e w' => e = .returned (.agg #[.int .i64 a, .int .i64 b, .int .i64 c]) ∧ Below w.heap.size w w' := by
  go_enter Try.func9, Try.ntmps9
  go_wp2
  refine bodyPost_ret (v := .agg #[.int .i64 a, .int .i64 b, .int .i64 c]) (by simp [results, Try.results9, go_sem]) rfl ⟨rfl, ?_⟩
  exact (((Below.refl _ _).alloc (Nat.le_refl _) _).alloc (by simp) _).alloc (by simp; omega) _

/-- The divisor of a rate, as the reference has it. -/
def dvOk (r : Int) : Bool := decide (50 ≤ r) && decide (r ≤ 115200)
def dvOf (r : Int) : Int := if 50 ≤ r ∧ r ≤ 115200 then (230399 + r) / (2 * r) else 0
theorem dv_eq (r q s : Int) (hr : 0 < r) (h : 115200 = r * q + s) (hs : 0 ≤ s) (hs2 : s < r) : (230399 + r) / (2 * r) = if r < 2 * s then q + 1 else q := by
  have e : 2 * r * q = 2 * (r * q) := Int.mul_assoc 2 r q
  have e2 : 2 * r * (q + 1) = 2 * (r * q) + 2 * r := by rw [Int.mul_add, e]; omega
  split
  · rw [Int.ediv_eq_iff_of_pos (by omega)]
    have e3 : (q + 1) * (2 * r) = 2 * r * (q + 1) := Int.mul_comm _ _
    constructor <;> omega
  · rw [Int.ediv_eq_iff_of_pos (by omega)]
    have e3 : q * (2 * r) = 2 * r * q := Int.mul_comm _ _
    constructor <;> omega


/-- The trigger of a code; the code of a number. -/
def trOf (c : Int) : Int := if c = 0 then 1 else if c = 1 then 4 else if c = 2 then 8 else if c = 3 then 14 else -1
def trCode (m : Int) : Int := if 14 ≤ m then 3 else if 8 ≤ m then 2 else if 4 ≤ m then 1 else if 1 ≤ m then 0 else -1
theorem tr_cases (m : Int) : (m < 1 ∧ trCode m = -1) ∨ (1 ≤ m ∧ m < 4 ∧ trCode m = 0) ∨ (4 ≤ m ∧ m < 8 ∧ trCode m = 1) ∨ (8 ≤ m ∧ m < 14 ∧ trCode m = 2) ∨ (14 ≤ m ∧ trCode m = 3) := by
  unfold trCode
  by_cases h1 : 14 ≤ m
  · simp [h1]
  · by_cases h2 : 8 ≤ m
    · simp [h1, h2]; omega
    · by_cases h3 : 4 ≤ m
      · simp [h1, h2, h3]; omega
      · by_cases h4 : 1 ≤ m
        · simp [h1, h2, h3, h4]; omega
        · simp [h1, h2, h3, h4]; omega
end Go.Proofs.Ytemioipedkbkiaa
