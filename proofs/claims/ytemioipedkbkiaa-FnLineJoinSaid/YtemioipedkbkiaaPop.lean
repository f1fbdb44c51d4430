/-
  Walks of the functions that reckon the parity of a byte.
-/
import Derived.Test.YtemioipedkbkiaaFmt
import Derived.Test.YtemioipedkbkiaaInts
namespace Go.Proofs.Ytemioipedkbkiaa
open Go.RowKit
set_option linter.unusedVariables false
theorem all256 {p : Int → Prop} (h : ∀ n : Fin 256, p (n.val : Int)) : ∀ x : Int, 0 ≤ x → x < 256 → p x := by
  intro x h0 h1
  obtain ⟨n, rfl⟩ := Int.eq_ofNat_of_zero_le h0
  exact h ⟨n, by omega⟩
/-- How many bits of a byte are 1; its parity bit. -/
def ones (x : Int) : Int := x % 2 + x / 2 % 2 + x / 4 % 2 + x / 8 % 2 + x / 16 % 2 + x / 32 % 2 + x / 64 % 2 + x / 128 % 2
def pb (b x : Int) : Int := if b = 1 then (ones x + 1) % 2 else ones x % 2
theorem ones_half : ∀ x : Int, 0 ≤ x → x < 256 → ones x = x % 2 + ones (x / 2) := all256 (by decide +kernel)
theorem ones_bd (x : Int) : 0 ≤ ones x ∧ ones x ≤ 8 := by unfold ones; omega
theorem pb_bit (b x : Int) : 0 ≤ pb b x ∧ pb b x ≤ 1 := by unfold pb; split <;> omega
theorem ipar_any (a b c x : Int) (w : World) (h0 : 0 ≤ x) (h1 : x < 256) :
    Calls Try.prog 43 #[.agg #[.int .i64 a, .int .i64 b, .int .i64 c], .int .i64 x] w fun e w' => e = .returned (.int .i64 (pb b x)) ∧ Below w.heap.size w w' := by
  have B := hide ((Below.refl w.heap.size w).alloc (Nat.le_refl _) (.cells #[.int .i64 a, .int .i64 b, .int .i64 c] 27))
  by_cases hb : b = 1
  · subst hb
    have E := hide (show pb 1 x = (ones x + 1) % 2 by simp [pb])
    go_enter Try.func43, Try.ntmps43
    go_wp2
    go_ret
    refine ⟨ret_int ?_, B.out⟩
    rw [E.out]
    clear E B
    rename_i a1
    clear a1
    revert x
    exact all256 (by decide +kernel)
  · have E := hide (show pb b x = ones x % 2 by simp [pb, hb])
    have hb2 : (b == 1) = false := by simpa using hb
    clear hb
    go_enter Try.func43, Try.ntmps43
    go_wp2
    go_ret
    refine ⟨ret_int ?_, B.out⟩
    rw [E.out]
    clear E B
    rename_i a1
    clear a1
    revert x
    exact all256 (by decide +kernel)
theorem spar_any (a b c x : Int) (w : World) (h0 : 0 ≤ x) (h1 : x < 256) :
    Calls Try.prog 37 #[.agg #[.int .i64 a, .int .i64 b, .int .i64 c], .int .i64 x] w fun e w' => e = .returned (.int .i64 (pb b x)) ∧ Below w.heap.size w w' := by
  have B := hide ((Below.refl w.heap.size w).alloc (Nat.le_refl _) (.cells #[.int .i64 a, .int .i64 b, .int .i64 c] 27))
  have HP := hide (show pb b x = if b = 1 then (ones x + 1) % 2 else ones x % 2 from rfl)
  have OB := hide (ones_bd x)
  go_enter Try.func37, Try.ntmps37
  go_wp2
  go_loop [1, 5] (fun m n => ∃ y s : Int, m = .int .i64 y ∧ n = .int .i64 s ∧ 0 ≤ y ∧ y < 256 ∧ 0 ≤ s ∧ s + ones y = ones x) (fun m _ => (intOf m).toNat)
  case atStart => exact ⟨x, 0, rfl, rfl, h0, h1, by omega, by omega⟩
  case round =>
    obtain ⟨y, s, rfl, rfl, hy0, hy1, hs0, hs⟩ := hrel
    have HS := hide hs
    have HO := hide (ones_bd y)
    have hs8 : s ≤ 8 := by have := HS.out; have := OB.out; have := HO.out; omega
    clear hs
    by_cases hy : 0 < y
    · go_wp2
      go_round
      case rel => exact ⟨y / 2, s + y % 2, by go_num, by go_num, by omega, by omega, by omega, by have := HS.out; have := ones_half y hy0 hy1; omega⟩
      case measure => simp [intOf]; omega
    · obtain rfl : y = 0 := by omega
      have e : s = ones x := by have := HS.out; simpa [ones] using this
      have HE := hide e
      clear e
      by_cases hb : b = 1
      · subst hb
        go_wp2
        go_ret
        exact ⟨ret_int (by rw [HP.out]; simp [HE.out]), B.out⟩
      · have hb2 : (b == 1) = false := by simpa using hb
        have HN := hide hb
        clear hb
        go_wp2
        go_ret
        exact ⟨ret_int (by rw [HP.out]; simp [HE.out, HN.out]), B.out⟩
end Go.Proofs.Ytemioipedkbkiaa
