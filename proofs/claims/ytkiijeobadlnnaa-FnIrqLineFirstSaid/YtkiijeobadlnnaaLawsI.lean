/-
  The walks of the laws on interrupts: each law returns true for every code and turns nothing that was there.
-/
import Derived.Test.YtkiijeobadlnnaaIrqS
import Derived.Test.YtkiijeobadlnnaaDrawI
namespace Go.Proofs.Ytkiijeobadlnnaa
open Go.RowKit
set_option linter.unusedVariables false

theorem row_len {k : IntKind} {w : World} {a : Option Addr} {len cap : Nat} {zs : List Int} (h : IsRow k w a len cap zs) : (len : Int) ≤ 9223372036854775807 := by
  rcases h with ⟨_, rfl, _, _⟩ | ⟨x, _, hlc, hm, _⟩
  · omega
  · unfold maxLen at hm; omega
theorem irqR_in {st rd en : Int} {md : Bool} (h : irqG st rd en = true) : irqR st rd md en = irqS st rd md en := by
  unfold irqR
  rw [if_pos h]
  simp [irqG] at h
  exact irqV_eq (by omega) (by omega) (by omega) (by omega)
theorem irqR_none (st rd : Int) (md : Bool) : irqR st rd md 0 = 1 := by
  cases h : irqG st rd 0
  · simp [irqR, h]
  · rw [irqR_in h]; simp [irqS]
theorem irqR_zero (en : Int) : irqR 0 0 false en = 1 := by
  cases h : irqG 0 0 en
  · simp [irqR, h]
  · rw [irqR_in h]; simp [irqS]
theorem line_first {st rd en : Int} {md : Bool} (h : irqG st rd en = true) :
    (1 < st % 16 → irqR st rd md (en - en / 4 % 2 * 4 + 4) = 6) ∧ (¬ 1 < st % 16 → (irqR st rd md (en - en / 4 % 2 * 4 + 4) == 6) = false ∧ (irqR st rd md en != 6) = true) := by
  have h' := h
  simp [irqG] at h'
  have g : irqG st rd (en - en / 4 % 2 * 4 + 4) = true := by simp [irqG]; omega
  rw [irqR_in g, irqR_in h]
  have e : ((en - en / 4 % 2 * 4 + 4) / 4 % 2 == 1) = true := by simp; omega
  refine ⟨fun h1 => ?_, fun h1 => ?_⟩
  · have h2 : decide (2 ≤ st % 16) = true := by simp; omega
    simp [irqS, e, h2]
  · have h2 : decide (2 ≤ st % 16) = false := by simp; omega
    unfold irqS
    rw [h2]
    simp only [Bool.and_false, Bool.false_eq_true, if_false]
    refine ⟨?_, ?_⟩
    · repeat' split
      all_goals rfl
    · repeat' split
      all_goals rfl
set_option maxHeartbeats 1000000 in
theorem fnIrqNone_walk (a : Option Addr) (len cap : Nat) (zs : List Int) (w : World) (h : IsRow .u8 w a len cap zs) :
    Calls Try.prog 5 #[.slice a len cap] w fun e w' => e = .returned (.bool true) ∧ Below w.heap.size w w' := by
  have hl := row_len h
  by_cases hbig : (1048576 : Int) < (len : Int)
  · go_enter Try.func5, Try.ntmps5
    go_wp2
    go_ret
    exact ⟨rfl, Below.refl _ _⟩
  · go_enter Try.func5, Try.ntmps5
    go_wp2_with fail
    refine (dIrqOf_any a len cap zs _ h).mono ?_
    rintro e w1 ⟨st, rd, md, en, rfl, k1⟩
    clear h
    have K := hide k1
    clear k1
    go_wp2_with fail
    refine (irqOf_any _ _ _ _ _).mono ?_
    rintro e w2 ⟨rfl, k2⟩
    have K := hide (K.out.trans (k2.mono K.out.size))
    clear k2
    go_wp2_with fail
    refine (sOf_any _ _ _ _ _).mono ?_
    rintro e w' ⟨rfl, rfl⟩
    go_wp2_with fail
    refine (irqOf_any _ _ _ _ _).mono ?_
    rintro e w3 ⟨rfl, k3⟩
    rw [irqR_none]
    have K := hide (K.out.trans (k3.mono K.out.size))
    clear k3
    go_wp2_with fail
    refine (irqOf_any _ _ _ _ _).mono ?_
    rintro e w4 ⟨rfl, k4⟩
    rw [irqR_zero]
    have K := K.out.trans (k4.mono K.out.size)
    clear k4
    go_wp2
    go_ret
    exact ⟨rfl, K⟩
set_option maxHeartbeats 2000000 in
theorem fnIrqLineFirst_walk (a : Option Addr) (len cap : Nat) (zs : List Int) (w : World) (h : IsRow .u8 w a len cap zs) :
    Calls Try.prog 4 #[.slice a len cap] w fun e w' => e = .returned (.bool true) ∧ Below w.heap.size w w' := by
  have hl := row_len h
  by_cases hbig : (1048576 : Int) < (len : Int)
  · go_enter Try.func4, Try.ntmps4
    go_wp2
    go_ret
    exact ⟨rfl, Below.refl _ _⟩
  · go_enter Try.func4, Try.ntmps4
    go_wp2_with fail
    refine (dIrqOf_any a len cap zs _ h).mono ?_
    rintro e w1 ⟨st, rd, md, en, rfl, k1⟩
    clear h
    have K := hide k1
    clear k1
    go_wp2_with fail
    refine (irqOf_any _ _ _ _ _).mono ?_
    rintro e w2 ⟨rfl, k2⟩
    have K := hide (K.out.trans (k2.mono K.out.size))
    clear k2
    go_wp2_with fail
    refine (sOf_any _ _ _ _ _).mono ?_
    rintro e w' ⟨rfl, rfl⟩
    cases hg : irqG st rd en
    · have hc : st < 0 ∨ 0 ≤ st ∧ 127 < st ∨ (0 ≤ st ∧ st ≤ 127) ∧ rd < 0 ∨ (0 ≤ st ∧ st ≤ 127) ∧ 0 ≤ rd ∧ 2 < rd ∨ ((0 ≤ st ∧ st ≤ 127) ∧ 0 ≤ rd ∧ rd ≤ 2) ∧ en < 0 ∨ ((0 ≤ st ∧ st ≤ 127) ∧ 0 ≤ rd ∧ rd ≤ 2) ∧ 0 ≤ en ∧ 15 < en := by simp [irqG] at hg; omega
      clear hg
      rcases hc with h | ⟨h0, h1⟩ | ⟨⟨h0, h1⟩, h2⟩ | ⟨⟨h0, h1⟩, h2, h3⟩ | ⟨⟨⟨h0, h1⟩, h2, h3⟩, h4⟩ | ⟨⟨⟨h0, h1⟩, h2, h3⟩, h4, h5⟩
      all_goals
        go_wp2
        go_ret
        exact ⟨rfl, K.out⟩
    · have HF := hide (line_first (md := md) hg)
      simp [irqG] at hg
      obtain ⟨⟨⟨⟨⟨h0, h1⟩, h2⟩, h3⟩, h4⟩, h5⟩ := hg
      go_wp2_with fail
      refine (irqOf_any _ _ _ _ _).mono ?_
      rintro e w3 ⟨rfl, k3⟩
      have K := K.out.trans (k3.mono K.out.size)
      clear k3
      by_cases h6 : 1 < st % 16
      · rw [HF.out.1 h6]
        go_wp2
        all_goals
          go_ret
          exact ⟨rfl, K⟩
      · have F1 := (HF.out.2 (by omega)).1
        have F2 := (HF.out.2 (by omega)).2
        generalize irqR st rd md (en - en / 4 % 2 * 4 + 4) = X at *
        generalize irqR st rd md en = O at *
        go_wp2
        all_goals
          go_ret
          exact ⟨ret_bool (by first | rfl | (simp; omega)), K⟩
end Go.Proofs.Ytkiijeobadlnnaa
