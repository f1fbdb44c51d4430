/-
  The walk of the exact law on the first start bit.
-/
import Derived.Test.YtnbomcglkgbblaaSmp
namespace Go.Proofs.Ytnbomcglkgbblaa
open Go.RowKit
set_option linter.unusedVariables false

def ls (len : Nat) (zs : List Int) (at_ : Int) : Int := if smp len zs = true ∧ 0 ≤ at_ then sf zs at_.toNat else -1
theorem impl_ls (a : Option Addr) (len cap : Nat) (zs : List Int) (at_ : Int) (w : World) (h : Sl w a len cap zs) (h1 : at_ ≤ 9223372036854775807) :
    Calls Try.prog 13 #[.slice a len cap, .int .i64 at_] w fun e w' => e = .returned (.int .i64 (ls len zs at_)) ∧ w = w' := by
  cases hs : smp len zs
  · have E := hide (show ls len zs at_ = -1 by simp [ls, hs])
    go_enter Try.func13, Try.ntmps13
    go_wp2_with (go_at_call 33; refine (samplesValid_any _ _ _ zs _ h).mono ?_; rintro e w' ⟨rfl, rfl⟩; rw [hs])
    go_ret
    exact ⟨ret_int (by rw [E.out]), rfl⟩
  · by_cases h0 : 0 ≤ at_
    · have E := hide (show ls len zs at_ = sf zs at_.toNat by simp [ls, hs, h0])
      have H0 := hide h0
      go_enter Try.func13, Try.ntmps13
      go_wp2_with (first | (go_at_call 33; refine (samplesValid_any _ _ _ zs _ h).mono ?_; rintro e w' ⟨rfl, rfl⟩; rw [hs]) | (go_at_call 34; refine (startFrom_any _ _ _ zs _ _ h H0.out h1).mono ?_; rintro e w' ⟨rfl, rfl⟩))
      go_ret
      exact ⟨ret_int (by rw [E.out]), rfl⟩
    · have E := hide (show ls len zs at_ = -1 by simp [ls, h0])
      go_enter Try.func13, Try.ntmps13
      go_wp2_with (go_at_call 33; refine (samplesValid_any _ _ _ zs _ h).mono ?_; rintro e w' ⟨rfl, rfl⟩; rw [hs])
      go_ret
      exact ⟨ret_int (by rw [E.out]), rfl⟩
theorem spec_ls (a : Option Addr) (len cap : Nat) (zs : List Int) (at_ : Int) (w : World) (h : Sl w a len cap zs) (h1 : at_ ≤ 9223372036854775807) :
    Calls Try.prog 11 #[.slice a len cap, .int .i64 at_] w fun e w' => e = .returned (.int .i64 (ls len zs at_)) ∧ w = w' := by
  cases hs : smp len zs
  · have E := hide (show ls len zs at_ = -1 by simp [ls, hs])
    go_enter Try.func11, Try.ntmps11
    go_wp2_with (go_at_call 31; refine (l3Samples_any _ _ _ zs _ h).mono ?_; rintro e w' ⟨rfl, rfl⟩; rw [hs])
    go_ret
    exact ⟨ret_int (by rw [E.out]), rfl⟩
  · by_cases h0 : 0 ≤ at_
    · have E := hide (show ls len zs at_ = sf zs at_.toNat by simp [ls, hs, h0])
      have H0 := hide h0
      go_enter Try.func11, Try.ntmps11
      go_wp2_with (first | (go_at_call 31; refine (l3Samples_any _ _ _ zs _ h).mono ?_; rintro e w' ⟨rfl, rfl⟩; rw [hs]) | (go_at_call 32; refine (l3Start_any _ _ _ zs _ _ h H0.out h1).mono ?_; rintro e w' ⟨rfl, rfl⟩))
      go_ret
      exact ⟨ret_int (by rw [E.out]), rfl⟩
    · have E := hide (show ls len zs at_ = -1 by simp [ls, h0])
      go_enter Try.func11, Try.ntmps11
      go_wp2_with (go_at_call 31; refine (l3Samples_any _ _ _ zs _ h).mono ?_; rintro e w' ⟨rfl, rfl⟩; rw [hs])
      go_ret
      exact ⟨ret_int (by rw [E.out]), rfl⟩
theorem fnExactLineStart_walk (a : Option Addr) (len cap : Nat) (zs : List Int) (at_ : Int) (wt : (Lit.int .i64 at_).wf = true) (w : World) (h : IsRow .i64 w a len cap zs) :
    Calls Try.prog 3 #[.slice a len cap, .int .i64 at_] w fun e w' => e = .returned (.bool true) ∧ Below w.heap.size w w' := by
  have hs := h.sl
  generalize zs.take len = xs at hs
  have hl : (len : Int) ≤ 9223372036854775807 := by have := hs.2.1; have := hs.2.2.1; omega
  have h1 : at_ ≤ 9223372036854775807 := (bounds_i64 wt).2
  clear h wt
  by_cases hbig : (1048576 : Int) < (len : Int)
  · go_enter Try.func3, Try.ntmps3
    go_wp2
    go_ret
    exact ⟨rfl, Below.refl _ _⟩
  · have hsm : len ≤ 1048576 := by omega
    have H1 := hide h1
    have HSM := hide hsm
    clear h1 hsm
    go_enter Try.func3, Try.ntmps3
    go_wp2_with fail
    refine (toIntS_any _ _ _ xs _ hs HSM.out).mono ?_
    rintro e w1 ⟨rfl, d1, -, k1⟩
    have s1 := hs.below k1 (Nat.le_refl _)
    have t1 := sl_new d1 hs.1 HSM.out
    have K := hide k1
    clear k1
    go_wp2_with fail
    refine (spec_ls _ _ _ xs _ _ t1 H1.out).mono ?_
    rintro e w2 ⟨rfl, rfl⟩
    go_wp2_with fail
    refine (toIntS_any _ _ _ xs _ s1 HSM.out).mono ?_
    rintro e w3 ⟨rfl, d3, -, k3⟩
    have s3 := s1.below k3 (Nat.le_refl _)
    have t3 := sl_new d3 hs.1 HSM.out
    have K := hide (K.out.trans (k3.mono K.out.size))
    clear k3
    go_wp2_with fail
    refine (impl_ls _ _ _ xs _ _ t3 H1.out).mono ?_
    rintro e w4 ⟨rfl, rfl⟩
    go_wp2_with fail
    refine (toIntS_any _ _ _ xs _ s3 HSM.out).mono ?_
    rintro e w5 ⟨rfl, d5, -, k5⟩
    have t5 := sl_new d5 hs.1 HSM.out
    have u5 := t3.below k5 (Nat.le_refl _)
    have K := hide (K.out.trans (k5.mono K.out.size))
    clear k5
    go_wp2_with fail
    refine (eqIntS_any _ _ _ _ _ _ xs xs _ u5 t5).mono ?_
    rintro e w6 ⟨rfl, q, rfl⟩
    simp only [decide_true]
    go_wp2
    go_ret
    exact ⟨rfl, below_drewN K.out q⟩
end Go.Proofs.Ytnbomcglkgbblaa
