/-
  The walk of the exact law on the first start bit.
-/
import Derived.Test.YtemioipedkbkiaaSmp
namespace Go.Proofs.Ytemioipedkbkiaa
open Go.RowKit
set_option linter.unusedVariables false

def ls (len : Nat) (zs : List Int) (at_ : Int) : Int := if smp len zs = true ∧ 0 ≤ at_ then sf zs at_.toNat else -1
theorem impl_ls (a : Option Addr) (len cap : Nat) (zs : List Int) (at_ : Int) (w : World) (h : Sl w a len cap zs) (h1 : at_ ≤ 9223372036854775807) :
    Calls Try.prog 18 #[.slice a len cap, .int .i64 at_] w fun e w' => e = .returned (.int .i64 (ls len zs at_)) ∧ w = w' := by
  cases hs : smp len zs
  · have E := hide (show ls len zs at_ = -1 by simp [ls, hs])
    go_enter Try.func18, Try.ntmps18
    go_wp2_with (go_at_call 32; refine (samplesValid_any _ _ _ zs _ h).mono ?_; rintro e w' ⟨rfl, rfl⟩; rw [hs])
    go_ret
    exact ⟨ret_int (by rw [E.out]), rfl⟩
  · by_cases h0 : 0 ≤ at_
    · have E := hide (show ls len zs at_ = sf zs at_.toNat by simp [ls, hs, h0])
      have H0 := hide h0
      go_enter Try.func18, Try.ntmps18
      go_wp2_with (first | (go_at_call 32; refine (samplesValid_any _ _ _ zs _ h).mono ?_; rintro e w' ⟨rfl, rfl⟩; rw [hs]) | (go_at_call 33; refine (startFrom_any _ _ _ zs _ _ h H0.out h1).mono ?_; rintro e w' ⟨rfl, rfl⟩))
      go_ret
      exact ⟨ret_int (by rw [E.out]), rfl⟩
    · have E := hide (show ls len zs at_ = -1 by simp [ls, h0])
      go_enter Try.func18, Try.ntmps18
      go_wp2_with (go_at_call 32; refine (samplesValid_any _ _ _ zs _ h).mono ?_; rintro e w' ⟨rfl, rfl⟩; rw [hs])
      go_ret
      exact ⟨ret_int (by rw [E.out]), rfl⟩
end Go.Proofs.Ytemioipedkbkiaa
