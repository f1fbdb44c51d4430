/-
  Walks of the functions that draw a number. Each contract says that it is in range, and that nothing that was there has turned.
-/
import Derived.Test.YtpgbagclcapmmaaDraw
namespace Go.Proofs.Ytpgbagclcapmmaa
open Go.RowKit

/-- A number was drawn. -/
def Nm (lo hi : Int) (w : World) (e : Ending) (w' : World) : Prop := ∃ m : Int, e = .returned (.int .i64 m) ∧ lo ≤ m ∧ m ≤ hi ∧ Below w.heap.size w w'

theorem dDrawTriggerCode_any (a : Option Addr) (len cap : Nat) (zs : List Int) (w : World) (h : IsRow .u8 w a len cap zs) :
    Calls Try.prog 11 #[.slice a len cap] w (Nm (-1) 18 w) := by
  go_enter Try.func11, Try.ntmps11
  go_wp2_with fail
  refine (open_any a len cap zs _ h).mono ?_
  rintro e w1 ⟨rfl, hr1, hz1, k1⟩
  have Z1 := hide hz1
  clear hz1
  go_wp2_with fail
  refine (pick_any _ _ _ _ hr1 (by omega) (by omega) (by omega)).mono ?_
  rintro e w2 ⟨m, rfl, hm0, hm1, _, k2⟩
  have K := hide (k2.below k1 (Nat.le_refl _))
  clear k1 k2
  go_wp2
  go_ret
  exact ⟨_, rfl, by omega, by omega, K.out⟩
theorem dDrawTriggerOf_any (a : Option Addr) (len cap : Nat) (zs : List Int) (w : World) (h : IsRow .u8 w a len cap zs) :
    Calls Try.prog 18 #[.slice a len cap] w (Nm (-1) 18 w) := by
  go_enter Try.func18, Try.ntmps18
  go_wp2_with fail
  refine (open_any a len cap zs _ h).mono ?_
  rintro e w1 ⟨rfl, hr1, hz1, k1⟩
  have Z1 := hide hz1
  clear hz1
  go_wp2_with fail
  refine (pick_any _ _ _ _ hr1 (by omega) (by omega) (by omega)).mono ?_
  rintro e w2 ⟨m, rfl, hm0, hm1, _, k2⟩
  have K := hide (k2.below k1 (Nat.le_refl _))
  clear k1 k2
  go_wp2
  go_ret
  exact ⟨_, rfl, by omega, by omega, K.out⟩
theorem dDrawIrqRank_any (a : Option Addr) (len cap : Nat) (zs : List Int) (w : World) (h : IsRow .u8 w a len cap zs) :
    Calls Try.prog 20 #[.slice a len cap] w (Nm (-1) 13 w) := by
  go_enter Try.func20, Try.ntmps20
  go_wp2_with fail
  refine (open_any a len cap zs _ h).mono ?_
  rintro e w1 ⟨rfl, hr1, hz1, k1⟩
  have Z1 := hide hz1
  clear hz1
  go_wp2_with fail
  refine (pick_any _ _ _ _ hr1 (by omega) (by omega) (by omega)).mono ?_
  rintro e w2 ⟨m, rfl, hm0, hm1, hr2, k2⟩
  have K := hide (k2.below k1 (Nat.le_refl _))
  have Z2 := hide k2.size
  clear k1 k2
  by_cases e0 : m = 0
  · subst e0
    go_wp2_with fail
    refine (pick_any _ _ _ _ hr2 (by omega) (by omega) (by omega)).mono ?_
    rintro e w3 ⟨m, rfl, hm0, hm1, _, k3⟩
    have K := hide (k3.below K.out (Nat.le_refl _))
    clear k3
    go_wp2
    go_ret
    exact ⟨_, rfl, by omega, by omega, K.out⟩
  · have t0 : (m == 0) = false := by simpa using e0
    clear e0
    go_wp2_with fail
    refine (pick_any _ _ _ _ (hr2.alloc _) (by omega) (by omega) (by omega)).mono ?_
    rintro e w3 ⟨m, rfl, hm0, hm1, _, k3⟩
    have b3 := (Bk.new w2 3 _).just k3 (by have := Z2.out; have := Z1.out; omega)
    have q3 := b3.cell
    have K := hide (k3.below (K.out.alloc K.out.size _) (Nat.le_refl _))
    clear k3
    obtain rfl | rfl | rfl | rfl | rfl | rfl : m = 0 ∨ m = 1 ∨ m = 2 ∨ m = 3 ∨ m = 4 ∨ m = 5 := by omega
    all_goals
      go_wp2
      go_ret
      exact ⟨_, rfl, by omega, by omega, K.out⟩
theorem dDrawIrqBit_any (a : Option Addr) (len cap : Nat) (zs : List Int) (w : World) (h : IsRow .u8 w a len cap zs) :
    Calls Try.prog 23 #[.slice a len cap] w (Nm (-1) 13 w) := by
  go_enter Try.func23, Try.ntmps23
  go_wp2_with fail
  refine (dDrawIrqRank_any a len cap zs _ h).mono ?_
  rintro e w1 ⟨m, rfl, h1, h2, k1⟩
  go_wp2
  go_ret
  exact ⟨_, rfl, h1, h2, k1⟩
theorem dDrawDivisorFor_any (a : Option Addr) (len cap : Nat) (zs : List Int) (w : World) (h : IsRow .u8 w a len cap zs) :
    Calls Try.prog 14 #[.slice a len cap] w (Nm 0 200000 w) := by
  go_enter Try.func14, Try.ntmps14
  go_wp2_with fail
  refine (open_any a len cap zs _ h).mono ?_
  rintro e w1 ⟨rfl, hr1, hz1, k1⟩
  have Z1 := hide hz1
  clear hz1
  go_wp2_with fail
  refine (pick_any _ _ _ _ hr1 (by omega) (by omega) (by omega)).mono ?_
  rintro e w2 ⟨m, rfl, hm0, hm1, hr2, k2⟩
  have K := hide (k2.below k1 (Nat.le_refl _))
  have Z2 := hide k2.size
  clear k1 k2
  by_cases e0 : m = 0
  · subst e0
    go_wp2_with fail
    refine (pick_any _ _ _ _ (hr2.alloc _) (by omega) (by omega) (by omega)).mono ?_
    rintro e w3 ⟨m, rfl, hm0, hm1, _, k3⟩
    have b3 := (Bk.new w2 3 _).just k3 (by have := Z2.out; have := Z1.out; omega)
    have q3 := b3.cell
    have K := hide (k3.below (K.out.alloc K.out.size _) (Nat.le_refl _))
    clear k3
    obtain rfl | rfl | rfl | rfl | rfl | rfl : m = 0 ∨ m = 1 ∨ m = 2 ∨ m = 3 ∨ m = 4 ∨ m = 5 := by omega
    all_goals
      go_wp2
      go_ret
      exact ⟨_, rfl, by omega, by omega, K.out⟩
  · have t0 : (m == 0) = false := by simpa using e0
    clear e0
    by_cases e1 : m = 1
    · subst e1
      go_wp2_with fail
      refine (pick_any _ _ _ _ (hr2.alloc _) (by omega) (by omega) (by omega)).mono ?_
      rintro e w3 ⟨m, rfl, hm0, hm1, _, k3⟩
      have b3 := (Bk.new w2 3 _).just k3 (by have := Z2.out; have := Z1.out; omega)
      have q3 := b3.cell
      have K := hide (k3.below (K.out.alloc K.out.size _) (Nat.le_refl _))
      clear k3
      obtain rfl | rfl | rfl | rfl | rfl | rfl : m = 0 ∨ m = 1 ∨ m = 2 ∨ m = 3 ∨ m = 4 ∨ m = 5 := by omega
      all_goals
        go_wp2
        go_ret
        exact ⟨_, rfl, by omega, by omega, K.out⟩
    · have t1 : (m == 1) = false := by simpa using e1
      clear e1
      go_wp2_with fail
      refine (pick_any _ _ _ _ hr2 (by omega) (by omega) (by omega)).mono ?_
      rintro e w3 ⟨x, rfl, hx0, hx1, hr3, k3⟩
      go_wp2_with fail
      refine (pick_any _ _ _ _ hr3 (by omega) (by omega) (by omega)).mono ?_
      rintro e w4 ⟨y, rfl, hy0, hy1, _, k4⟩
      have K := hide (k4.below (k3.below K.out (Nat.le_refl _)) (Nat.le_refl _))
      clear k3 k4
      have p0 : 0 ≤ x * (1 + y) := Int.mul_nonneg hx0 (by omega)
      have p1 : x * (1 + y) ≤ 62500 := Int.le_trans (Int.mul_le_mul (show x ≤ 250 by omega) (show 1 + y ≤ 250 by omega) (by omega) (by omega)) (by omega)
      go_wp2
      go_ret
      exact ⟨_, rfl, by omega, by omega, K.out⟩
end Go.Proofs.Ytpgbagclcapmmaa
