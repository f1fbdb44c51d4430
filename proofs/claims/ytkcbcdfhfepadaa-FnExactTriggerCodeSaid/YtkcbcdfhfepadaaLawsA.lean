/-
  The walks of the exact laws on formats, rates, triggers and ranks: each law returns true and turns nothing that was there. No condition beyond that each integer fits its kind.
-/
import Derived.Test.YtkcbcdfhfepadaaFmt
import Derived.Test.YtkcbcdfhfepadaaDrawF
import Derived.Test.YtkcbcdfhfepadaaIrq
namespace Go.Proofs.Ytkcbcdfhfepadaa
open Go.RowKit
set_option linter.unusedVariables false

theorem fnExactConstants_walk (w : World) : Calls Try.prog 3 #[] w fun e w' => e = .returned (.bool true) ∧ Below w.heap.size w w' := by
  go_enter Try.func3, Try.ntmps3
  go_wp2
  go_ret
  exact ⟨rfl, Below.refl _ _⟩
theorem fnExactFormatValid_walk (a b c : Int) (wa : (Lit.int .i64 a).wf = true) (wb : (Lit.int .i64 b).wf = true) (wc : (Lit.int .i64 c).wf = true) (w : World) :
    Calls Try.prog 4 #[.agg #[.int .i64 a, .int .i64 b, .int .i64 c]] w fun e w' => e = .returned (.bool true) ∧ Below w.heap.size w w' := by
  clear wa wb wc
  go_enter Try.func4, Try.ntmps4
  go_wp2_with fail
  refine (toFormat_any _ _ _ _).mono ?_
  rintro e w1 ⟨rfl, k1⟩
  go_wp2_with fail
  refine (sfv_any _ _ _ _).mono ?_
  rintro e w2 ⟨rfl, k2⟩
  have q2 := ((Bk.new w 24 _).belowAll k1).belowAll k2
  have c2 := q2.cell
  go_wp2_with fail
  refine (toFormat_any _ _ _ _).mono ?_
  rintro e w3 ⟨rfl, k3⟩
  go_wp2_with fail
  refine (ifv_any _ _ _ _).mono ?_
  rintro e w4 ⟨rfl, k4⟩
  clear c2
  go_wp2
  go_ret
  have l1 := k1.size
  have l2 := k2.size
  have l3 := k3.size
  simp at l1
  exact ⟨rfl, (((((Below.refl _ _).alloc (Nat.le_refl _) _).trans (k1.mono (by simp))).trans (k2.mono (by omega))).trans (k3.mono (by omega))).trans (k4.mono (by omega))⟩
theorem fnExactDivisorFor_walk (a : Int) (wa : (Lit.int .i64 a).wf = true) (w : World) :
    Calls Try.prog 5 #[.int .i64 a] w fun e w' => e = .returned (.bool true) ∧ Below w.heap.size w w' := by
  clear wa
  go_enter Try.func5, Try.ntmps5
  go_wp2_with fail
  refine (sdv_any _ _).mono ?_
  rintro e w1 ⟨rfl, rfl⟩
  go_wp2_with fail
  refine (idv_any _ _).mono ?_
  rintro e w1 ⟨rfl, rfl⟩
  go_wp2
  go_ret
  exact ⟨rfl, Below.refl _ _⟩
theorem fnExactTriggerOf_walk (a : Int) (wa : (Lit.int .i64 a).wf = true) (w : World) :
    Calls Try.prog 6 #[.int .i64 a] w fun e w' => e = .returned (.bool true) ∧ Below w.heap.size w w' := by
  clear wa
  go_enter Try.func6, Try.ntmps6
  go_wp2_with fail
  refine (str_any _ _).mono ?_
  rintro e w1 ⟨rfl, k1⟩
  go_wp2_with fail
  refine (itr_any _ _).mono ?_
  rintro e w2 ⟨rfl, k2⟩
  go_wp2
  go_ret
  exact ⟨rfl, k1.trans (k2.mono k1.size)⟩
theorem fnExactTriggerCode_walk (a : Int) (wa : (Lit.int .i64 a).wf = true) (w : World) :
    Calls Try.prog 7 #[.int .i64 a] w fun e w' => e = .returned (.bool true) ∧ Below w.heap.size w w' := by
  clear wa
  go_enter Try.func7, Try.ntmps7
  go_wp2_with fail
  refine (stc_any _ _).mono ?_
  rintro e w1 ⟨rfl, k1⟩
  go_wp2_with fail
  refine (itc_any _ _).mono ?_
  rintro e w2 ⟨rfl, k2⟩
  go_wp2
  go_ret
  exact ⟨rfl, k1.trans (k2.mono k1.size)⟩
theorem fnExactIrqRank_walk (a : Int) (wa : (Lit.int .i64 a).wf = true) (w : World) :
    Calls Try.prog 8 #[.int .i64 a] w fun e w' => e = .returned (.bool true) ∧ Below w.heap.size w w' := by
  clear wa
  go_enter Try.func8, Try.ntmps8
  go_wp2_with fail
  refine (srank_any _ _).mono ?_
  rintro e w1 ⟨rfl, k1⟩
  go_wp2_with fail
  refine (irank_any _ _).mono ?_
  rintro e w2 ⟨rfl, k2⟩
  go_wp2
  go_ret
  exact ⟨rfl, k1.trans (k2.mono k1.size)⟩
theorem fnExactIrqBit_walk (a : Int) (wa : (Lit.int .i64 a).wf = true) (w : World) :
    Calls Try.prog 9 #[.int .i64 a] w fun e w' => e = .returned (.bool true) ∧ Below w.heap.size w w' := by
  clear wa
  go_enter Try.func9, Try.ntmps9
  go_wp2_with fail
  refine (sbit_any _ _).mono ?_
  rintro e w1 ⟨rfl, rfl⟩
  go_wp2_with fail
  refine (ibit_any _ _).mono ?_
  rintro e w2 ⟨rfl, k2⟩
  go_wp2
  go_ret
  exact ⟨rfl, k2⟩
theorem fnExactFrameLength_walk (a b c : Int) (wa : (Lit.int .i64 a).wf = true) (wb : (Lit.int .i64 b).wf = true) (wc : (Lit.int .i64 c).wf = true) (w : World) :
    Calls Try.prog 10 #[.agg #[.int .i64 a, .int .i64 b, .int .i64 c]] w fun e w' => e = .returned (.bool true) ∧ Below w.heap.size w w' := by
  clear wa wb wc
  go_enter Try.func10, Try.ntmps10
  go_wp2_with fail
  refine (toFormat_any _ _ _ _).mono ?_
  rintro e w1 ⟨rfl, k1⟩
  go_wp2_with fail
  refine (sfl_any _ _ _ _).mono ?_
  rintro e w2 ⟨rfl, k2⟩
  have q2 := ((Bk.new w 24 _).belowAll k1).belowAll k2
  have c2 := q2.cell
  go_wp2_with fail
  refine (toFormat_any _ _ _ _).mono ?_
  rintro e w3 ⟨rfl, k3⟩
  go_wp2_with fail
  refine (ifl_any _ _ _ _).mono ?_
  rintro e w4 ⟨rfl, k4⟩
  clear c2
  go_wp2
  go_ret
  have l1 := k1.size
  have l2 := k2.size
  have l3 := k3.size
  simp at l1
  exact ⟨rfl, (((((Below.refl _ _).alloc (Nat.le_refl _) _).trans (k1.mono (by simp))).trans (k2.mono (by omega))).trans (k3.mono (by omega))).trans (k4.mono (by omega))⟩
theorem fnExactFormatByte_walk (a b c : Int) (wa : (Lit.int .i64 a).wf = true) (wb : (Lit.int .i64 b).wf = true) (wc : (Lit.int .i64 c).wf = true) (w : World) :
    Calls Try.prog 12 #[.agg #[.int .i64 a, .int .i64 b, .int .i64 c]] w fun e w' => e = .returned (.bool true) ∧ Below w.heap.size w w' := by
  clear wa wb wc
  go_enter Try.func12, Try.ntmps12
  go_wp2_with fail
  refine (toFormat_any _ _ _ _).mono ?_
  rintro e w1 ⟨rfl, k1⟩
  go_wp2_with fail
  refine (sfb_any _ _ _ _).mono ?_
  rintro e w2 ⟨rfl, k2⟩
  have q2 := ((Bk.new w 24 _).belowAll k1).belowAll k2
  have c2 := q2.cell
  go_wp2_with fail
  refine (toFormat_any _ _ _ _).mono ?_
  rintro e w3 ⟨rfl, k3⟩
  go_wp2_with fail
  refine (ifb_any _ _ _ _).mono ?_
  rintro e w4 ⟨rfl, k4⟩
  clear c2
  go_wp2
  go_ret
  have l1 := k1.size
  have l2 := k2.size
  have l3 := k3.size
  simp at l1
  exact ⟨rfl, (((((Below.refl _ _).alloc (Nat.le_refl _) _).trans (k1.mono (by simp))).trans (k2.mono (by omega))).trans (k3.mono (by omega))).trans (k4.mono (by omega))⟩
theorem fnFormatPart_walk (a : Option Addr) (len cap : Nat) (zs : List Int) (w : World) (h : IsRow .u8 w a len cap zs) :
    Calls Try.prog 11 #[.slice a len cap] w fun e w' => e = .returned (.bool true) ∧ Below w.heap.size w w' := by
  have hl : len ≤ maxLen := by
    rcases h with ⟨_, rfl, _, _⟩ | ⟨x, _, hlc, hm, _⟩
    · exact Nat.zero_le _
    · exact Nat.le_trans hlc hm
  unfold maxLen at hl
  by_cases hbig : (1048576 : Int) < (len : Int)
  · go_enter Try.func11, Try.ntmps11
    go_wp2
    go_ret
    exact ⟨rfl, Below.refl _ _⟩
  · go_enter Try.func11, Try.ntmps11
    go_wp2_with fail
    refine (dDrawFormatValid_any a len cap zs _ h).mono ?_
    rintro e w1 ⟨x, y, z, rfl, hx, k1⟩
    go_wp2_with fail
    refine (ifv_any _ _ _ _).mono ?_
    rintro e w2 ⟨rfl, k2⟩
    have b2 : Bk w2 w1.heap.size 26 _ := (Bk.new w1 26 _).belowAll k2
    have q2 := b2.cell
    go_wp2_with fail
    refine (sfv_any _ _ _ _).mono ?_
    rintro e w3 ⟨rfl, k3⟩
    clear q2
    have b3 := b2.belowAll k3
    have q3 := b3.cell
    have K := hide ((k1.trans (((Below.refl w1.heap.size w1).alloc (Nat.le_refl _) _).mono k1.size)).trans ((k2.mono (by have := k1.size; simp; omega)).trans (k3.mono (by have := k1.size; have := k2.size; simp at this; omega))))
    clear k1 k2 k3
    cases hv : fv x y z
    · go_wp2
      go_ret
      exact ⟨rfl, K.out⟩
    · have l3 := b3.lt
      have z9 : fv 9 y z = false := by simp [fv]
      have z3 : fv x y 3 = false := by simp [fv]
      go_wp2_with fail
      refine (ifv_any _ _ _ _).mono ?_
      rintro e w4 ⟨rfl, k4⟩
      rw [z9]
      have b4 := (((b3.alloc (.cells #[.int .i64 9, .int .i64 y, .int .i64 z] 26)).alloc (.cells #[.int .i64 x, .int .i64 y, .int .i64 3] 26))).belowAll k4
      have b5 : Bk w4 (w3.heap.size + 1) 26 #[.int .i64 x, .int .i64 y, .int .i64 3] := by
        have := (Bk.new (w3.alloc (.cells #[.int .i64 9, .int .i64 y, .int .i64 z] 26)) 26 #[.int .i64 x, .int .i64 y, .int .i64 3]).belowAll k4
        simpa using this
      have q5 := b5.cell
      have K := hide (K.out.trans ((((Below.refl w3.heap.size w3).alloc (Nat.le_refl _) _).alloc (by simp) _).trans (k4.mono (by simp; omega)) |>.mono K.out.size))
      clear q3 k4
      go_wp2_with fail
      refine (ifv_any _ _ _ _).mono ?_
      rintro e w5 ⟨rfl, k5⟩
      rw [z3]
      have K := K.out.trans (k5.mono K.out.size)
      clear q5
      go_wp2
      go_ret
      exact ⟨rfl, K⟩
end Go.Proofs.Ytkcbcdfhfepadaa
