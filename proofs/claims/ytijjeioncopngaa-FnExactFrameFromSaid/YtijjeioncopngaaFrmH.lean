/-
  The walk of the exact law on the byte of a frame.
-/
import Derived.Test.YtijjeioncopngaaFrmG
import Derived.Test.YtijjeioncopngaaFrmE
namespace Go.Proofs.Ytijjeioncopngaa
open Go.RowKit
set_option linter.unusedVariables false

set_option maxHeartbeats 2000000 in
theorem fnExactFrameFrom_walk (a b c : Int) (wa : (Lit.int .i64 a).wf = true) (wb : (Lit.int .i64 b).wf = true) (wc : (Lit.int .i64 c).wf = true) (p : Option Addr) (len cap : Nat) (zs : List Int) (w : World) (h : IsRow .i64 w p len cap zs) :
    Calls Try.prog 4 #[.agg #[.int .i64 a, .int .i64 b, .int .i64 c], .slice p len cap] w fun e w' => e = .returned (.bool true) ∧ Below w.heap.size w w' := by
  have hs := h.sl
  generalize zs.take len = xs at hs
  have hl : (len : Int) ≤ 9223372036854775807 := by have := hs.2.1; have := hs.2.2.1; omega
  clear h wa wb wc
  have K := hide ((Below.refl w.heap.size w).alloc (Nat.le_refl _) (.cells #[.int .i64 a, .int .i64 b, .int .i64 c] 23))
  have f := Bk.new w 23 #[.int .i64 a, .int .i64 b, .int .i64 c]
  have hs := hs.alloc (.cells #[.int .i64 a, .int .i64 b, .int .i64 c] 23)
  have HL := hide hs.1
  by_cases hbig : (1048576 : Int) < (len : Int)
  · clear f hs
    go_enter Try.func4, Try.ntmps4
    go_wp2
    go_ret
    exact ⟨rfl, K.out⟩
  · have hsm : len ≤ 1048576 := by omega
    have HSM := hide hsm
    have q := f.cell
    clear hsm
    go_enter Try.func4, Try.ntmps4
    go_wp2_with fail
    refine (toFormat_any _ _ _ _).mono ?_
    rintro e w' ⟨rfl, k⟩
    clear q
    have f := f.belowAll k
    have hs := hs.below k (Nat.le_refl _)
    have K := hide (K.out.trans (k.mono (by have := K.out.size; first | exact this | simpa using this)))
    clear k
    go_wp2_with fail
    refine (toIntS_any _ _ _ xs _ hs HSM.out).mono ?_
    rintro e w' ⟨rfl, d, -, k⟩
    have f := f.belowAll k
    have hs := hs.below k (Nat.le_refl _)
    have t := sl_new d HL.out HSM.out
    have K := hide (K.out.trans (k.mono K.out.size))
    clear k d
    go_wp2_with fail
    refine (sff_any _ _ _ _ _ _ xs _ t).mono ?_
    rintro e w' ⟨rfl, k⟩
    have f := f.belowAll k
    have hs := hs.below k (Nat.le_refl _)
    have K := hide (K.out.trans (k.mono K.out.size))
    clear k t
    go_wp2_with fail
    refine (toIntS_any _ _ _ xs _ hs HSM.out).mono ?_
    rintro e w' ⟨rfl, d, -, k⟩
    have f := f.belowAll k
    have hs := hs.below k (Nat.le_refl _)
    have t := sl_new d HL.out HSM.out
    have K := hide (K.out.trans (k.mono K.out.size))
    clear k d
    have q := f.cell
    go_wp2_with fail
    refine (toFormat_any _ _ _ _).mono ?_
    rintro e w' ⟨rfl, k⟩
    clear q
    have f := f.belowAll k
    have hs := hs.below k (Nat.le_refl _)
    have t := t.below k (Nat.le_refl _)
    have K := hide (K.out.trans (k.mono K.out.size))
    clear k
    go_wp2_with fail
    refine (iff_any _ _ _ _ _ _ xs _ t).mono ?_
    rintro e w' ⟨rfl, k⟩
    have hs := hs.below k (Nat.le_refl _)
    have t := t.below k (Nat.le_refl _)
    have K := hide (K.out.trans (k.mono K.out.size))
    clear k
    go_wp2_with fail
    refine (toIntS_any _ _ _ xs _ hs HSM.out).mono ?_
    rintro e w' ⟨rfl, d, -, k⟩
    have t := t.below k (Nat.le_refl _)
    have u := sl_new d HL.out HSM.out
    have K := hide (K.out.trans (k.mono K.out.size))
    clear k d
    go_wp2_with fail
    refine (eqIntS_any _ _ _ _ _ _ xs xs _ t u).mono ?_
    rintro e w6 ⟨rfl, q, rfl⟩
    simp only [decide_true]
    go_wp2
    go_ret
    exact ⟨rfl, below_drewN K.out q⟩
end Go.Proofs.Ytijjeioncopngaa
