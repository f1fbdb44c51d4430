/-
  The walk of the exact law on the bits of a frame.
-/
import Derived.Test.YtemioipedkbkiaaFrmS
import Derived.Test.YtemioipedkbkiaaMark
namespace Go.Proofs.Ytemioipedkbkiaa
open Go.RowKit
set_option linter.unusedVariables false

theorem Own.drewN {w : World} {base h k cap : Nat} {zs : List Int} (o : Own w base h k cap zs) (q : Nat) : Own (w.drewN q) base h k cap zs := o
theorem frm_len {a b c x : Int} (h : fok a b c x = true) : 7 ≤ (frm a b c x).length ∧ (frm a b c x).length ≤ 12 := by
  have h1 : fv a b c = true := by simp only [fok, Bool.and_eq_true] at h; exact h.1
  obtain ⟨r1, r2, r3, r4, r5, r6⟩ := fv_iff.1 h1
  unfold frm
  simp only [List.length_cons, List.length_append, fbits_len, List.length_replicate]
  split <;> simp <;> omega
end Go.Proofs.Ytemioipedkbkiaa
