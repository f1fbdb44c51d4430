/-
  A long slice of the call's own, marked.
-/
import Derived.Test.YtemioipedkbkiaaOwn
import Derived.Test.YtemioipedkbkiaaMark
namespace Go.Proofs.Ytemioipedkbkiaa
open Go.RowKit
set_option linter.unusedVariables false

theorem markI_any (base h n cap : Nat) (ys : List Int) (k : Int) (w : World) (o : Own w base h n cap ys) (h0 : 0 ≤ k) (h1 : k ≤ 1000) (hn : n ≤ 2000000) :
    Calls Try.prog 13 #[.slice (some ⟨h, 0, none⟩) n cap, .int .i64 k] w fun e w' => e = .returned (.int .i64 (k + n)) ∧ ∃ zs, Own w' base h n cap zs ∧ Mk k zs ∧ Just h w w' := by
  have HZ := hide o.len
  go_enter Try.func13, Try.ntmps13
  go_wp2
  go_loopw [1, 5] (fun q i wr => ∃ (j : Nat) (zs : List Int), q = .int .i64 (k + j) ∧ i = .int .i64 j ∧ j ≤ n ∧ Own wr base h n cap zs ∧ (∀ m, m < j → zs.getD m 0 = k + m) ∧ Just h w wr) (fun _ i _ => n - (intOf i).toNat)
  case atStart => exact ⟨0, ys, by simp, rfl, by omega, o, fun m hm => absurd hm (by omega), ⟨rfl, rfl, rfl, rfl, fun _ _ => rfl⟩⟩
  case round =>
    obtain ⟨j, zs, rfl, rfl, hj, oz, hall, jw⟩ := hrel
    have HA := hide hall
    have HW := hide jw
    clear hall jw
    by_cases hlt : j < n
    · have hlt' : (j : Int) < (n : Int) := by omega
      have hc := oz.cellAt hlt
      have hf := oz.free j
      go_wp2
      go_roundw
      case rel =>
        refine ⟨j + 1, _, by go_num, by go_num, by omega, oz.put hlt (k + j), fun m hm => ?_, ⟨HW.out.os, HW.out.tape, HW.out.output, by simpa [World.setCell] using HW.out.size, fun i hi => (Below.heap_setCell wr _ _ i hi).trans (HW.out.block i hi)⟩⟩
        have hl := oz.len
        rw [List.getD_eq_getElem?_getD, List.getElem?_set]
        by_cases e : j = m
        · subst e
          simp [hl, hlt]
        · rw [if_neg e, ← List.getD_eq_getElem?_getD]
          exact HA.out m (by omega)
      case measure => simp [intOf]; omega
    · have hge : ¬ (j : Int) < (n : Int) := by omega
      obtain rfl : j = n := by omega
      go_wp2
      go_ret
      exact ⟨rfl, zs, oz, fun m hm => HA.out m (by have := oz.len; omega), HW.out⟩
theorem Own.big {w : World} {base h n : Nat} {zs : List Int} (hb : base ≤ h) (b : Bk w h 3 (zs.map (Value.int .i64)).toArray) (hl : zs.length = n) (hm : n ≤ 2000000) : Own w base h n n zs :=
  ⟨by simp [hl], .inr ⟨h, n, (zs.map (Value.int .i64)).toArray, rfl, hb, b, Nat.le_refl _, by unfold maxLen; omega, by simp [hl], by simp [← hl, List.take_of_length_le]⟩⟩
end Go.Proofs.Ytemioipedkbkiaa
