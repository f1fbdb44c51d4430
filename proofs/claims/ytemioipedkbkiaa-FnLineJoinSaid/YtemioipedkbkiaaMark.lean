/-
  Walks of the functions that mark a slice's numbers and look whether the marks hold.
-/
import Derived.Test.YtemioipedkbkiaaOwn
import Derived.Laws.OwnMore
namespace Go.Proofs.Ytemioipedkbkiaa
open Go.RowKit
set_option linter.unusedVariables false

/-- The numbers count on from k. -/
def Mk (k : Int) (ys : List Int) : Prop := ∀ j, j < ys.length → ys.getD j 0 = k + j
theorem Own.put {w : World} {base h n cap : Nat} {ys : List Int} (o : Own w base h n cap ys) {j : Nat} (hj : j < n) (u : Int) : Own (w.setCell ⟨h, j, none⟩ (.int .i64 u)) base h n cap (ys.set j u) := by
  have := (World.ownsRow.stored o j (.int .i64 u)).1
  unfold Own
  rw [List.map_set]
  exact this
theorem Own.cellAt {w : World} {base h n cap : Nat} {ys : List Int} (o : Own w base h n cap ys) {j : Nat} (hj : j < n) : w.cell? ⟨h, j, none⟩ = some (.int .i64 (ys.getD j 0)) := by
  rw [World.ownsRow.cellAt o j (by omega), List.getElem?_map, List.getElem?_eq_getElem (by rw [o.len]; exact hj)]
  simp [List.getD_eq_getElem?_getD, List.getElem?_eq_getElem (show j < ys.length by rw [o.len]; exact hj)]
theorem Own.free {w : World} {base h n cap : Nat} {ys : List Int} (o : Own w base h n cap ys) (j : Nat) : w.frozen? ⟨h, j, none⟩ = false := World.ownsRow.frozenAt o j
theorem mark_any (base h n cap : Nat) (ys : List Int) (k : Int) (w : World) (o : Own w base h n cap ys) (h0 : 0 ≤ k) (h1 : k ≤ 1000) (hn : n ≤ 1000) :
    Calls Try.prog 13 #[.slice (some ⟨h, 0, none⟩) n cap, .int .i64 k] w fun e w' => e = .returned (.int .i64 (k + n)) ∧ ∃ zs, Own w' base h n cap zs ∧ Mk k zs ∧ Just h w w' := by
  have HZ := hide o.len
  go_enter Try.func13, Try.ntmps13
  go_wp2
  go_loopw [1, 5] (fun q i wr => ∃ (j : Nat) (zs : List Int), q = .int .i64 (k + j) ∧ i = .int .i64 j ∧ j ≤ n ∧ Own wr base h n cap zs ∧ (∀ m, m < j → zs.getD m 0 = k + m) ∧ Just h w wr) (fun _ i _ => n - (intOf i).toNat)
  case atStart => exact ⟨0, ys, by simp, rfl, by omega, o, fun m hm => absurd hm (by omega), ⟨rfl, rfl, rfl, rfl, fun _ _ => rfl⟩⟩
  case round =>
    obtain ⟨j, zs, rfl, rfl, hj, oz, hall, jw⟩ := hrel
    have HA := hide hall
    have HW := hide jw
    clear hall jw
    by_cases hlt : j < n
    · have hlt' : (j : Int) < (n : Int) := by omega
      have hc := oz.cellAt hlt
      have hf := oz.free j
      go_wp2
      go_roundw
      case rel =>
        refine ⟨j + 1, _, by go_num, by go_num, by omega, oz.put hlt (k + j), fun m hm => ?_, ⟨HW.out.os, HW.out.tape, HW.out.output, by simpa [World.setCell] using HW.out.size, fun i hi => (Below.heap_setCell wr _ _ i hi).trans (HW.out.block i hi)⟩⟩
        have hl := oz.len
        rw [List.getD_eq_getElem?_getD, List.getElem?_set]
        by_cases e : j = m
        · subst e
          simp [hl, hlt]
        · rw [if_neg e, ← List.getD_eq_getElem?_getD]
          exact HA.out m (by omega)
      case measure => simp [intOf]; omega
    · have hge : ¬ (j : Int) < (n : Int) := by omega
      obtain rfl : j = n := by omega
      go_wp2
      go_ret
      exact ⟨rfl, zs, oz, fun m hm => HA.out m (by have := oz.len; omega), HW.out⟩
theorem mark_none (a : Option Addr) (cap : Nat) (k : Int) (w : World) :
    Calls Try.prog 13 #[.slice a 0 cap, .int .i64 k] w fun e w' => e = .returned (.int .i64 k) ∧ w = w' := by
  go_enter Try.func13, Try.ntmps13
  go_wp2
  refine wp_loop_rounds 1 ?_
  rw [rounds_succ]
  go_wp2
  go_ret
  exact ⟨rfl, rfl⟩
theorem held_any (a : Option Addr) (n cap : Nat) (ys : List Int) (k : Int) (w : World) (h : Sl w a n cap ys) (hm : Mk k ys) (h0 : 0 ≤ k) (h1 : k ≤ 1000) (hn : n ≤ 1000) :
    Calls Try.prog 14 #[.slice a n cap, .int .i64 k] w fun e w' => e = .returned (.int .i64 (k + n)) ∧ w = w' := by
  have H := hide h
  have HM := hide hm
  clear h hm
  go_enter Try.func14, Try.ntmps14
  go_wp2
  go_loop [1, 5] (fun q i => ∃ j : Nat, q = .int .i64 (k + j) ∧ i = .int .i64 j ∧ j ≤ n) (fun _ i => n - (intOf i).toNat)
  case atStart => exact ⟨0, by simp, rfl, by omega⟩
  case round =>
    obtain ⟨j, rfl, rfl, hj⟩ := hrel
    by_cases hlt : j < n
    · have hlt' : (j : Int) < (n : Int) := by omega
      obtain ⟨x, rfl, hc⟩ := H.out.at_ hlt
      rw [HM.out j (by have := H.out.1; omega)] at hc
      go_wp2
      go_round
      case rel => exact ⟨j + 1, by go_num, by go_num, by omega⟩
      case measure => simp [intOf]; omega
    · have hge : ¬ (j : Int) < (n : Int) := by omega
      obtain rfl : j = n := by omega
      go_wp2
      go_ret
      exact ⟨rfl, rfl⟩
end Go.Proofs.Ytemioipedkbkiaa
