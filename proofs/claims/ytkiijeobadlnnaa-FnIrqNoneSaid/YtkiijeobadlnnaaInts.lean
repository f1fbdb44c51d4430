/-
  Walks of the functions on lists of numbers: bytes tested, lists copied and compared. Each contract says what the function returns for what the slice reads as, and that nothing that was there has turned.
-/
import Derived.Test.YtkiijeobadlnnaaRows
import Derived.Test.YtkiijeobadlnnaaKit
import Derived.Test.YtkiijeobadlnnaaOpens
import Derived.Deep.OwnRows
namespace Go.Proofs.Ytkiijeobadlnnaa
open Go.RowKit
set_option linter.unusedVariables false

theorem l6In_any (n lo hi : Int) (w : World) :
    Calls Try.prog 9 #[.int .i64 n, .int .i64 lo, .int .i64 hi] w fun e w' => e = .returned (.bool (decide (lo ≤ n) && decide (n ≤ hi))) ∧ w = w' := by
  go_enter Try.func9, Try.ntmps9
  go_wp2
  all_goals
    go_ret
    exact ⟨by simp <;> omega, rfl⟩
/-- The slice reads as zs. -/
def Sl (w : World) (a : Option Addr) (len cap : Nat) (zs : List Int) : Prop :=
  zs.length = len ∧ len ≤ cap ∧ cap ≤ 9223372036854775807 ∧ (0 < len → ∃ x : Addr, a = some x ∧ ∀ i, i < len → w.cell? (x.add i) = some (.int .i64 (zs.getD i 0)))
section
variable {w w' : World} {a : Option Addr} {len cap : Nat} {zs : List Int}
theorem Sl.keep (h : Sl w a len cap zs) (hk : ∀ p : Addr, (w.cell? p).isSome = true → w'.cell? p = w.cell? p) : Sl w' a len cap zs :=
  ⟨h.1, h.2.1, h.2.2.1, fun hl => by
    obtain ⟨x, hx, hc⟩ := h.2.2.2 hl
    exact ⟨x, hx, fun i hi => (hk _ (by rw [hc i hi]; rfl)).trans (hc i hi)⟩⟩
theorem lt_of_some {w : World} {p : Addr} (h : (w.cell? p).isSome = true) : p.block < w.heap.size := by
  obtain ⟨v, hv⟩ := Option.isSome_iff_exists.1 h
  exact block_lt_of_cell hv
theorem Sl.below {B : Nat} (h : Sl w a len cap zs) (k : Below B w w') (hB : w.heap.size ≤ B) : Sl w' a len cap zs := h.keep fun p hp => k.cell (by have := lt_of_some hp; omega)
theorem Sl.alloc (h : Sl w a len cap zs) (o : Obj) : Sl (w.alloc o) a len cap zs := h.below ((Below.refl _ _).alloc (Nat.le_refl _) o) (Nat.le_refl _)
theorem Sl.drewN (h : Sl w a len cap zs) (n : Nat) : Sl (w.drewN n) a len cap zs := h
theorem Sl.nil_ (w : World) (a : Option Addr) (cap : Nat) (hc : cap ≤ 9223372036854775807) : Sl w a 0 cap [] := ⟨rfl, Nat.zero_le _, hc, fun h => absurd h (by omega)⟩
theorem Sl.at_ (h : Sl w a len cap zs) {k : Nat} (hk : k < len) : ∃ x : Addr, a = some x ∧ w.cell? (x.add k) = some (.int .i64 (zs.getD k 0)) := by
  obtain ⟨x, hx, hc⟩ := h.2.2.2 (by omega)
  exact ⟨x, hx, hc k hk⟩
theorem add_mk (b o i : Nat) : (⟨b, o, none⟩ : Addr).add i = ⟨b, o + i, none⟩ := by unfold Addr.add; split <;> simp_all
theorem Sl.of_block {b cap : Nat} {t : TypeId} {cs : Array Value} (h : Bk w b t cs) (hl : zs.length ≤ cap) (hc : cap ≤ 9223372036854775807) (hz : ∀ i, i < zs.length → cs[i]? = some (.int .i64 (zs.getD i 0))) : Sl w (some ⟨b, 0, none⟩) zs.length cap zs :=
  ⟨rfl, hl, hc, fun _ => ⟨_, rfl, fun i hi => by rw [add_mk, Nat.zero_add, h.cell]; exact hz i hi⟩⟩
end
theorem IsRow.sl {w : World} {a : Option Addr} {len cap : Nat} {zs : List Int} (h : IsRow .i64 w a len cap zs) : Sl w a len cap (zs.take len) := by
  rcases h with ⟨rfl, rfl, rfl, rfl⟩ | ⟨x, rfl, hl, hm, hz, hc, hw⟩
  · exact Sl.nil_ _ _ _ (by omega)
  · refine ⟨by rw [List.length_take]; omega, hl, by simpa [maxLen] using hm, fun _ => ⟨x, rfl, fun i hi => ?_⟩⟩
    rw [hc i (by omega)]
    congr 2
    rw [List.getD_eq_getElem?_getD, List.getD_eq_getElem?_getD, List.getElem?_take, if_pos hi]

/-! ### All numbers are bytes -/
def isB (z : Int) : Bool := decide (0 ≤ z) && decide (z ≤ 255)
def allB (zs : List Int) : Bool := zs.all isB
theorem allB_no {zs : List Int} {k : Nat} (hk : k < zs.length) (h : isB (zs.getD k 0) = false) : allB zs = false := by
  unfold allB
  rw [List.all_eq_false]
  refine ⟨zs.getD k 0, ?_, by simpa using h⟩
  rw [List.getD_eq_getElem?_getD, List.getElem?_eq_getElem hk]
  exact List.getElem_mem hk
theorem allB_yes {zs : List Int} (h : ∀ j, j < zs.length → isB (zs.getD j 0) = true) : allB zs = true := by
  unfold allB
  rw [List.all_eq_true]
  intro z hz
  obtain ⟨j, hj, rfl⟩ := List.getElem_of_mem hz
  have := h j hj
  rwa [List.getD_eq_getElem?_getD, List.getElem?_eq_getElem hj] at this

theorem isB_iff {z : Int} : isB z = true ↔ 0 ≤ z ∧ z ≤ 255 := by simp [isB]
theorem ret_bool {a b : Bool} (h : a = b) : Ending.returned (.bool a) = .returned (.bool b) := by rw [h]
theorem ret_int {k : IntKind} {a b : Int} (h : a = b) : Ending.returned (.int k a) = .returned (.int k b) := by rw [h]

/-! ### Lists compared -/
theorem getD_eq {xs ys : List Int} (hl : xs.length = ys.length) (h : ∀ j, j < xs.length → xs.getD j 0 = ys.getD j 0) : xs = ys := by
  apply List.ext_getElem hl
  intro j h1 h2
  have := h j h1
  rwa [List.getD_eq_getElem?_getD, List.getD_eq_getElem?_getD, List.getElem?_eq_getElem h1, List.getElem?_eq_getElem h2] at this

/-! ### A list counted, and copied -/
end Go.Proofs.Ytkiijeobadlnnaa
