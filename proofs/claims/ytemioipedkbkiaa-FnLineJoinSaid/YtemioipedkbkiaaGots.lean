/-
  Walks of the functions on lists of bytes that came. Each contract says what the function returns for what the slice reads as, and that nothing that was there has turned.
-/
import Derived.Test.YtemioipedkbkiaaInts
namespace Go.Proofs.Ytemioipedkbkiaa
open Go.RowKit
set_option linter.unusedVariables false

/-- The slice reads as the pairs zs. -/
def Sg (w : World) (a : Option Addr) (len cap : Nat) (zs : List (Int × Int)) : Prop :=
  zs.length = len ∧ len ≤ cap ∧ cap ≤ 9223372036854775807 ∧ (0 < len → ∃ b o : Nat, a = some ⟨b, o, none⟩ ∧
    ∀ i, i < len → w.cell? ⟨b, o + i * 2, none⟩ = some (.int .i64 (zs.getD i (0, 0)).1) ∧ w.cell? ⟨b, o + i * 2 + 1, none⟩ = some (.int .i64 (zs.getD i (0, 0)).2))
section
variable {w w' : World} {a : Option Addr} {len cap : Nat} {zs : List (Int × Int)}
theorem Sg.keep (h : Sg w a len cap zs) (hk : ∀ p : Addr, (w.cell? p).isSome = true → w'.cell? p = w.cell? p) : Sg w' a len cap zs :=
  ⟨h.1, h.2.1, h.2.2.1, fun hl => by
    obtain ⟨b, o, hx, hc⟩ := h.2.2.2 hl
    exact ⟨b, o, hx, fun i hi => ⟨(hk _ (by rw [(hc i hi).1]; rfl)).trans (hc i hi).1, (hk _ (by rw [(hc i hi).2]; rfl)).trans (hc i hi).2⟩⟩⟩
theorem Sg.below {B : Nat} (h : Sg w a len cap zs) (k : Below B w w') (hB : w.heap.size ≤ B) : Sg w' a len cap zs := h.keep fun p hp => k.cell (by have := lt_of_some hp; omega)
theorem Sg.alloc (h : Sg w a len cap zs) (o : Obj) : Sg (w.alloc o) a len cap zs := h.below ((Below.refl _ _).alloc (Nat.le_refl _) o) (Nat.le_refl _)
theorem Sg.drewN (h : Sg w a len cap zs) (n : Nat) : Sg (w.drewN n) a len cap zs := h
theorem Sg.at_ (h : Sg w a len cap zs) {k : Nat} (hk : k < len) : ∃ b o : Nat, a = some ⟨b, o, none⟩ ∧ w.cell? ⟨b, o + k * 2, none⟩ = some (.int .i64 (zs.getD k (0, 0)).1) ∧ w.cell? ⟨b, o + k * 2 + 1, none⟩ = some (.int .i64 (zs.getD k (0, 0)).2) := by
  obtain ⟨b, o, hx, hc⟩ := h.2.2.2 (by omega)
  exact ⟨b, o, hx, (hc k hk).1, (hc k hk).2⟩
end

def gv (z : Int × Int) : Bool := isB z.1 && decide (0 ≤ z.2) && decide (z.2 ≤ 2)
def allG (zs : List (Int × Int)) : Bool := zs.all gv
theorem allG_no {zs : List (Int × Int)} {k : Nat} (hk : k < zs.length) (h : gv (zs.getD k (0, 0)) = false) : allG zs = false := by
  unfold allG
  rw [List.all_eq_false]
  refine ⟨zs.getD k (0, 0), ?_, by simpa using h⟩
  rw [List.getD_eq_getElem?_getD, List.getElem?_eq_getElem hk]
  exact List.getElem_mem hk
theorem allG_yes {zs : List (Int × Int)} (h : ∀ j, j < zs.length → gv (zs.getD j (0, 0)) = true) : allG zs = true := by
  unfold allG
  rw [List.all_eq_true]
  intro z hz
  obtain ⟨j, hj, rfl⟩ := List.getElem_of_mem hz
  have := h j hj
  rwa [List.getD_eq_getElem?_getD, List.getElem?_eq_getElem hj] at this
end Go.Proofs.Ytemioipedkbkiaa
