/-
  What lies in the heap while the program's LineOf collects the samples: the box of the samples, the call's own boxes. Plain lemmas on worlds.
-/
import Derived.Test.YtemioipedkbkiaaLinI
namespace Go.Proofs.Ytemioipedkbkiaa
open Go.RowKit
set_option linter.unusedVariables false

/-- Beyond q: the samples zs at block g; the box that holds them at q + 1; the iterator's boxes behind; the box of idle at B. -/
def LSt (w : World) (a b c I : Int) (p : Option Addr) (len cap B q : Nat) (W : World) (m g cp : Nat) (zs : List Int) : Prop :=
  w.heap.size ≤ B ∧ B < q ∧ Bk W (q + 1) 24 #[.slice (some ⟨g, 0, none⟩) m cp] ∧ Own W q g m cp zs ∧ Bk W B 3 #[.int .i64 I] ∧
    Bk W (q + 2) 27 #[.int .i64 a, .int .i64 b, .int .i64 c] ∧ Bk W (q + 3) 24 #[.slice p len cap] ∧ Below w.heap.size w W
theorem Bk.putObj {W : World} {h l : Nat} {t : TypeId} {cs : Array Value} {o : Obj} (k : Bk W h t cs) (hl : W.heap[l]? = some o) (ho : o.isCells = false) (o' : Obj) : Bk (W.putObj l o') h t cs := by
  unfold Bk at k ⊢
  rw [World.putObj_heap_other (by rintro rfl; rw [k] at hl; injection hl with hl; subst hl; cases ho)]
  exact k
theorem Own.putObj' {W : World} {base h k cap l : Nat} {zs : List Int} {o : Obj} (ow : Own W base h k cap zs) (hl : W.heap[l]? = some o) (ho : o.isCells = false) (o' : Obj) : Own (W.putObj l o') base h k cap zs :=
  ownsRow_putObj ow o' hl ho
theorem below_far {w W : World} (h : Below w.heap.size w W) {l : Nat} (hl : w.heap.size ≤ l) (o : Obj) : Below w.heap.size w (W.putObj l o) :=
  ⟨h.os, h.tape, h.output, by rw [World.putObj_size]; exact h.size, fun i hi => by rw [World.putObj_heap_other (by omega)]; exact h.block i hi⟩
theorem Own.cells {W : World} {base h k cap : Nat} {zs : List Int} (ow : Own W base h k cap zs) : ∃ cs, Bk W h 3 cs := by
  rcases ow.2 with ⟨hv, _⟩ | ⟨g, cp, cur, hv, _, hg, _⟩
  · cases hv
  · injection hv with ha _ _
    injection ha with ha
    injection ha with ha
    subst ha
    exact ⟨cur, hg⟩
section
variable {w W : World} {a b c I : Int} {p : Option Addr} {len cap B q m g cp : Nat} {zs : List Int}
theorem LSt.below {W2 : World} (h : LSt w a b c I p len cap B q W m g cp zs) (k : Below W.heap.size W W2) : LSt w a b c I p len cap B q W2 m g cp zs := by
  obtain ⟨h1, h2, h3, h4, h5, h6, h7, h8⟩ := h
  exact ⟨h1, h2, h3.belowAll k, h4.belowAll k, h5.belowAll k, h6.belowAll k, h7.belowAll k, h8.trans (k.mono h8.size)⟩
theorem LSt.put {l : Nat} {o : Obj} (h : LSt w a b c I p len cap B q W m g cp zs) (hq : w.heap.size ≤ l) (hl : W.heap[l]? = some o) (ho : o.isCells = false) (o' : Obj) : LSt w a b c I p len cap B q (W.putObj l o') m g cp zs := by
  obtain ⟨h1, h2, h3, h4, h5, h6, h7, h8⟩ := h
  exact ⟨h1, h2, h3.putObj hl ho o', h4.putObj' hl ho o', h5.putObj hl ho o', h6.putObj hl ho o', h7.putObj hl ho o', below_far h8 hq o'⟩
theorem LSt.fa {xs : List Int} (h : LSt w a b c I p len cap B q W m g cp zs) (s : Sl w p len cap xs) : FrF a b c p len cap xs (q + 2) (q + 3) W := by
  obtain ⟨h1, h2, h3, h4, h5, h6, h7, h8⟩ := h
  exact ⟨h6, h7, s.below h8 (Nat.le_refl _)⟩
/-- One sample is appended and stored. -/
theorem LSt.step {w1 : World} {y : Int} {g' cp' : Nat} {ob : Obj} (h : LSt w a b c I p len cap B q W m g cp zs) (o : Own w1 q g' (m + 1) cp' (zs ++ [y])) (gr : (W.alloc ob).grownBy w1 (some g)) :
    Bk w1 (q + 1) 24 #[.slice (some ⟨g, 0, none⟩) m cp] ∧
      LSt w a b c I p len cap B q (w1.setCell ⟨q + 1, 0, none⟩ (.slice (some ⟨g', 0, none⟩) (m + 1) cp')) (m + 1) g' cp' (zs ++ [y]) ∧
      KeepsOthers W (w1.setCell ⟨q + 1, 0, none⟩ (.slice (some ⟨g', 0, none⟩) (m + 1) cp')) ∧
      ∀ (base h8 n8 c8 : Nat) (F : List Int), Own W base h8 n8 c8 F → h8 ≠ g → Own (w1.setCell ⟨q + 1, 0, none⟩ (.slice (some ⟨g', 0, none⟩) (m + 1) cp')) base h8 n8 c8 F := by
  obtain ⟨h1, h2, h3, h4, h5, h6, h7, h8⟩ := h
  have gl := h4.lt
  have n1 : q + 1 ≠ g := (h4.ne h3 (by decide)).symm
  have k3 := Bk.grow (h3.alloc ob) gr (by simp; omega)
  have n1' : g' ≠ q + 1 := o.ne k3 (by decide)
  have k5 := Bk.grow (h5.alloc ob) gr (by simp; omega)
  have k6 := Bk.grow (h6.alloc ob) gr (by have := h4.ne h6 (by decide); simp; omega)
  have k7 := Bk.grow (h7.alloc ob) gr (by have := h4.ne h7 (by decide); simp; omega)
  have gs := grownBy_setCell' w1 (q + 1) (.slice (some ⟨g', 0, none⟩) (m + 1) cp')
  refine ⟨k3, ⟨h1, h2, Boxed.set _ k3, o.far n1' _, k5.grow gs (by simp; omega), k6.grow gs (by simp), k7.grow gs (by simp), ?_⟩, ?_, ?_⟩
  · refine ((h8.alloc h8.size ob).trans (grown_below gr (by omega) (by have := h8.size; simp; omega))).setCell (p := ⟨q + 1, 0, none⟩) (by show w.heap.size ≤ q + 1; omega) _
  · refine ((KeepsOthers.alloc W ob).trans (KeepsOthers.of_grownBy gr fun j o' ej hj => ?_)).trans (KeepsOthers.setCell _ _ _)
    injection ej with ej
    subst ej
    obtain ⟨cs, hc⟩ := (h4.alloc ob).cells
    unfold Bk at hc
    rw [hc] at hj
    injection hj with hj
    subst hj
    rfl
  · intro base h8' n8 c8 F ow hne
    have o1 := Own.grow (ow.alloc ob) gr hne
    refine o1.far ?_ _
    exact o1.ne k3 (by decide)
end
end Go.Proofs.Ytemioipedkbkiaa
