/-
  A whole slice appended to a slice of a call's own. No condition: plain lemmas over the program's step of append.
-/
import Derived.Test.YtemioipedkbkiaaOwn
import Derived.Test.YtemioipedkbkiaaMark
namespace Go.Proofs.Ytemioipedkbkiaa
open Go.RowKit
set_option linter.unusedVariables false

theorem news_sl {w : World} {ad : Addr} {m c : Nat} {ys : List Int} (h : Sl w (some ad) m c ys) : ∀ j u, (ys.map (Value.int .i64))[j]? = some u → w.cell? (ad.add j) = some u := by
  intro j u hu
  rw [List.getElem?_map] at hu
  have hj : j < ys.length := by
    rcases Nat.lt_or_ge j ys.length with h' | h'
    · exact h'
    · rw [List.getElem?_eq_none h'] at hu; cases hu
  obtain ⟨x, hx, hc⟩ := h.at_ (k := j) (by rw [← h.1]; exact hj)
  injection hx with hx
  subst hx
  rw [hc]
  simp [List.getElem?_eq_getElem hj] at hu
  simp [List.getD_eq_getElem?_getD, List.getElem?_eq_getElem hj, hu]
/-- A list of numbers appended, at a plain region's list. -/
theorem app_ints {w : World} {ops : Array Oper} {rest : List Oper} {o : Oper} {a : Act} {Q : Exit → Act → World → Prop} (hgd : o.guard = none) (s x : Operand)
    (ho : o.op = .call { callee := .builtin .append, args := #[s, x], argTypes := #[24, 24] })
    {base h k cap : Nat} {zs : List Int} {ad : Addr} {m c : Nat} {ys : List Int} (hs : a.eval s = .slice (some ⟨h, 0, none⟩) k cap) (hx : a.eval x = .slice (some ad) m c)
    (own : Own w base h k cap zs) (hy : Sl w (some ad) m c ys) (hm0 : 0 < m) (hk : k + m ≤ 1000000) (hbase : base ≤ w.heap.size)
    (K : ∀ g cap' w', Own w' base g (k + m) cap' (zs ++ ys) → w.grownBy w' (some h) → wpList Try.prog ops Q rest (a.put o.dst (.slice (some ⟨g, 0, none⟩) (k + m) cap')) w') : wpList Try.prog ops Q (o :: rest) a w := by
  obtain ⟨i, hi, hz⟩ := Option.map_eq_some_iff.1 int_info1
  simp only [Prod.mk.injEq] at hz
  obtain ⟨hz0, hz1, hz2⟩ := hz
  refine wpList_append_lies w hgd s x 24 ho base 3 i (.int .i64 0) 1 8 Try.underlying24 hi hz0 hz1 hz2 (by rfl) (by omega) _ k _ hs own ad m c (ys.map (Value.int .i64)) hx (by simp [hy.1]) (news_sl hy) (by intro u hu; obtain ⟨z, _, rfl⟩ := List.mem_map.1 hu; simp [Value.oneCell']) hm0 (by unfold maxLen; omega) (by omega) hbase _ rfl ?_
  intro g cap' w' h1 h2 h3 h4
  exact K g cap' w' (by simpa [Own] using h1) h2
theorem Own.grow {w w' : World} {base h k cap r : Nat} {zs : List Int} (o : Own w base h k cap zs) (gr : w.grownBy w' (some r)) (hne : h ≠ r) : Own w' base h k cap zs :=
  World.ownsRow.kept (row := some r) o gr (.inr (by simpa [Value.ownBlock] using hne))
/-- One number appended: and where the new slice lies. -/
theorem app_int2 {w : World} {ops : Array Oper} {rest : List Oper} {o : Oper} {a : Act} {Q : Exit → Act → World → Prop} (hgd : o.guard = none) (s x : Operand)
    (ho : o.op = .call { callee := .builtin .append, args := #[s, x], argTypes := #[24, 24] })
    {base h k cap : Nat} {zs : List Int} {B : Nat} {y : Int} (hs : a.eval s = .slice (some ⟨h, 0, none⟩) k cap) (hx : a.eval x = .slice (some ⟨B, 0, none⟩) 1 1)
    (own : Own w base h k cap zs) (hB : Bk w B 3 #[.int .i64 y]) (hk : k ≤ 1000000) (hbase : base ≤ w.heap.size)
    (K : ∀ g cap' w', Own w' base g (k + 1) cap' (zs ++ [y]) → w.grownBy w' (some h) → (g = h ∨ g = w.heap.size) → wpList Try.prog ops Q rest (a.put o.dst (.slice (some ⟨g, 0, none⟩) (k + 1) cap')) w') : wpList Try.prog ops Q (o :: rest) a w := by
  obtain ⟨i, hi, hz⟩ := Option.map_eq_some_iff.1 int_info1
  simp only [Prod.mk.injEq] at hz
  obtain ⟨hz0, hz1, hz2⟩ := hz
  refine wpList_append_lies w hgd s x 24 ho base 3 i (.int .i64 0) 1 8 Try.underlying24 hi hz0 hz1 hz2 (by rfl) (by omega) _ k _ hs own ⟨B, 0, none⟩ 1 1 [.int .i64 y] hx rfl (World.news_of_block (cs := #[.int .i64 y]) hB) (by simp [Value.oneCell']) (by omega) (by unfold maxLen; omega) (by omega) hbase _ rfl ?_
  intro g cap' w' h1 h2 h3 h4
  refine K g cap' w' (by simpa [Own] using h1) h2 ?_
  rcases h3 with h3 | h3
  · left
    simp [Value.ownBlock] at h3
    exact h3.symm
  · exact .inr h3
end Go.Proofs.Ytemioipedkbkiaa
