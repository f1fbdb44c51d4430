/-
  Slices of bytes that came, of a call's own: made, appended to, read, marked. No condition: plain lemmas over the program's step of append.
-/
import Derived.Test.YtemioipedkbkiaaGotE
import Derived.Test.YtemioipedkbkiaaOwnB
namespace Go.Proofs.Ytemioipedkbkiaa
open Go.RowKit
set_option linter.unusedVariables false

def gflat (zs : List (Int × Int)) : List Value := zs.flatMap fun z => [.int .i64 z.1, .int .i64 z.2]
theorem gflat_len (zs : List (Int × Int)) : (gflat zs).length = zs.length * 2 := by
  induction zs with
  | nil => rfl
  | cons z zs ih => unfold gflat at ih ⊢; rw [List.flatMap_cons, List.length_append, ih]; simp; omega
theorem gflat_append (xs ys : List (Int × Int)) : gflat (xs ++ ys) = gflat xs ++ gflat ys := by simp [gflat]
theorem gflat_at : ∀ (zs : List (Int × Int)) (i : Nat), i < zs.length → (gflat zs)[i * 2]? = some (.int .i64 (zs.getD i (0, 0)).1) ∧ (gflat zs)[i * 2 + 1]? = some (.int .i64 (zs.getD i (0, 0)).2)
  | [], i, h => absurd h (by simp)
  | z :: zs, 0, _ => by simp [gflat]
  | z :: zs, i + 1, h => by
    have ih := gflat_at zs i (by simpa using h)
    have e : gflat (z :: zs) = .int .i64 z.1 :: .int .i64 z.2 :: gflat zs := rfl
    rw [e, show (i + 1) * 2 = i * 2 + 1 + 1 by omega]
    simpa using ih
/-- A slice of the call's own: nil, or n pairs zs at the head of a block. -/
def Owg (w : World) (base : Nat) (a : Option Addr) (n cap : Nat) (zs : List (Int × Int)) : Prop := w.ownsRow base 43 2 (.slice a n cap) n (gflat zs)
section
variable {w w' : World} {base n cap : Nat} {a : Option Addr} {zs : List (Int × Int)}
theorem Owg.len (o : Owg w base a n cap zs) : zs.length = n := by have := o.1; rw [gflat_len] at this; omega
theorem Owg.sg (o : Owg w base a n cap zs) : Sg w a n cap zs := by
  have hl := o.len
  rcases o.2 with ⟨hv, h0⟩ | ⟨g, c, cur, hv, hg, hb, h1, h2, h3, h4⟩
  · injection hv with ha hn hc
    subst ha hn hc
    exact ⟨hl, Nat.le_refl _, by omega, fun h => absurd h (by omega)⟩
  · injection hv with ha _ hc
    subst ha hc
    refine ⟨hl, h1, by simpa [maxLen] using h2, fun _ => ⟨g, 0, rfl, fun i hi => ?_⟩⟩
    obtain ⟨e1, e2⟩ := gflat_at zs i (by omega)
    rw [Nat.zero_add]
    rw [← h4] at e1 e2
    have hs : cur.toList.length = cap * 2 := by simpa using h3
    refine ⟨?_, ?_⟩
    · rw [cell_of_row w g _ cur _ _ hb]
      rw [List.getElem?_take, if_pos (by omega)] at e1
      simpa using e1
    · rw [cell_of_row w g _ cur _ _ hb]
      rw [List.getElem?_take, if_pos (by omega)] at e2
      simpa using e2
theorem Owg.row (o : Owg w base a n cap zs) : ∀ r, (Value.slice a n cap).ownBlock = some r → base ≤ r ∧ r < w.heap.size := by
  intro r hr
  rcases o.2 with ⟨hv, h0⟩ | ⟨g, c, cur, hv, hg, hb, _⟩
  · injection hv with ha _ _
    subst ha
    simp [Value.ownBlock] at hr
  · injection hv with ha _ _
    subst ha
    simp [Value.ownBlock] at hr
    subst hr
    refine ⟨hg, ?_⟩
    rcases Nat.lt_or_ge g w.heap.size with hlt | hge
    · exact hlt
    · rw [Array.getElem?_eq_none hge] at hb; cases hb
theorem Owg.nil_ (w : World) (base : Nat) : Owg w base none 0 0 [] := ⟨rfl, .inl ⟨rfl, rfl⟩⟩
theorem Owg.new {h : Nat} (hb : base ≤ h) (b : Bk w h 43 #[]) : Owg w base (some ⟨h, 0, none⟩) 0 0 [] :=
  ⟨rfl, .inr ⟨h, 0, #[], rfl, hb, b, Nat.le_refl _, by simp [maxLen], by simp, by simp [gflat]⟩⟩
theorem Owg.alloc (o : Owg w base a n cap zs) (ob : Obj) : Owg (w.alloc ob) base a n cap zs := World.ownsRow.alloc o ob
theorem Owg.drewN (o : Owg w base a n cap zs) (q : Nat) : Owg (w.drewN q) base a n cap zs := o
theorem Owg.belowAll (o : Owg w base a n cap zs) (j : Below w.heap.size w w') : Owg w' base a n cap zs :=
  World.ownsRow.kept (row := none) o ⟨j.os, j.tape, j.output, j.size, fun i h2 _ => j.block i h2⟩ (Classical.em _)
theorem Owg.le_ {base' : Nat} (o : Owg w base a n cap zs) (hb : base' ≤ base) : Owg w base' a n cap zs :=
  ⟨o.1, o.2.elim Or.inl (fun ⟨g, c, cur, hv, hg, r⟩ => Or.inr ⟨g, c, cur, hv, Nat.le_trans hb hg, r⟩)⟩
end
theorem grown_below2 {w w' : World} {B : Nat} {row : Option Nat} (k : w.grownBy w' row) (hr : ∀ r, row = some r → B ≤ r) (hs : B ≤ w.heap.size) : Below B w w' :=
  ⟨k.os, k.tape, k.output, k.size, fun i hi => k.block i (by omega) (fun e => by have := hr i e.symm; omega)⟩
theorem got_info : (Try.prog.info? 43).map (fun i => (i.zero, i.size, i.bytes)) = some (some (.agg #[.int .i64 0, .int .i64 0]), 2, 16) := by kernel_rfl
/-- One pair appended, at a plain region's list. -/
theorem app_got {w : World} {ops : Array Oper} {rest : List Oper} {o : Oper} {a : Act} {Q : Exit → Act → World → Prop} (hgd : o.guard = none) (s x : Operand)
    (ho : o.op = .call { callee := .builtin .append, args := #[s, x], argTypes := #[40, 40] })
    {base n cap : Nat} {ad : Option Addr} {zs : List (Int × Int)} {B : Nat} {V C : Int} (hs : a.eval s = .slice ad n cap) (hx : a.eval x = .slice (some ⟨B, 0, none⟩) 1 1)
    (own : Owg w base ad n cap zs) (hB : Bk w B 43 #[.int .i64 V, .int .i64 C]) (hk : n ≤ 1000000) (hbase : base ≤ w.heap.size)
    (K : ∀ g cap' w', Owg w' base (some ⟨g, 0, none⟩) (n + 1) cap' (zs ++ [(V, C)]) → w.grownBy w' (Value.slice ad n cap).ownBlock → wpList Try.prog ops Q rest (a.put o.dst (.slice (some ⟨g, 0, none⟩) (n + 1) cap')) w') : wpList Try.prog ops Q (o :: rest) a w := by
  obtain ⟨i, hi, hz⟩ := Option.map_eq_some_iff.1 got_info
  simp only [Prod.mk.injEq] at hz
  obtain ⟨hz0, hz1, hz2⟩ := hz
  refine wpList_append_lies w hgd s x 40 ho base 43 i (.agg #[.int .i64 0, .int .i64 0]) 2 16 Try.underlying40 hi hz0 hz1 hz2 (by rfl) (by omega) _ n _ hs own ⟨B, 0, none⟩ 1 1 [.int .i64 V, .int .i64 C] hx rfl (World.news_of_block (cs := #[.int .i64 V, .int .i64 C]) hB) (by simp [Value.oneCell']) (by omega) (by unfold maxLen; omega) (by omega) hbase _ rfl ?_
  intro g cap' w' h1 h2 h3 h4
  exact K g cap' w' (by unfold Owg; rw [gflat_append]; exact h1) h2
end Go.Proofs.Ytemioipedkbkiaa
