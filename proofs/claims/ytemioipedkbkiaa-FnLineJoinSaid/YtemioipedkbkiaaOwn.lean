/-
  Slices of integers of a call's own: made, appended to, read. No condition: plain lemmas over the program's step of append.
-/
import Derived.Test.YtemioipedkbkiaaInts
import Derived.Deep.AppendLies
namespace Go.Proofs.Ytemioipedkbkiaa
open Go.RowKit
set_option linter.unusedVariables false

/-- A slice of the call's own: k numbers zs at the head of block h. -/
def Own (w : World) (base h k cap : Nat) (zs : List Int) : Prop := w.ownsRow base 3 1 (.slice (some ⟨h, 0, none⟩) k cap) k (zs.map (Value.int .i64))
section
variable {w w' : World} {base h k cap : Nat} {zs : List Int}
theorem Own.len (o : Own w base h k cap zs) : zs.length = k := by have := o.1; simpa using this
theorem Own.sl (o : Own w base h k cap zs) : Sl w (some ⟨h, 0, none⟩) k cap zs := by
  have hl := o.len
  have hcap : k ≤ cap ∧ cap ≤ maxLen := by
    rcases o.2 with ⟨hv, _⟩ | ⟨g, c, cur, hv, _, _, h1, h2, _⟩
    · cases hv
    · injection hv with _ _ hc
      subst hc
      exact ⟨h1, h2⟩
  refine ⟨hl, hcap.1, by simpa [maxLen] using hcap.2, fun hk => ⟨_, rfl, fun i hi => ?_⟩⟩
  refine o.cells (g := h) rfl i _ ?_
  rw [List.getElem?_map, List.getElem?_eq_getElem (by omega)]
  simp [List.getD_eq_getElem?_getD, List.getElem?_eq_getElem (show i < zs.length by omega)]
theorem Own.lt (o : Own w base h k cap zs) : base ≤ h ∧ h < w.heap.size := World.ownsRow.lt o h rfl
theorem Own.just {g : Nat} (o : Own w base h k cap zs) (j : Just g w w') (hg : h ≠ g) : Own w' base h k cap zs :=
  World.ownsRow.kept (row := some g) o ⟨j.os, j.tape, j.output, by rw [j.size]; exact Nat.le_refl _, fun i _ hi => j.block i (fun e => hi (by rw [e]))⟩ (.inr (by simpa [Value.ownBlock] using hg))
theorem Own.but {g : Nat} (o : Own w base h k cap zs) (j : But g w w') (hg : h ≠ g) : Own w' base h k cap zs :=
  World.ownsRow.kept (row := some g) o ⟨j.os, j.tape, j.output, j.size, fun i h2 hi => j.block i h2 (fun e => hi (by rw [e]))⟩ (.inr (by simpa [Value.ownBlock] using hg))
theorem Own.alloc (o : Own w base h k cap zs) (ob : Obj) : Own (w.alloc ob) base h k cap zs := World.ownsRow.alloc o ob
theorem Own.belowAll (o : Own w base h k cap zs) (j : Below w.heap.size w w') : Own w' base h k cap zs :=
  World.ownsRow.kept (row := none) o ⟨j.os, j.tape, j.output, j.size, fun i h2 _ => j.block i h2⟩ (.inr (by simp [Value.ownBlock]))
theorem Own.far (o : Own w base h k cap zs) {p : Addr} (hp : h ≠ p.block) (u : Value) : Own (w.setCell p u) base h k cap zs :=
  World.ownsRow.kept (row := some p.block) o ⟨rfl, rfl, rfl, by simp [World.setCell], fun i _ hi => Below.heap_setCell w p u i (fun e => hi (by rw [e]))⟩ (.inr (by simpa [Value.ownBlock] using hp))
end
theorem Own.ne {w : World} {base h k cap g : Nat} {zs : List Int} {t : TypeId} {cs : Array Value} (o : Own w base h k cap zs) (b : Bk w g t cs) (ht : t ≠ 3) : h ≠ g := by
  rintro rfl
  rcases o.2 with ⟨hv, _⟩ | ⟨h', c, cur, hv, _, hb, _⟩
  · cases hv
  · injection hv with ha _ _
    injection ha with ha
    injection ha with ha
    subst ha
    unfold Bk at b
    rw [hb] at b
    injection b with b
    injection b with _ b
    exact ht b.symm
theorem Own.le_ {w : World} {base base' h k cap : Nat} {zs : List Int} (o : Own w base h k cap zs) (hb : base' ≤ base) : Own w base' h k cap zs :=
  ⟨o.1, o.2.elim Or.inl (fun ⟨g, c, cur, hv, hg, r⟩ => Or.inr ⟨g, c, cur, hv, Nat.le_trans hb hg, r⟩)⟩
theorem Own.new {w : World} {base h : Nat} (hb : base ≤ h) (b : Bk w h 3 #[]) : Own w base h 0 0 [] :=
  ⟨by simp, .inr ⟨h, 0, #[], rfl, hb, b, Nat.le_refl _, by simp [maxLen], by simp, by simp⟩⟩
theorem Own.room {w : World} {base h cap : Nat} {cs : Array Value} (hb : base ≤ h) (b : Bk w h 3 cs) (hc : cs.size = cap) (hm : cap ≤ 1000000) : Own w base h 0 cap [] :=
  ⟨by simp, .inr ⟨h, cap, cs, rfl, hb, b, Nat.zero_le _, by unfold maxLen; omega, by simp [hc], by simp⟩⟩
theorem Own.one {w : World} {base h : Nat} {x : Int} (hb : base ≤ h) (b : Bk w h 3 #[.int .i64 x]) : Own w base h 1 1 [x] :=
  ⟨by simp, .inr ⟨h, 1, #[.int .i64 x], rfl, hb, b, Nat.le_refl _, by simp [maxLen], by simp, by simp⟩⟩
theorem Bk.grow {w w' : World} {g : Nat} {t : TypeId} {cs : Array Value} {row : Option Nat} (b : Bk w g t cs) (k : w.grownBy w' row) (hne : row ≠ some g) : Bk w' g t cs := (k.block g b.lt (fun e => hne e.symm)).trans b
theorem grown_below {w w' : World} {B h : Nat} (k : w.grownBy w' (some h)) (hb : B ≤ h) (hs : B ≤ w.heap.size) : Below B w w' :=
  ⟨k.os, k.tape, k.output, k.size, fun i hi => k.block i (by omega) (by simp; omega)⟩
theorem int_info1 : (Try.prog.info? 3).map (fun i => (i.zero, i.size, i.bytes)) = some (some (.int .i64 0), 1, 8) := by kernel_rfl
/-- One number appended, at a plain region's list. -/
theorem app_int {w : World} {ops : Array Oper} {rest : List Oper} {o : Oper} {a : Act} {Q : Exit → Act → World → Prop} (hgd : o.guard = none) (s x : Operand)
    (ho : o.op = .call { callee := .builtin .append, args := #[s, x], argTypes := #[24, 24] })
    {base h k cap : Nat} {zs : List Int} {B : Nat} {y : Int} (hs : a.eval s = .slice (some ⟨h, 0, none⟩) k cap) (hx : a.eval x = .slice (some ⟨B, 0, none⟩) 1 1)
    (own : Own w base h k cap zs) (hB : Bk w B 3 #[.int .i64 y]) (hk : k ≤ 1000000) (hbase : base ≤ w.heap.size)
    (K : ∀ g cap' w', Own w' base g (k + 1) cap' (zs ++ [y]) → w.grownBy w' (some h) → wpList Try.prog ops Q rest (a.put o.dst (.slice (some ⟨g, 0, none⟩) (k + 1) cap')) w') : wpList Try.prog ops Q (o :: rest) a w := by
  obtain ⟨i, hi, hz⟩ := Option.map_eq_some_iff.1 int_info1
  simp only [Prod.mk.injEq] at hz
  obtain ⟨hz0, hz1, hz2⟩ := hz
  refine wpList_append_lies w hgd s x 24 ho base 3 i (.int .i64 0) 1 8 Try.underlying24 hi hz0 hz1 hz2 (by rfl) (by omega) _ k _ hs own ⟨B, 0, none⟩ 1 1 [.int .i64 y] hx rfl (World.news_of_block (cs := #[.int .i64 y]) hB) (by simp [Value.oneCell']) (by omega) (by unfold maxLen; omega) (by omega) hbase _ rfl ?_
  intro g cap' w' h1 h2 h3 h4
  exact K g cap' w' (by simpa [Own] using h1) h2
end Go.Proofs.Ytemioipedkbkiaa
