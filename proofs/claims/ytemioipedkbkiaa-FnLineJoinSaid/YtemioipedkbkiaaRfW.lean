/-
  A range over a function whose body is told what the value that it is handed reads as. The iterator (Says): whatever it leans on (Fa) and whatever it says of a value (R) at a round. The statement (wpIn_rf). No condition: a plain law over the library's steps.
-/
import Derived.RangeFuncNested
import Derived.RangeFuncCalls
import Derived.RangeFuncLeaves
import Derived.Shelf.Abstract
import Derived.Shelf.RegionOpen
import Derived.WalkKit
import Derived.OwnWalkIn
import Derived.TacticsInMore
import Derived.LoopNIn
import Derived.LoopIn
import Derived.Test.YtemioipedkbkiaaOwnB
namespace Go.Proofs.Ytemioipedkbkiaa
open Go.RowKit Go.Shelf
set_option linter.unusedVariables false

/-- The iterator hands over the values of xs in their order, each as a value v with R x v (beyond the heap of the round's start), as long as each round lets it go on. -/
def Says (P : Program) (g : Nat) (lb : Array Value) (Fa : World → Prop) (R : Int → Value → Nat → World → Prop) (xs : List Int) : Prop :=
  ∀ (n l : Nat) (J : Nat → World → Prop) (W : World), (∀ k W1, J k W1 → Fa W1) → (∀ k W1 W2, J k W1 → Below W1.heap.size W1 W2 → J k W2) →
    (∀ k v W0 W1, k < xs.length → J k W0 → Below W0.heap.size W0 W1 → R (xs.getD k 0) v W0.heap.size W1 → YieldAt Fence.wide (n - 1) P l #[v] W1 fun e W2 => e = .returned (.bool true) ∧ J (k + 1) W2) →
    J 0 W → CallsIn Fence.wide n P g (#[.func (.yield l) #[] #[]] ++ lb) W fun e W' => (∃ v, e = .returned v) ∧ J xs.length W'
/-- A round that goes on. -/
def goesOn (I : World → Prop) (W : World) : Exit → Act → World → Prop
  | .normal, _, W' => KeepsOthers W W' ∧ I W'
  | .ret, _, _ => False
  | .exit _, _, _ => False
  | .goto _, _, _ => False
  | .panic _, _, _ => False
  | .outgrown, _, _ => False
theorem below_put {W0 W : World} (h : Below W0.heap.size W0 W) {l : Nat} (hl : l < W0.heap.size) (o : Obj) : Below (W0.putObj l o).heap.size (W0.putObj l o) (W.putObj l o) := by
  refine ⟨h.os, h.tape, h.output, by rw [World.putObj_size, World.putObj_size]; exact h.size, fun i hi => ?_⟩
  rw [World.putObj_size] at hi
  by_cases e : i = l
  · subst e
    rw [World.putObj_heap_same hl, World.putObj_heap_same (Nat.lt_of_lt_of_le hl h.size)]
  · rw [World.putObj_heap_other e, World.putObj_heap_other e]
    exact h.block i hi
theorem wpIn_rf {P : Program} {g : Operand} {p : Tmp} {assign body : Code} {Q : Exit → Act → World → Prop} {a : Act} {w : World} {n gf : Nat} {lb : Array Value}
    (hg : a.eval g = .func (.func gf) #[] lb) (eg : ∀ args w, (callFunc gf args).run P w = .ok (.enter gf args) w)
    {Fa : World → Prop} {R : Int → Value → Nat → World → Prop} {xs : List Int} (hseq : Says P gf lb Fa R xs) (I : Nat → World → Prop) (hF : ∀ k W, I k W → Fa W)
    (hB : ∀ k W W2, I k W → Below W.heap.size W W2 → I k W2) (hO : ∀ k W l o o', w.heap.size ≤ l → I k W → W.heap[l]? = some o → o.isCells = false → I k (W.putObj l o'))
    (hR : ∀ x v B W l o o', R x v B W → W.heap[l]? = some o → o.isCells = false → R x v B (W.putObj l o')) (h0 : I 0 w) (a₁ : Value → Act)
    (hassign : ∀ (l : Nat) (v : Value) (W : World) (K : Act → World → Prop), K (a₁ v) W → assign.wpIn (Fence.wide.inRound l) (n - 1 - 1) P (Exit.then K (fun _ _ _ => False)) { tmps := a.tmps.setIfInBounds p v, defers := [] } W)
    (hbody : ∀ (l k : Nat) (v : Value) (W0 W : World), k < xs.length → I k W0 → Below W0.heap.size W0 W → R (xs.getD k 0) v W0.heap.size W → body.wpIn (Fence.wide.inRound l) (n - 1 - 1) P (goesOn (I (k + 1)) W) (a₁ v) W)
    (hdone : ∀ (D : Nat) (W : World), w.heap.size ≤ D → I xs.length W → W.heap[D]? = some (.deferred (some [])) → Q .normal { a with defers := { target := .collected D, args := #[] } :: a.defers } W) :
    (Code.rangeFunc g #[p] assign body).wpIn Fence.wide n P Q a w := by
  refine wpIn_rangeFunc fun fn _ => ?_
  obtain ⟨rc, hrc⟩ : ∃ rc : LoopState → Loop, rc = fun st => { state := st, pending := none, fn := fn, tmps := a.tmps, params := #[p], assign := assign, body := body, defers := w.heap.size } := ⟨_, rfl⟩
  have hst : ∀ st, (rc st).state = st := fun st => by rw [hrc]
  have hpd : ∀ st, (rc st).pending = none := fun st => by rw [hrc]
  have hto : ∀ st st', { rc st with state := st' } = rc st' := fun st st' => by rw [hrc]
  obtain ⟨W1, hW1⟩ : ∃ W1, (w.alloc (.deferred (some []))).alloc (.loop (rc .ready)) = W1 := ⟨_, rfl⟩
  have hs1 : W1.heap.size = w.heap.size + 2 := by rw [← hW1]; simp
  have hl1 : W1.heap[w.heap.size + 1]? = some (.loop (rc .ready)) := by
    rw [← hW1]
    have := World.alloc_heap_new (w.alloc (.deferred (some []))) (.loop (rc .ready))
    rwa [World.size_alloc] at this
  have hd1 : W1.heap[w.heap.size]? = some (.deferred (some [])) := by
    rw [← hW1]
    exact (Below.heap_alloc _ _ _ (by simp)).trans (World.alloc_heap_new w _)
  have b1 : Below w.heap.size w W1 := by
    rw [← hW1]
    exact ((Below.refl _ w).alloc (Nat.le_refl _) _).alloc (by simp) _
  refine ⟨w.heap.size + 1, [{ target := .collected w.heap.size, args := #[] }], W1, { target := .fn (.func gf) lb, args := #[.func (.yield (w.heap.size + 1)) #[] #[]] }, W1, gf, #[.func (.yield (w.heap.size + 1)) #[] #[]] ++ lb, W1, ?_, ?_, fun _ _ => trivial, ?_, fun h => by simp [Fence.wide] at h, ?_⟩
  · rw [← hW1, hrc]; exact run_enterLoop_outer _ _ _ _ _
  · simp only [resolve, hg]
    simp [go_sem]
  · simp [invoke, go_sem, eg]
  refine (hseq (n - 1) (w.heap.size + 1) (fun k W => I k W ∧ W.heap[w.heap.size + 1]? = some (.loop (rc .ready)) ∧ W.heap[w.heap.size]? = some (.deferred (some []))) W1 (fun k W h => hF k W h.1) ?_ ?_ ⟨hB _ _ _ h0 b1, hl1, hd1⟩).mono ?_
  · rintro k X Y ⟨hi, hl, hd⟩ hb
    exact ⟨hB _ _ _ hi hb, (hb.block _ (Array.getElem?_eq_some_iff.1 hl).1).trans hl, (hb.block _ (Array.getElem?_eq_some_iff.1 hd).1).trans hd⟩
  · rintro k v W0 W hk ⟨hi, hl0, hd0⟩ hb hr
    have hl := (hb.block _ (Array.getElem?_eq_some_iff.1 hl0).1).trans hl0
    have hd := (hb.block _ (Array.getElem?_eq_some_iff.1 hd0).1).trans hd0
    have hlt : w.heap.size + 1 < W.heap.size := (Array.getElem?_eq_some_iff.1 hl).1
    have hy := run_yield (P := P) (args := #[v]) hl (by rw [hrc]; rfl)
    have e1 : (rc .ready).fn = fn := by rw [hrc]
    have e2 : (rc .ready).assign = assign := by rw [hrc]
    have e3 : (rc .ready).body = body := by rw [hrc]
    have e4 : ((rc .ready).params.zip #[v]).foldl (fun tmps (t, a) => tmps.setIfInBounds t a) (rc .ready).tmps = a.tmps.setIfInBounds p v := by rw [hrc]; simp
    rw [e1, e2, e3, e4] at hy
    have hbg := run_beginRound (P := P) hl (hst _)
    rw [hto] at hbg
    refine ⟨fn, _, assign, body, hy, roundIn_of_wpIn trivial (hassign _ v W _ ⟨_, hbg, ?_⟩)⟩
    have hl2 : (W.putObj (w.heap.size + 1) (.loop (rc .busy))).heap[w.heap.size + 1]? = some (.loop (rc .busy)) := World.putObj_heap_same hlt
    have hd2 : (W.putObj (w.heap.size + 1) (.loop (rc .busy))).heap[w.heap.size]? = some (.deferred (some [])) := (World.putObj_heap_other (by omega)).trans hd
    refine wpIn_mono (hbody _ k v (W0.putObj (w.heap.size + 1) (.loop (rc .busy))) _ hk (hO _ _ _ _ _ (by omega) hi hl0 rfl) (below_put hb (Array.getElem?_eq_some_iff.1 hl0).1 _) (by rw [World.putObj_size]; exact hR _ _ _ _ _ _ _ hr hl rfl)) ?_
    rintro e a3 W3 hp
    cases e with
    | normal =>
      obtain ⟨hk3, hi3⟩ := hp
      have hl3 := hk3.same _ _ hl2 rfl
      have hd3 := hk3.same _ _ hd2 rfl
      have hen := run_endRound (P := P) none hl3
      have e5 : ({ rc .busy with state := if (none : Option Code).isNone = true then LoopState.ready else LoopState.done, pending := none } : Loop) = rc .ready := by rw [hrc]; rfl
      rw [e5] at hen
      exact ⟨_, _, hen, rfl, hO _ _ _ _ _ (by omega) hi3 hl3 rfl, World.putObj_heap_same (Array.getElem?_eq_some_iff.1 hl3).1, (World.putObj_heap_other (by omega)).trans hd3⟩
    | ret => exact hp.elim
    | exit id => exact hp.elim
    | goto t => exact hp.elim
    | panic ch => exact hp.elim
    | outgrown => exact hp.elim
  · rintro e W2 ⟨⟨v, rfl⟩, hi, hl, hd⟩
    have hen := run_endLoop (P := P) hl (by rw [hst]; simp)
    rw [hpd] at hen
    exact ⟨none, _, hen, hdone _ _ (Nat.le_refl _) (hO _ _ _ _ _ (by omega) hi hl rfl) ((World.putObj_heap_other (by omega)).trans hd)⟩
/-- One number appended, inside a fence: and where the new slice lies. -/
theorem app_int2In {F : Fence} {n : Nat} {w : World} {ops : Array Oper} {rest : List Oper} {o : Oper} {a : Act} {Q : Exit → Act → World → Prop} (hgd : o.guard = none) (s x : Operand)
    (ho : o.op = .call { callee := .builtin .append, args := #[s, x], argTypes := #[24, 24] })
    {base h k cap : Nat} {zs : List Int} {B : Nat} {y : Int} (hs : a.eval s = .slice (some ⟨h, 0, none⟩) k cap) (hx : a.eval x = .slice (some ⟨B, 0, none⟩) 1 1)
    (own : Own w base h k cap zs) (hB : Bk w B 3 #[.int .i64 y]) (hk : k ≤ 1000000) (hbase : base ≤ w.heap.size)
    (K : ∀ g cap' w', Own w' base g (k + 1) cap' (zs ++ [y]) → w.grownBy w' (some h) → (g = h ∨ g = w.heap.size) → wpListIn F n Try.prog ops Q rest (a.put o.dst (.slice (some ⟨g, 0, none⟩) (k + 1) cap')) w') : wpListIn F n Try.prog ops Q (o :: rest) a w := by
  obtain ⟨i, hi, hz⟩ := Option.map_eq_some_iff.1 int_info1
  simp only [Prod.mk.injEq] at hz
  obtain ⟨hz0, hz1, hz2⟩ := hz
  obtain ⟨g, cap', w', hr, h1, h2, h3, _⟩ := run_append_lies (P := Try.prog) w 24 o.type base 3 i (.int .i64 0) 1 8 Try.underlying24 hi hz0 hz1 hz2 (by rfl) (by omega) _ k _ own ⟨B, 0, none⟩ 1 1 [.int .i64 y] rfl (World.news_of_block (cs := #[.int .i64 y]) hB) (by simp [Value.oneCell']) (by omega) (by unfold maxLen; omega) (by omega) hbase _ rfl
  refine wpListIn_plain hgd fun K' hK' => ?_
  unfold Oper.wpIn
  refine ⟨by simp [Oper.about, ho, resolve, Target.leads, Sem.run_pure], ?_⟩
  rw [Oper.semAt_plain F _ _ (by rw [ho]; intro c hc; cases hc)]
  simp [execOp, ho, resolve, invoke, builtin, hs, hx, hr, Result.andThen]
  refine hK' _ _ (K g cap' w' (by simpa [Own] using h1) h2 ?_)
  rcases h3 with h3 | h3
  · left
    simp [Value.ownBlock] at h3
    exact h3.symm
  · exact .inr h3
end Go.Proofs.Ytemioipedkbkiaa
