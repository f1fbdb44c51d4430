/-
  The heap of interrupts in memory: a header block, and a slice of the call's own; its methods as the library calls them through its interface.
-/
import Derived.Test.YtkiijeobadlnnaaInts
import Derived.Test.YtkiijeobadlnnaaKit
import Derived.Deep.AppendLies
import Derived.Laws.OwnMore
import Derived.Deep.RegionHeld3
import Derived.RegionTactic
import Derived.BigRegion
import Derived.Deep.RegionLaw
namespace Go.Proofs.Ytkiijeobadlnnaa
open Go.RowKit
set_option linter.unusedVariables false

theorem m_len (a : Addr) (v : Value) (w : World) (h : w.cell? a = some v) : (method 170 30 (.pointer (some a)) "Len").run Try.prog w = .ok (14, v) w := by
  have e : (method 170 30 (.pointer (some a)) "Len").run Try.prog w = (do let v ← loadVar 32 a; pure (14, v) : Sem (FuncId × Value)).run Try.prog w := by kernel_rfl
  rw [e]
  simp [loadVar, go_sem, h]
theorem m_less (a : Addr) (v : Value) (w : World) (h : w.cell? a = some v) : (method 170 30 (.pointer (some a)) "Less").run Try.prog w = .ok (36, v) w := by
  have e : (method 170 30 (.pointer (some a)) "Less").run Try.prog w = (do let v ← loadVar 32 a; pure (36, v) : Sem (FuncId × Value)).run Try.prog w := by kernel_rfl
  rw [e]
  simp [loadVar, go_sem, h]
theorem m_swap (a : Addr) (v : Value) (w : World) (h : w.cell? a = some v) : (method 170 30 (.pointer (some a)) "Swap").run Try.prog w = .ok (39, v) w := by
  have e : (method 170 30 (.pointer (some a)) "Swap").run Try.prog w = (do let v ← loadVar 32 a; pure (39, v) : Sem (FuncId × Value)).run Try.prog w := by kernel_rfl
  rw [e]
  simp [loadVar, go_sem, h]
theorem m_push (a : Addr) (w : World) : (method 170 30 (.pointer (some a)) "Push").run Try.prog w = .ok (38, .pointer (some a)) w := by kernel_rfl
theorem m_pop (a : Addr) (w : World) : (method 170 30 (.pointer (some a)) "Pop").run Try.prog w = .ok (37, .pointer (some a)) w := by kernel_rfl
theorem as_kind (v : Value) (w : World) : (Instr.typeAssert (.iface 34 v) 20 34 false).run Try.prog w = .ok v w := by kernel_rfl

/-- An interrupt: its rank, its number, its bit. -/
abbrev Kd := Int × Int × Int
def kcells (z : Kd) : List Value := [.int .i64 z.1, .int .i64 z.2.1, .int .i64 z.2.2]
def kflat (zs : List Kd) : List Value := zs.flatMap kcells
theorem kflat_len (zs : List Kd) : (kflat zs).length = zs.length * 3 := by
  induction zs with
  | nil => rfl
  | cons z zs ih => unfold kflat at ih ⊢; rw [List.flatMap_cons, List.length_append, ih]; simp [kcells]; omega
theorem kflat_append (xs ys : List Kd) : kflat (xs ++ ys) = kflat xs ++ kflat ys := by simp [kflat]
def k0 : Kd := (0, 0, 0)
theorem kflat_at : ∀ (zs : List Kd) (i : Nat), i < zs.length → (kflat zs)[i * 3]? = some (.int .i64 (zs.getD i k0).1) ∧ (kflat zs)[i * 3 + 1]? = some (.int .i64 (zs.getD i k0).2.1) ∧ (kflat zs)[i * 3 + 2]? = some (.int .i64 (zs.getD i k0).2.2)
  | [], i, h => absurd h (by simp)
  | z :: zs, 0, _ => by simp [kflat, kcells]
  | z :: zs, i + 1, h => by
    have ih := kflat_at zs i (by simpa using h)
    have e : kflat (z :: zs) = .int .i64 z.1 :: .int .i64 z.2.1 :: .int .i64 z.2.2 :: kflat zs := rfl
    rw [e, show (i + 1) * 3 = i * 3 + 1 + 1 + 1 by omega]
    simpa using ih
theorem kflat_set : ∀ (zs : List Kd) (i : Nat) (x : Kd), i < zs.length → kflat (zs.set i x) = (((kflat zs).set (i * 3) (.int .i64 x.1)).set (i * 3 + 1) (.int .i64 x.2.1)).set (i * 3 + 2) (.int .i64 x.2.2)
  | [], i, x, h => absurd h (by simp)
  | z :: zs, 0, x, _ => by simp [kflat, kcells]
  | z :: zs, i + 1, x, h => by
    have ih := kflat_set zs i x (by simpa using h)
    have e : ∀ (z : Kd) zs, kflat (z :: zs) = .int .i64 z.1 :: .int .i64 z.2.1 :: .int .i64 z.2.2 :: kflat zs := fun _ _ => rfl
    rw [List.set_cons_succ, e, e, ih, show (i + 1) * 3 = i * 3 + 1 + 1 + 1 by omega]
    simp
/-- A slice of interrupts of the call's own. -/
def Owk (w : World) (base g k cap : Nat) (zs : List Kd) : Prop := w.ownsRow base 34 3 (.slice (some ⟨g, 0, none⟩) k cap) k (kflat zs)
section
variable {w w' : World} {base g k cap : Nat} {zs : List Kd}
theorem Owk.len (o : Owk w base g k cap zs) : zs.length = k := by have := o.1; rw [kflat_len] at this; omega
theorem Owk.caps (o : Owk w base g k cap zs) : k ≤ cap ∧ cap ≤ 9223372036854775807 := by
  rcases o.2 with ⟨hv, _⟩ | ⟨h, c, cur, hv, _, _, h1, h2, _⟩
  · cases hv
  · injection hv with _ _ hc
    subst hc
    exact ⟨h1, by simpa [maxLen] using h2⟩
theorem Owk.lt (o : Owk w base g k cap zs) : base ≤ g ∧ g < w.heap.size := World.ownsRow.lt o g rfl
theorem Owk.at_ (o : Owk w base g k cap zs) {i : Nat} (hi : i < k) : w.cell? ⟨g, i * 3, none⟩ = some (.int .i64 (zs.getD i k0).1) ∧ w.cell? ⟨g, i * 3 + 1, none⟩ = some (.int .i64 (zs.getD i k0).2.1) ∧ w.cell? ⟨g, i * 3 + 2, none⟩ = some (.int .i64 (zs.getD i k0).2.2) := by
  have hl := o.len
  have h := kflat_at zs i (by omega)
  exact ⟨(World.ownsRow.cellAt o _ (by omega)).trans h.1, (World.ownsRow.cellAt o _ (by omega)).trans h.2.1, (World.ownsRow.cellAt o _ (by omega)).trans h.2.2⟩
theorem Owk.free (o : Owk w base g k cap zs) (j : Nat) : w.frozen? ⟨g, j, none⟩ = false := World.ownsRow.frozenAt o j
theorem Owk.put (o : Owk w base g k cap zs) {i : Nat} (hi : i < k) (x : Kd) : Owk (((w.setCell ⟨g, i * 3, none⟩ (.int .i64 x.1)).setCell ⟨g, i * 3 + 1, none⟩ (.int .i64 x.2.1)).setCell ⟨g, i * 3 + 2, none⟩ (.int .i64 x.2.2)) base g k cap (zs.set i x) := by
  unfold Owk
  rw [kflat_set zs i x (by rw [o.len]; exact hi)]
  exact (World.ownsRow.stored (World.ownsRow.stored (World.ownsRow.stored o (i * 3) (.int .i64 x.1)).1 (i * 3 + 1) (.int .i64 x.2.1)).1 (i * 3 + 2) (.int .i64 x.2.2)).1
theorem Owk.alloc (o : Owk w base g k cap zs) (ob : Obj) : Owk (w.alloc ob) base g k cap zs := World.ownsRow.alloc o ob
theorem Owk.drewN (o : Owk w base g k cap zs) (q : Nat) : Owk (w.drewN q) base g k cap zs := o
theorem Owk.drew (o : Owk w base g k cap zs) : Owk w.drew base g k cap zs := o
theorem Owk.far (o : Owk w base g k cap zs) {p : Addr} (hp : g ≠ p.block) (u : Value) : Owk (w.setCell p u) base g k cap zs :=
  World.ownsRow.kept (row := some p.block) o ⟨rfl, rfl, rfl, by simp [World.setCell], fun i _ hi => Below.heap_setCell w p u i (fun e => hi (by rw [e]))⟩ (.inr (by simpa [Value.ownBlock] using hp))
theorem Owk.ne {p : Nat} {cs : Array Value} (o : Owk w base g k cap zs) (b : Bk w p 32 cs) : g ≠ p := by
  rintro rfl
  rcases o.2 with ⟨hv, _⟩ | ⟨h', c, cur, hv, _, hb, _⟩
  · cases hv
  · injection hv with ha _ _
    injection ha with ha
    injection ha with ha
    subst ha
    unfold Bk at b
    rw [hb] at b
    injection b with b
    injection b with _ b
    cases b
theorem Owk.cut (o : Owk w base g k cap zs) {m : Nat} (hm : m ≤ k) : Owk w base g m cap (zs.take m) := by
  have hl := o.len
  rcases o.2 with ⟨hv, _⟩ | ⟨h, c, cur, hv, hg, hb, h1, h2, h3, h4⟩
  · cases hv
  · injection hv with ha _ hc
    subst hc
    have e : kflat (zs.take m) = (kflat zs).take (m * 3) := by
      have h2 : kflat zs = kflat (zs.take m) ++ kflat (zs.drop m) := by rw [← kflat_append, List.take_append_drop]
      have h3 : (kflat (zs.take m)).length = m * 3 := by rw [kflat_len, List.length_take]; congr 1; omega
      rw [h2, ← h3, List.take_left]
    refine ⟨by rw [kflat_len]; simp; omega, .inr ⟨h, cap, cur, ?_, hg, hb, by omega, h2, h3, ?_⟩⟩
    · rw [ha]
    · rw [e, ← h4, List.take_take]
      congr 1; omega
end
/-- The heap: its header in block p, its list a slice of the call's own. -/
def Hp (w : World) (base p : Nat) (zs : List Kd) : Prop :=
  ∃ g cap, Bk w p 32 #[.slice (some ⟨g, 0, none⟩) zs.length cap] ∧ Owk w base g zs.length cap zs ∧ base ≤ p
theorem kind_info : (Try.prog.info? 34).map (fun i => (i.zero, i.size, i.bytes)) = some (some (.agg #[.int .i64 0, .int .i64 0, .int .i64 0]), 3, 24) := by kernel_rfl

theorem len_m (s : Option Addr) (n c : Nat) (w : World) (hn : (n : Int) ≤ 9223372036854775807) : Calls Try.prog 14 #[.slice s n c] w fun e w' => e = .returned (.int .i64 n) ∧ w = w' := by
  go_enter Try.func14, Try.ntmps14
  go_wp2
  go_ret
  exact ⟨rfl, rfl⟩
theorem less_m (g n c i j : Nat) (base : Nat) (zs : List Kd) (w : World) (o : Owk w base g n c zs) (hi : i < n) (hj : j < n) :
    Calls Try.prog 36 #[.slice (some ⟨g, 0, none⟩) n c, .int .i64 i, .int .i64 j] w fun e w' => e = .returned (.bool (decide ((zs.getD i k0).1 < (zs.getD j k0).1))) ∧ ∃ q, w' = w.drewN q := by
  have ci := (o.at_ hi).1
  have cj := (o.at_ hj).1
  have hc := o.caps
  have i0 : (0 : Int) ≤ (i : Int) := by omega
  have j0 : (0 : Int) ≤ (j : Int) := by omega
  have i1 : (i : Int) < (n : Int) := by omega
  have j1 : (j : Int) < (n : Int) := by omega
  have n1 : (n : Int) ≤ 9223372036854775807 := by omega
  clear o hc hi hj
  generalize (zs.getD i k0).1 = x at *
  generalize (zs.getD j k0).1 = y at *
  go_enter Try.func36, Try.ntmps36
  go_wp2
  go_quiet (fail)
  go_wp2
  go_ret
  exact ⟨rfl, _, rfl⟩
end Go.Proofs.Ytkiijeobadlnnaa
