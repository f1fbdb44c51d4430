/-
  The heap's methods: exchange, push, pop.
-/
import Derived.Test.YtkiijeobadlnnaaHepK
namespace Go.Proofs.Ytkiijeobadlnnaa
open Go.RowKit
set_option linter.unusedVariables false

theorem just_refl (g : Nat) (w : World) : Just g w w := ⟨rfl, rfl, rfl, rfl, fun _ _ => rfl⟩
theorem just_set {g : Nat} {a b : World} (h : Just g a b) (i : Nat) (u : Value) : Just g a (b.setCell ⟨g, i, none⟩ u) :=
  ⟨h.os, h.tape, h.output, by simpa [World.setCell] using h.size, fun k hk => (Below.heap_setCell b ⟨g, i, none⟩ u k hk).trans (h.block k hk)⟩
theorem just_drew {g : Nat} {a b : World} (h : Just g a b) : Just g a b.drew := ⟨h.os, h.tape, h.output, h.size, h.block⟩
set_option maxHeartbeats 1000000 in
theorem swap_ne (g n c i j : Nat) (base : Nat) (zs : List Kd) (w : World) (o : Owk w base g n c zs) (hi : i < n) (hj : j < n) (hij : i ≠ j) :
    Calls Try.prog 39 #[.slice (some ⟨g, 0, none⟩) n c, .int .i64 i, .int .i64 j] w fun e w' => e = .returned (.tuple #[]) ∧ Owk w' base g n c ((zs.set i (zs.getD j k0)).set j (zs.getD i k0)) ∧ Just g w w' := by
  obtain ⟨ci1, ci2, ci3⟩ := o.at_ hi
  obtain ⟨cj1, cj2, cj3⟩ := o.at_ hj
  have hf := o.free
  have hc := o.caps
  have i0 : (0 : Int) ≤ (i : Int) := by omega
  have j0 : (0 : Int) ≤ (j : Int) := by omega
  have i1 : (i : Int) < (n : Int) := by omega
  have j1 : (j : Int) < (n : Int) := by omega
  have n1 : (n : Int) ≤ 9223372036854775807 := by omega
  have HO := hide o
  clear o hc
  generalize hx : zs.getD i k0 = x at *
  generalize hy : zs.getD j k0 = y at *
  have e1 : ¬ i * 3 = j * 3 := by omega
  have e2 : ¬ j * 3 = i * 3 := by omega
  have HI := hide hi
  have HJ := hide hj
  clear hi hj hij hx hy
  go_enter Try.func39, Try.ntmps39
  go_wp2
  go_region
  all_goals
    go_wp2
    go_end0
    exact ⟨rfl, ((HO.out.put HI.out y).put HJ.out x).drew, just_drew (just_set (just_set (just_set (just_set (just_set (just_set (just_refl _ _) _ _) _ _) _ _) _ _) _ _) _ _)⟩
set_option maxHeartbeats 1000000 in
theorem swap_eq (g n c i : Nat) (base : Nat) (zs : List Kd) (w : World) (o : Owk w base g n c zs) (hi : i < n) :
    Calls Try.prog 39 #[.slice (some ⟨g, 0, none⟩) n c, .int .i64 i, .int .i64 i] w fun e w' => e = .returned (.tuple #[]) ∧ Owk w' base g n c ((zs.set i (zs.getD i k0)).set i (zs.getD i k0)) ∧ Just g w w' := by
  obtain ⟨ci1, ci2, ci3⟩ := o.at_ hi
  have hf := o.free
  have hc := o.caps
  have i0 : (0 : Int) ≤ (i : Int) := by omega
  have i1 : (i : Int) < (n : Int) := by omega
  have n1 : (n : Int) ≤ 9223372036854775807 := by omega
  have HO := hide o
  clear o hc
  generalize hx : zs.getD i k0 = x at *
  have HI := hide hi
  clear hi hx
  go_enter Try.func39, Try.ntmps39
  go_wp2
  go_region
  all_goals
    go_wp2
    go_end0
    exact ⟨rfl, ((HO.out.put HI.out x).put HI.out x).drew, just_drew (just_set (just_set (just_set (just_set (just_set (just_set (just_refl _ _) _ _) _ _) _ _) _ _) _ _) _ _)⟩
theorem swap_m (g n c i j : Nat) (base : Nat) (zs : List Kd) (w : World) (o : Owk w base g n c zs) (hi : i < n) (hj : j < n) :
    Calls Try.prog 39 #[.slice (some ⟨g, 0, none⟩) n c, .int .i64 i, .int .i64 j] w fun e w' => e = .returned (.tuple #[]) ∧ Owk w' base g n c ((zs.set i (zs.getD j k0)).set j (zs.getD i k0)) ∧ Just g w w' := by
  by_cases h : i = j
  · subst h
    exact swap_eq g n c i base zs w o hi
  · exact swap_ne g n c i j base zs w o hi hj h
theorem bk_grow {w w' : World} {g : Nat} {t : TypeId} {cs : Array Value} {row : Option Nat} (b : Bk w g t cs) (k : w.grownBy w' row) (hne : row ≠ some g) : Bk w' g t cs := (k.block g b.lt (fun e => hne e.symm)).trans b
theorem gbelow {w w' : World} {B h : Nat} (k : w.grownBy w' (some h)) (hb : B ≤ h) (hs : B ≤ w.heap.size) : Below B w w' :=
  ⟨k.os, k.tape, k.output, k.size, fun i hi => k.block i (by omega) (by simp; omega)⟩
theorem cell_0 {w : World} {g : Nat} {t : TypeId} {v : Value} (b : Bk w g t #[v]) : w.cell? ⟨g, 0, none⟩ = some v := by simpa using b.cell 0
set_option maxHeartbeats 1000000 in
theorem push_m (p g k cap base : Nat) (zs : List Kd) (x y z : Int) (w : World) (b : Bk w p 32 #[.slice (some ⟨g, 0, none⟩) k cap]) (o : Owk w base g k cap zs) (hp : base ≤ p) (hk : k ≤ 1000) :
    Calls Try.prog 38 #[.pointer (some ⟨p, 0, none⟩), .iface 34 (.agg #[.int .i64 x, .int .i64 y, .int .i64 z])] w fun e w' => e = .returned (.tuple #[]) ∧ ∃ g' cap', Bk w' p 32 #[.slice (some ⟨g', 0, none⟩) (k + 1) cap'] ∧ Owk w' base g' (k + 1) cap' (zs ++ [(x, y, z)]) ∧ Below base w w' := by
  have hta := as_kind
  have q := b.cell
  have f := b.free
  have hg := o.lt
  have hpl := b.lt
  have hne := o.ne b
  have HO := hide o
  have HB := hide b
  have HNE := hide hne
  clear o b hne
  obtain ⟨i, hi, hz⟩ := Option.map_eq_some_iff.1 kind_info
  simp only [Prod.mk.injEq] at hz
  obtain ⟨hz0, hz1, hz2⟩ := hz
  have HI := hide hi
  have HZ0 := hide hz0
  have HZ1 := hide hz1
  have HZ2 := hide hz2
  clear hi hz0 hz1 hz2
  have HW : Hid (Owk (w.alloc (.cells #[.int .i64 x, .int .i64 y, .int .i64 z] 34)).drew base g k cap zs) := hide (HO.out.alloc _).drew
  have HN := hide (World.news_of_block (w := (w.alloc (.cells #[.int .i64 x, .int .i64 y, .int .i64 z] 34)).drew) (cs := #[.int .i64 x, .int .i64 y, .int .i64 z]) (Bk.new w 34 #[.int .i64 x, .int .i64 y, .int .i64 z]))
  have HB2 : Hid (Bk (w.alloc (.cells #[.int .i64 x, .int .i64 y, .int .i64 z] 34)).drew p 32 #[.slice (some ⟨g, 0, none⟩) k cap]) := hide (HB.out.alloc _)
  have HGP : Hid ((Value.slice (some ⟨g, 0, none⟩) k cap).ownBlock ≠ some p) := hide (by simpa [Value.ownBlock] using HNE.out)
  have HC : Hid (∀ u ∈ [Value.int .i64 x, .int .i64 y, .int .i64 z], u.oneCell' = true) := hide (by simp [Value.oneCell'])
  have H63 : Hid (k + 1 ≤ maxLen) := hide (by unfold maxLen; omega)
  have HBY : Hid ((k + 1) * 24 ≤ 140737488355328) := hide (by omega)
  have HBA : Hid (base ≤ (w.alloc (.cells #[.int .i64 x, .int .i64 y, .int .i64 z] 34)).drew.heap.size) := hide (by show base ≤ (w.alloc _).heap.size; simp; omega)
  go_enter Try.func38, Try.ntmps38
  go_wp2
  go_region_law (first | ((refine step_append_lies _ rfl (.tmp 7) (.tmp 10) 32 rfl base 34 i (.agg #[.int .i64 0, .int .i64 0, .int .i64 0]) 3 24 Try.underlying32 HI.out HZ0.out HZ1.out HZ2.out rfl (by decide) _ k _ (by rfl) HW.out ⟨w.heap.size, 0, none⟩ 1 1 [.int .i64 x, .int .i64 y, .int .i64 z] (by rfl) rfl HN.out HC.out (by decide) H63.out HBY.out HBA.out _ rfl ?_; intro g' cap' w' hown hgrow hat hlt; have b5 := bk_grow HB2.out hgrow HGP.out; have q5 := cell_0 b5; have f5 := b5.free)))
  all_goals
    go_wp2
    go_end0
    have o5 : Owk w' base g' (k + 1) cap' (zs ++ [(x, y, z)]) := by unfold Owk; rw [kflat_append]; exact hown
    exact ⟨rfl, g', cap', by simpa using b5.put 0 (.slice (some ⟨g', 0, none⟩) (k + 1) cap'), o5.far (p := ⟨p, 0, none⟩) (o5.ne b5) _, ((((Below.refl base w).alloc (by omega) _).drew).trans (gbelow hgrow hg.1 HBA.out)).setCell hp _⟩
set_option maxHeartbeats 1000000 in
theorem pop_m (p g n cap base : Nat) (zs : List Kd) (w : World) (b : Bk w p 32 #[.slice (some ⟨g, 0, none⟩) (n + 1) cap]) (o : Owk w base g (n + 1) cap zs) (hp : base ≤ p) (hk : n ≤ 1000) :
    Calls Try.prog 37 #[.pointer (some ⟨p, 0, none⟩)] w fun e w' => e = .returned (.iface 34 (.agg #[.int .i64 (zs.getD n k0).1, .int .i64 (zs.getD n k0).2.1, .int .i64 (zs.getD n k0).2.2])) ∧ Bk w' p 32 #[.slice (some ⟨g, 0, none⟩) n cap] ∧ Owk w' base g n cap (zs.take n) ∧ Below base w w' := by
  obtain ⟨c1, c2, c3⟩ := o.at_ (show n < n + 1 by omega)
  have q := cell_0 b
  have f := b.free
  have hg := o.lt
  have hpl := b.lt
  have hcap := o.caps
  have hc1 : (n : Int) ≤ (cap : Int) := by omega
  have hc2 : (cap : Int) ≤ 9223372036854775807 := by omega
  have hn0 : (0 : Int) ≤ (n : Int) := by omega
  have HO := hide o
  have HB := hide b
  have HNE := hide (o.ne b)
  clear o b hcap
  generalize zs.getD n k0 = x at *
  go_enter Try.func37, Try.ntmps37
  go_wp2
  go_ret
  exact ⟨rfl, by simpa using (HB.out.put 0 (.slice (some ⟨g, 0, none⟩) n cap)).alloc _, ((HO.out.cut (by omega)).far (p := ⟨p, 0, none⟩) HNE.out _).alloc _, ((Below.refl base w).setCell hp _).alloc (by simp [World.setCell]; omega) _⟩
end Go.Proofs.Ytkiijeobadlnnaa
