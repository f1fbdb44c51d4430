/-
  What is drawn for the laws on interrupts: four values, whatever they are; nothing that was there turns.
-/
import Derived.Test.YtkiijeobadlnnaaDraw
import Derived.Test.YtkiijeobadlnnaaInts
import Derived.RegionTactic
import Derived.BigRegion
import Derived.Deep.RegionLaw
import Derived.Deep.DrawnRows
namespace Go.Proofs.Ytkiijeobadlnnaa
open Go.RowKit
set_option linter.unusedVariables false
attribute [local go_sem ↓] Go.wp_at_zero Go.wp_at_succ

/-- Four values were drawn. -/
def Dq (w : World) (e : Ending) (w' : World) : Prop := ∃ (st rd : Int) (md : Bool) (en : Int), e = .returned (.tuple #[.int .i64 st, .int .i64 rd, .bool md, .int .i64 en]) ∧ Below w.heap.size w w'
def elev : Array Value := #[.int .i64 0, .int .i64 1, .int .i64 2, .int .i64 3, .int .i64 5, .int .i64 9, .int .i64 32, .int .i64 33, .int .i64 96, .int .i64 97, .int .i64 35]
theorem elev_at {w : World} {g : Nat} {x : Int} (k : Bk w g 3 elev) (h0 : 0 ≤ x) (h1 : x < 11) : ∃ y : Int, w.cell? ⟨g, x.toNat, none⟩ = some (.int .i64 y) := by
  have q := k.cell
  obtain rfl | rfl | rfl | rfl | rfl | rfl | rfl | rfl | rfl | rfl | rfl : x = 0 ∨ x = 1 ∨ x = 2 ∨ x = 3 ∨ x = 4 ∨ x = 5 ∨ x = 6 ∨ x = 7 ∨ x = 8 ∨ x = 9 ∨ x = 10 := by omega
  all_goals exact ⟨_, q _⟩
def thr : Array Value := #[.int .i64 (-1), .int .i64 127, .int .i64 128]
def sel (m : Int) : Int := if m = 0 then -1 else if m = 1 then 127 else 128
theorem thr_get (m : Int) (h0 : 0 ≤ m) (h1 : m < 3) (h : m.toNat < [Value.int .i64 (-1), .int .i64 127, .int .i64 128].length) : [Value.int .i64 (-1), .int .i64 127, .int .i64 128][m.toNat] = .int .i64 (sel m) := by
  obtain rfl | rfl | rfl : m = 0 ∨ m = 1 ∨ m = 2 := by omega
  all_goals rfl
/-- Before the three were laid; behind it. -/
def R2 (w : World) (W : World) (g B n : Nat) : Prop := W.heap.size = B ∧ (∃ p : Int, p ≤ n ∧ Rdr W g p) ∧ w.heap.size ≤ g ∧ Below w.heap.size w W
def R3 (w : World) (W : World) (g B n : Nat) : Prop := Bk W B 3 thr ∧ (∃ p : Int, p ≤ n ∧ Rdr W g p) ∧ g ≠ B ∧ w.heap.size ≤ g ∧ Below w.heap.size w W
theorem R2.new {w W : World} {g B n : Nat} (h : R2 w W g B n) : R3 w (W.alloc (.cells thr 3)) g B n := by
  obtain ⟨h1, ⟨p, hp, hr⟩, hg, hb⟩ := h
  subst h1
  exact ⟨Bk.new _ _ _, ⟨p, hp, hr.alloc _⟩, by have := hr.lt; omega, hg, hb.alloc hb.size _⟩
theorem R2.drew {w W : World} {g B n : Nat} (h : R2 w W g B n) : R2 w W.drew g B n := by
  obtain ⟨h1, ⟨p, hp, hr⟩, hg, hb⟩ := h
  exact ⟨h1, ⟨p, hp, hr.drewN 1⟩, hg, hb.drew⟩
theorem R3.drew {w W : World} {g B n : Nat} (h : R3 w W g B n) : R3 w W.drew g B n := by
  obtain ⟨h1, ⟨p, hp, hr⟩, hn, hg, hb⟩ := h
  exact ⟨h1, ⟨p, hp, hr.drewN 1⟩, hn, hg, hb.drew⟩
theorem R2.size {w W : World} {g B n : Nat} (h : R2 w W g B n) : W.heap.size = B := h.1
theorem R3.cells {w W : World} {g B n : Nat} (h : R3 w W g B n) (m : Int) (h0 : 0 ≤ m) (h1 : m < 3) : W.cell? ⟨B, m.toNat, none⟩ = some (.int .i64 (sel m)) := by
  have q := h.1.cell
  obtain rfl | rfl | rfl : m = 0 ∨ m = 1 ∨ m = 2 := by omega
  all_goals exact q _
theorem R3.below {w W : World} {g B n : Nat} (h : R3 w W g B n) : Below w.heap.size w W := h.2.2.2.2
theorem R2.below {w W : World} {g B n : Nat} (h : R2 w W g B n) : Below w.heap.size w W := h.2.2.2
theorem pick2 {w W : World} {g B n : Nat} (k : Int) (h : R2 w W g B n) (hn : n ≤ 1000) (hk : 1 ≤ k) (hk2 : k ≤ 1000) :
    Calls Try.prog 17 #[.pointer (some ⟨g, 0, none⟩), .int .i64 k] W fun e w' => ∃ m : Int, e = .returned (.int .i64 m) ∧ 0 ≤ m ∧ m < k ∧ R2 w w' g B (n + 1) := by
  obtain ⟨h1, ⟨p, hp, hr⟩, hg, hb⟩ := h
  refine (pick_any W g p k hr (by omega) hk (by omega)).mono ?_
  rintro e w' ⟨m, rfl, hm0, hm1, hr', j⟩
  exact ⟨m, rfl, hm0, hm1, by rw [j.size, h1], ⟨p + 1, by omega, hr'⟩, hg, j.below hb hg⟩
theorem pick3 {w W : World} {g B n : Nat} (k : Int) (h : R3 w W g B n) (hn : n ≤ 1000) (hk : 1 ≤ k) (hk2 : k ≤ 1000) :
    Calls Try.prog 17 #[.pointer (some ⟨g, 0, none⟩), .int .i64 k] W fun e w' => ∃ m : Int, e = .returned (.int .i64 m) ∧ 0 ≤ m ∧ m < k ∧ R3 w w' g B (n + 1) := by
  obtain ⟨h1, ⟨p, hp, hr⟩, hne, hg, hb⟩ := h
  refine (pick_any W g p k hr (by omega) hk (by omega)).mono ?_
  rintro e w' ⟨m, rfl, hm0, hm1, hr', j⟩
  exact ⟨m, rfl, hm0, hm1, h1.just j (fun e => hne e.symm), ⟨p + 1, by omega, hr'⟩, hne, hg, j.below hb hg⟩
set_option maxHeartbeats 4000000 in
theorem dIrqOf_any (a : Option Addr) (len cap : Nat) (zs : List Int) (w : World) (h : IsRow .u8 w a len cap zs) :
    Calls Try.prog 8 #[.slice a len cap] w (Dq w) := by
  go_enter Try.func8, Try.ntmps8
  go_wp2_with fail
  refine (open_any a len cap zs _ h).mono ?_
  rintro e w1 ⟨rfl, hr1, hz1, k1⟩
  have HR := hide (hr1.alloc (.cells elev 3))
  have HZ := hide hz1
  have HK := hide (k1.alloc k1.size (.cells elev 3))
  clear hr1 hz1 k1 h
  go_wp2_with fail
  refine (pick_any _ w.heap.size 0 11 HR.out (by omega) (by omega) (by omega)).mono ?_
  rintro e w2 ⟨m, rfl, hm0, hm1, hr2, j2⟩
  have b2 := (Bk.new w1 3 elev).just j2 (by have := HZ.out; omega)
  have HR2 := hide hr2
  have K2 := hide (j2.below HK.out (Nat.le_refl _))
  obtain ⟨y, hy⟩ := elev_at b2 hm0 hm1
  have HZ2 := hide (show w2.heap.size = w.heap.size + 2 by rw [j2.size]; simp [HZ.out])
  clear b2 hr2 j2
  go_wp2_with fail
  refine (pick_any _ w.heap.size 1 16 HR2.out (by omega) (by omega) (by omega)).mono ?_
  rintro e w3 ⟨m3, rfl, hm30, hm31, hr3, j3⟩
  obtain ⟨B, hB⟩ : ∃ B, w3.heap.size = B := ⟨_, rfl⟩
  have r3 : R2 w w3 w.heap.size B 10 := ⟨hB, ⟨_, by omega, hr3⟩, Nat.le_refl _, j3.below K2.out (Nat.le_refl _)⟩
  clear hr3 j3 hy
  by_cases e0 : m3 = 0
  · subst e0
    have r4 := r3.drew
    have r5 := r3.new.drew
    have HW := hide r3.new
    clear r3
    go_wp2
    go_region_law (first
      | (go_simp; go_at_call 17; refine (pick3 _ (by assumption) (by omega) (by omega) (by omega)).mono ?_; rintro e w9 ⟨m9, rfl, h90, h91, r9⟩; have c9 := r9.cells)
      | (go_simp; go_at_call 17; refine (pick2 _ (by assumption) (by omega) (by omega) (by omega)).mono ?_; rintro e w9 ⟨m9, rfl, h90, h91, r9⟩; have s9 := r9.size; have c9 := r9.new.cells)
      | (go_simp; go_at_call 17; refine (pick3 _ (R2.new (by assumption)) (by omega) (by omega) (by omega)).mono ?_; rintro e w9 ⟨m9, rfl, h90, h91, r9⟩; have c9 := r9.cells))
    all_goals
      go_wp2
      refine bodyPost_ret (by simp [results, Try.results8, go_sem]; first | exact ⟨rfl, rfl, rfl, rfl⟩ | exact ⟨thr_get _ (by assumption) (by assumption) _, rfl, rfl, rfl⟩) rfl ⟨_, _, _, _, rfl, ?_⟩
      first
        | exact R3.below (by assumption)
        | exact R3.below (R2.new (by assumption))
  · have t0 : (m3 == 0) = false := by simpa using e0
    clear e0 hB
    go_wp2_with fail
    refine (pick2 3 r3 (by omega) (by omega) (by omega)).mono ?_
    rintro e w4 ⟨m4, rfl, hm40, hm41, r4⟩
    clear r3
    go_wp2_with fail
    refine (pick2 2 r4 (by omega) (by omega) (by omega)).mono ?_
    rintro e w5 ⟨m5, rfl, hm50, hm51, r5⟩
    clear r4
    go_wp2_with fail
    refine (pick2 16 r5 (by omega) (by omega) (by omega)).mono ?_
    rintro e w6 ⟨m6, rfl, hm60, hm61, r6⟩
    have K := r6.below
    clear r5 r6
    go_wp2
    exact bodyPost_ret (by simp [results, Try.results8, go_sem]; exact ⟨rfl, rfl, rfl, rfl⟩) rfl ⟨_, _, _, _, rfl, K⟩
end Go.Proofs.Ytkiijeobadlnnaa
