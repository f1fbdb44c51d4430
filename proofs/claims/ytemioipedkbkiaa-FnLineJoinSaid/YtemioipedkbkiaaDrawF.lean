/-
  Walks of the functions that draw a format. Each contract says that the parts are small integers, and that of what was there the reader's own block alone may turn.
-/
import Derived.Test.YtemioipedkbkiaaDraw
namespace Go.Proofs.Ytemioipedkbkiaa
open Go.RowKit

/-- A drawn format: its parts are small; the reader has gone on; of what was there block g alone may have turned. -/
def Fm (g : Nat) (p : Int) (w : World) (e : Ending) (w' : World) : Prop :=
  ∃ a b c q : Int, e = .returned (.agg #[.int .i64 a, .int .i64 b, .int .i64 c]) ∧ (0 ≤ a ∧ a ≤ 9 ∧ -1 ≤ b ∧ b ≤ 3 ∧ 0 ≤ c ∧ c ≤ 3) ∧ p ≤ q ∧ q ≤ p + 5 ∧ Rdr w' g q ∧ But g w w'

theorem format_any (w : World) (g : Nat) (p : Int) (h : Rdr w g p) (hp : p ≤ 900000) :
    Calls Try.prog 29 #[.pointer (some ⟨g, 0, none⟩)] w (Fm g p w) := by
  have hg := h.lt
  go_enter Try.func29, Try.ntmps29
  go_wp2_with fail
  refine (pick_any _ g p 4 (h.alloc _) (by omega) (by omega) (by omega)).mono ?_
  rintro e w1 ⟨a, rfl, ha0, ha1, hr1, k1⟩
  go_wp2_with fail
  refine (pick_any _ g (p + 1) 3 hr1 (by omega) (by omega) (by omega)).mono ?_
  rintro e w2 ⟨b, rfl, hb0, hb1, hr2, k2⟩
  go_wp2_with fail
  refine (pick_any _ g (p + 1 + 1) 2 hr2 (by omega) (by omega) (by omega)).mono ?_
  rintro e w3 ⟨c, rfl, hc0, hc1, hr3, k3⟩
  go_wp2_with fail
  have b1 : Bk w3 w.heap.size 27 _ := ((((Bk.new w 27 _).just k1 (by omega)).just k2 (by omega)).just k3 (by omega))
  have z3 : w3.heap.size = w.heap.size + 1 := by rw [k3.size, k2.size, k1.size]; simp
  refine (pick_any _ g (p + 1 + 1 + 1) 40 (hr3.alloc _) (by omega) (by omega) (by omega)).mono ?_
  rintro e w4 ⟨m, rfl, hm0, hm1, hr4, k4⟩
  have b2 : Bk w4 w3.heap.size 27 _ := ((Bk.new w3 27 _).just k4 (by omega))
  have b1 : Bk w4 w.heap.size 27 _ := ((b1.alloc _).just k4 (by omega))
  have z4 : w4.heap.size = w.heap.size + 2 := by rw [k4.size]; simp [z3]
  have HB := hide ((((((But.refl g w).alloc _).just k1).just k2).just k3).alloc _ |>.just k4)
  have Z3 := hide z3
  have Z4 := hide z4
  clear z3 z4 k1 k2 k3 k4
  have q1 := b1.cell
  have q2 := b2.cell
  have f1 := b1.free
  have f2 := b2.free
  have n1 : ¬ w3.heap.size = w.heap.size := by have := Z3.out; omega
  have n2 : ¬ w.heap.size = w3.heap.size := fun e => n1 e.symm
  by_cases e0 : m = 0
  · subst e0
    go_wp2_with fail
    refine (pick_any _ g (p + 1 + 1 + 1 + 1) 2 (hr4.alloc _) (by omega) (by omega) (by omega)).mono ?_
    rintro e w5 ⟨m, rfl, hm0, hm1, hr5, k5⟩
    clear q1 q2 f1 f2
    have b3 : Bk w5 w4.heap.size 3 _ := ((Bk.new w4 3 _).just k5 (by have := Z4.out; omega))
    have b2' : Bk w5 w3.heap.size 27 _ := ((b2.alloc _).just k5 (by have := Z3.out; omega))
    have b1' : Bk w5 w.heap.size 27 _ := ((b1.alloc _).just k5 (by omega))
    have q1 := b1'.cell
    have q2 := b2'.cell
    have q3 := b3.cell
    have f1 := b1'.free
    have f2 := b2'.free
    have HB := hide ((HB.out.alloc _).just k5)
    clear k5
    obtain rfl | rfl : m = 0 ∨ m = 1 := by omega
    all_goals
      go_wp2
      refine bodyPost_ret (by simp [results, Try.results29, go_sem, q1]; exact ⟨rfl, rfl, rfl⟩) rfl ⟨_, _, _, _, rfl, ⟨by omega, by omega, by omega, by omega, by omega, by omega⟩, ?_, ?_, (((hr5.set ?_ _).set ?_ _).set ?_ _).set ?_ _, (((HB.out.set ?_ _).set ?_ _).set ?_ _).set ?_ _⟩
      all_goals (first | omega | exact Or.inr (Nat.le_refl _) | (have := Z3.out; simp; omega))
  by_cases e1 : m = 1
  · subst e1
    clear e0
    go_wp2_with fail
    refine (pick_any _ g (p + 1 + 1 + 1 + 1) 2 (hr4.alloc _) (by omega) (by omega) (by omega)).mono ?_
    rintro e w5 ⟨m, rfl, hm0, hm1, hr5, k5⟩
    clear q1 q2 f1 f2
    have b3 : Bk w5 w4.heap.size 3 _ := ((Bk.new w4 3 _).just k5 (by have := Z4.out; omega))
    have b2' : Bk w5 w3.heap.size 27 _ := ((b2.alloc _).just k5 (by have := Z3.out; omega))
    have b1' : Bk w5 w.heap.size 27 _ := ((b1.alloc _).just k5 (by omega))
    have q1 := b1'.cell
    have q2 := b2'.cell
    have q3 := b3.cell
    have f1 := b1'.free
    have f2 := b2'.free
    have HB := hide ((HB.out.alloc _).just k5)
    clear k5
    obtain rfl | rfl : m = 0 ∨ m = 1 := by omega
    all_goals
      go_wp2
      refine bodyPost_ret (by simp [results, Try.results29, go_sem, q1]; exact ⟨rfl, rfl, rfl⟩) rfl ⟨_, _, _, _, rfl, ⟨by omega, by omega, by omega, by omega, by omega, by omega⟩, ?_, ?_, (((hr5.set ?_ _).set ?_ _).set ?_ _).set ?_ _, (((HB.out.set ?_ _).set ?_ _).set ?_ _).set ?_ _⟩
      all_goals (first | omega | exact Or.inr (Nat.le_refl _) | (have := Z3.out; simp; omega))
  by_cases e2 : m = 2
  · subst e2
    clear e0 e1
    go_wp2_with fail
    refine (pick_any _ g (p + 1 + 1 + 1 + 1) 2 (hr4.alloc _) (by omega) (by omega) (by omega)).mono ?_
    rintro e w5 ⟨m, rfl, hm0, hm1, hr5, k5⟩
    clear q1 q2 f1 f2
    have b3 : Bk w5 w4.heap.size 3 _ := ((Bk.new w4 3 _).just k5 (by have := Z4.out; omega))
    have b2' : Bk w5 w3.heap.size 27 _ := ((b2.alloc _).just k5 (by have := Z3.out; omega))
    have b1' : Bk w5 w.heap.size 27 _ := ((b1.alloc _).just k5 (by omega))
    have q1 := b1'.cell
    have q2 := b2'.cell
    have q3 := b3.cell
    have f1 := b1'.free
    have f2 := b2'.free
    have HB := hide ((HB.out.alloc _).just k5)
    clear k5
    obtain rfl | rfl : m = 0 ∨ m = 1 := by omega
    all_goals
      go_wp2
      refine bodyPost_ret (by simp [results, Try.results29, go_sem, q1]; exact ⟨rfl, rfl, rfl⟩) rfl ⟨_, _, _, _, rfl, ⟨by omega, by omega, by omega, by omega, by omega, by omega⟩, ?_, ?_, (((hr5.set ?_ _).set ?_ _).set ?_ _).set ?_ _, (((HB.out.set ?_ _).set ?_ _).set ?_ _).set ?_ _⟩
      all_goals (first | omega | exact Or.inr (Nat.le_refl _) | (have := Z3.out; simp; omega))
  have t0 : (m == 0) = false := by simpa using e0
  have t1 : (m == 1) = false := by simpa using e1
  have t2 : (m == 2) = false := by simpa using e2
  clear e0 e1 e2
  go_wp2
  refine bodyPost_ret (by simp [results, Try.results29, go_sem, q1]; exact ⟨rfl, rfl, rfl⟩) rfl ⟨_, _, _, _, rfl, ⟨by omega, by omega, by omega, by omega, by omega, by omega⟩, ?_, ?_, ((hr4.set ?_ _).set ?_ _).set ?_ _, ((HB.out.set ?_ _).set ?_ _).set ?_ _⟩
  all_goals (first | omega | exact Or.inr (Nat.le_refl _) | (have := Z3.out; simp; omega))

end Go.Proofs.Ytemioipedkbkiaa
