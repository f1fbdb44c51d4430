/-
  Walks of the functions that read a control byte. Each contract says what the function returns and that nothing that was there has turned; the one sentinel's cell is a condition.
-/
import Derived.Test.YtkiijeobadlnnaaDoorFmt
import Derived.Test.YtkiijeobadlnnaaDoorIsE
import Derived.RegionTactic
namespace Go.Proofs.YtkiijeobadlnnaaDoor
open Go.RowKit
set_option linter.unusedVariables false

def foOk (b : Int) : Bool := decide (0 ≤ b) && decide (b ≤ 31) && !(decide (16 ≤ b) && decide (b ≤ 23))
def foP (b : Int) : Int := if b < 8 then 0 else if b < 16 then 1 else 2
theorem fo_ok {b : Int} (h : foOk b = true) : 0 ≤ b ∧ b ≤ 31 ∧ (b / 8 = 0 ∧ foP b = 0 ∨ b / 8 = 1 ∧ foP b = 1 ∨ b / 8 = 3 ∧ foP b = 2) := by
  simp [foOk] at h
  unfold foP
  refine ⟨by omega, by omega, ?_⟩
  by_cases h1 : b < 8
  · exact .inl ⟨by omega, by rw [if_pos h1]⟩
  by_cases h2 : b < 16
  · exact .inr (.inl ⟨by omega, by rw [if_neg h1, if_pos h2]⟩)
  · exact .inr (.inr ⟨by omega, by rw [if_neg h1, if_neg h2]⟩)
theorem bits_fo {b : Int} (h0 : 0 ≤ b) (h1 : b ≤ 31) : bits .and .i64 b 3 = b % 4 ∧ bits .and .i64 (b / 4) 1 = b / 4 % 2 := by
  obtain ⟨n, rfl⟩ := Int.eq_ofNat_of_zero_le h0
  have hn : n < 32 := by omega
  revert hn
  clear h0 h1
  revert n
  decide +kernel
set_option maxHeartbeats 1000000 in
theorem from_yes (b : Int) (w : World) (h : foOk b = true) :
    Calls Tryd.prog 16 #[.int .i64 b] w fun e w' => e = .returned (.tuple #[.agg #[.int .i64 (5 + b % 4), .int .i64 (foP b), .int .i64 (1 + b / 4 % 2)], .nilIface]) ∧ Below w.heap.size w w' := by
  obtain ⟨h0, h1, hp⟩ := fo_ok h
  obtain ⟨e3, e1⟩ := bits_fo h0 h1
  clear h
  rcases hp with ⟨h8, hp⟩ | ⟨h8, hp⟩ | ⟨h8, hp⟩
  all_goals
    rw [hp]
    clear hp
    go_enter Tryd.func16, Tryd.ntmps16
    go_wp2
    refine bodyPost_ret (by simp [results, Tryd.results16, go_sem] <;> first | rfl | (and_intros <;> rfl)) rfl ⟨rfl, ?_⟩
    repeat (first | exact Below.refl _ _ | refine Below.alloc ?_ (by simp; try omega) _ | refine Below.setCell ?_ (by simp; try omega) _)
theorem from_no (b : Int) (w : World) (a : Addr) (h : foOk b = false) (hg : w.cell? ⟨0, 0, none⟩ = some (.iface 64 (.pointer (some a)))) :
    Calls Tryd.prog 16 #[.int .i64 b] w fun e w' => e = .returned (.tuple #[.agg #[.int .i64 0, .int .i64 0, .int .i64 0], .iface 64 (.pointer (some a))]) ∧ Below w.heap.size w w' := by
  have hlt : 0 < w.heap.size := block_lt_of_cell hg
  have hb : b < 0 ∨ 31 < b ∨ (0 ≤ b ∧ b ≤ 31 ∧ b / 8 = 2) := by simp [foOk] at h; omega
  clear h
  rcases hb with hb | hb | ⟨h0, h1, h8⟩
  rotate_left
  · have hn : ¬ b < 0 := by omega
    go_enter Tryd.func16, Tryd.ntmps16
    go_wp2
    go_region
    all_goals
      go_wp2
      refine bodyPost_ret (by simp [results, Tryd.results16, go_sem] <;> first | rfl | (and_intros <;> rfl)) rfl ⟨rfl, ?_⟩
      repeat (first | exact Below.refl _ _ | refine Below.drew ?_ | refine Below.alloc ?_ (by simp; try omega) _ | refine Below.setCell ?_ (by simp; try omega) _)
  · obtain ⟨e3, e1⟩ := bits_fo h0 h1
    go_enter Tryd.func16, Tryd.ntmps16
    go_wp2
    go_region
    all_goals
      go_wp2
      refine bodyPost_ret (by simp [results, Tryd.results16, go_sem] <;> first | rfl | (and_intros <;> rfl)) rfl ⟨rfl, ?_⟩
      repeat (first | exact Below.refl _ _ | refine Below.drew ?_ | refine Below.alloc ?_ (by simp; try omega) _ | refine Below.setCell ?_ (by simp; try omega) _)
  · go_enter Tryd.func16, Tryd.ntmps16
    go_wp2
    go_region
    all_goals
      go_wp2
      refine bodyPost_ret (by simp [results, Tryd.results16, go_sem] <;> first | rfl | (and_intros <;> rfl)) rfl ⟨rfl, ?_⟩
      repeat (first | exact Below.refl _ _ | refine Below.drew ?_ | refine Below.alloc ?_ (by simp; try omega) _ | refine Below.setCell ?_ (by simp; try omega) _)
theorem keep_cell {w w' : World} {p : Addr} {v : Value} (h : w.cell? p = some v) (k : Below w.heap.size w w') : w'.cell? p = some v := (k.cell (block_lt_of_cell h)).trans h
theorem cast_bk {w : World} {g : Nat} {t : TypeId} {cs cs' : Array Value} (h : Bk w g t cs) (e : cs = cs') : Bk w g t cs' := e ▸ h
theorem name_ret {P : Program} {F : Func} {Q : Ending → World → Prop} {X : Exit} {A : Act} {q : World → Prop} {wz : World} (h1 : q wz) (h2 : ∀ w, q w → bodyPost P F Q X A w) : bodyPost P F Q X A wz := h2 wz h1
theorem iof_yes (b : Int) (w : World) (a : Addr) (h : foOk b = true) (hg : w.cell? ⟨0, 0, none⟩ = some (.iface 64 (.pointer (some a)))) :
    Calls Tryd.prog 8 #[.int .i64 b] w fun e w' => e = .returned (.tuple #[.agg #[.int .i64 (5 + b % 4), .int .i64 (foP b), .int .i64 (1 + b / 4 % 2)], .bool true]) ∧ Below w.heap.size w w' := by
  have hlt : 0 < w.heap.size := block_lt_of_cell hg
  have k0 := (Below.refl w.heap.size w).alloc (Nat.le_refl _) (.cells #[.int .i64 0, .int .i64 0, .int .i64 0] 23)
  have b0 := Bk.new w 23 #[.int .i64 0, .int .i64 0, .int .i64 0]
  have g0 := keep_cell hg k0
  go_enter Tryd.func8, Tryd.ntmps8
  go_wp2_with fail
  refine (from_yes _ _ h).mono ?_
  rintro e w1 ⟨rfl, k1⟩
  clear h
  have g1 := keep_cell g0 (k1.mono (by simp))
  have b1 := b0.belowAll k1
  have K := hide (k0.trans (k1.mono (by simp)))
  have l1 := b1.lt
  have n1 : ¬ w.heap.size = w1.heap.size := by omega
  have n2 : ¬ w1.heap.size = w.heap.size := by omega
  have g2 := keep_cell g1 ((Below.refl w1.heap.size w1).alloc (Nat.le_refl _) (.cells #[.int .i64 (5 + b % 4), .int .i64 (foP b), .int .i64 (1 + b / 4 % 2)] 23))
  have b2 := b1.alloc (.cells #[.int .i64 (5 + b % 4), .int .i64 (foP b), .int .i64 (1 + b / 4 % 2)] 23)
  have q2 := b2.cell
  have f2 := b2.free
  have q1 := b1.cell
  have f1 := b1.free
  clear k0 k1 b0 hg g1 g0
  go_wp2_with fail
  refine (is_nil a _).mono ?_
  rintro e w2 ⟨rfl, rfl⟩
  go_wp2
  refine name_ret (q := fun wz => Bk wz w.heap.size 23 #[.int .i64 (5 + b % 4), .int .i64 (foP b), .int .i64 (1 + b / 4 % 2)] ∧ Below w.heap.size w wz) ?_ ?_
  · first
      | ((with_reducible refine ⟨cast_bk ((((b1.put 0 _).put 1 _).put 2 _).alloc _) ?_, (((K.out.setCell ?_ _).setCell ?_ _).setCell ?_ _).alloc ?_ _⟩) <;> first | exact Nat.le_refl _ | (simp [World.setCell]; done) | (simp [World.setCell]; omega))
      | ((with_reducible refine ⟨cast_bk ((((b2).put 0 _).put 1 _).put 2 _) ?_, (((K.out.alloc ?_ _).setCell ?_ _).setCell ?_ _).setCell ?_ _⟩) <;> first | exact Nat.le_refl _ | (simp; done) | (simp; omega))
  · rintro wz ⟨bz, kz⟩
    have qz := bz.cell
    exact bodyPost_ret (by simp [results, Tryd.results8, go_sem, qz] <;> first | rfl | (and_intros <;> rfl)) rfl ⟨rfl, kz⟩
theorem iof_no (b : Int) (w : World) (a : Addr) (h : foOk b = false) (hg : w.cell? ⟨0, 0, none⟩ = some (.iface 64 (.pointer (some a)))) :
    Calls Tryd.prog 8 #[.int .i64 b] w fun e w' => e = .returned (.tuple #[.agg #[.int .i64 0, .int .i64 0, .int .i64 0], .bool false]) ∧ Below w.heap.size w w' := by
  have hlt : 0 < w.heap.size := block_lt_of_cell hg
  have k0 := (Below.refl w.heap.size w).alloc (Nat.le_refl _) (.cells #[.int .i64 0, .int .i64 0, .int .i64 0] 23)
  have b0 := Bk.new w 23 #[.int .i64 0, .int .i64 0, .int .i64 0]
  have g0 := keep_cell hg k0
  go_enter Tryd.func8, Tryd.ntmps8
  go_wp2_with fail
  refine (from_no _ _ a h g0).mono ?_
  rintro e w1 ⟨rfl, k1⟩
  clear h
  have g1 := keep_cell g0 (k1.mono (by simp))
  have b1 := b0.belowAll k1
  have K := hide (k0.trans (k1.mono (by simp)))
  have l1 := b1.lt
  have n1 : ¬ w.heap.size = w1.heap.size := by omega
  have n2 : ¬ w1.heap.size = w.heap.size := by omega
  have g2 := keep_cell g1 ((Below.refl w1.heap.size w1).alloc (Nat.le_refl _) (.cells #[.int .i64 0, .int .i64 0, .int .i64 0] 23))
  have b2 := b1.alloc (.cells #[.int .i64 0, .int .i64 0, .int .i64 0] 23)
  have q2 := b2.cell
  have f2 := b2.free
  have q1 := b1.cell
  have f1 := b1.free
  clear k0 k1 b0 hg g1 g0
  go_wp2_with fail
  refine (is_same a _).mono ?_
  rintro e w2 ⟨rfl, rfl⟩
  go_wp2
  refine name_ret (q := fun wz => Bk wz w.heap.size 23 #[.int .i64 0, .int .i64 0, .int .i64 0] ∧ Below w.heap.size w wz) ?_ ?_
  · first
      | ((with_reducible refine ⟨cast_bk ((((b1.put 0 _).put 1 _).put 2 _).alloc _) ?_, (((K.out.setCell ?_ _).setCell ?_ _).setCell ?_ _).alloc ?_ _⟩) <;> first | exact Nat.le_refl _ | (simp [World.setCell]; done) | (simp [World.setCell]; omega))
      | ((with_reducible refine ⟨cast_bk ((((b2).put 0 _).put 1 _).put 2 _) ?_, (((K.out.alloc ?_ _).setCell ?_ _).setCell ?_ _).setCell ?_ _⟩) <;> first | exact Nat.le_refl _ | (simp; done) | (simp; omega))
  · rintro wz ⟨bz, kz⟩
    have qz := bz.cell
    exact bodyPost_ret (by simp [results, Tryd.results8, go_sem, qz] <;> first | rfl | (and_intros <;> rfl)) rfl ⟨rfl, kz⟩
theorem sfo_yes (b : Int) (w : World) (h : foOk b = true) :
    Calls Tryd.prog 7 #[.int .i64 b] w fun e w' => e = .returned (.tuple #[.agg #[.int .i64 (5 + b % 4), .int .i64 (foP b), .int .i64 (1 + b / 4 % 2)], .bool true]) ∧ Below w.heap.size w w' := by
  obtain ⟨h0, h1, hp⟩ := fo_ok h
  clear h
  rcases hp with ⟨h8, hp⟩ | ⟨h8, hp⟩ | ⟨h8, hp⟩
  all_goals
    rw [hp]
    clear hp
    go_enter Tryd.func7, Tryd.ntmps7
    go_wp2
    refine bodyPost_ret (by simp [results, Tryd.results7, go_sem] <;> first | rfl | (and_intros <;> rfl)) rfl ⟨rfl, ?_⟩
    repeat (first | exact Below.refl _ _ | refine Below.alloc ?_ (by simp; try omega) _ | refine Below.setCell ?_ (by simp; try omega) _)
theorem sfo_no (b : Int) (w : World) (h : foOk b = false) :
    Calls Tryd.prog 7 #[.int .i64 b] w fun e w' => e = .returned (.tuple #[.agg #[.int .i64 0, .int .i64 0, .int .i64 0], .bool false]) ∧ Below w.heap.size w w' := by
  have hb : b < 0 ∨ 31 < b ∨ (0 ≤ b ∧ b ≤ 31 ∧ b / 8 = 2) := by simp [foOk] at h; omega
  clear h
  rcases hb with hb | hb | ⟨h0, h1, h8⟩
  rotate_left
  · have hn : 0 ≤ b := by omega
    go_enter Tryd.func7, Tryd.ntmps7
    go_wp2
    refine bodyPost_ret (by simp [results, Tryd.results7, go_sem] <;> first | rfl | (and_intros <;> rfl)) rfl ⟨rfl, ?_⟩
    repeat (first | exact Below.refl _ _ | refine Below.alloc ?_ (by simp; try omega) _ | refine Below.setCell ?_ (by simp; try omega) _)
  · go_enter Tryd.func7, Tryd.ntmps7
    go_wp2
    refine bodyPost_ret (by simp [results, Tryd.results7, go_sem] <;> first | rfl | (and_intros <;> rfl)) rfl ⟨rfl, ?_⟩
    repeat (first | exact Below.refl _ _ | refine Below.alloc ?_ (by simp; try omega) _ | refine Below.setCell ?_ (by simp; try omega) _)
  · go_enter Tryd.func7, Tryd.ntmps7
    go_wp2
    refine bodyPost_ret (by simp [results, Tryd.results7, go_sem] <;> first | rfl | (and_intros <;> rfl)) rfl ⟨rfl, ?_⟩
    repeat (first | exact Below.refl _ _ | refine Below.alloc ?_ (by simp; try omega) _ | refine Below.setCell ?_ (by simp; try omega) _)
theorem eqf_same (x y z : Int) (w : World) :
    Calls Tryd.prog 9 #[.agg #[.int .i64 x, .int .i64 y, .int .i64 z], .agg #[.int .i64 x, .int .i64 y, .int .i64 z]] w fun e w' => e = .returned (.bool true) ∧ Below w.heap.size w w' := by
  go_enter Tryd.func9, Tryd.ntmps9
  go_wp2
  go_ret
  refine ⟨rfl, ?_⟩
  repeat (first | exact Below.refl _ _ | refine Below.alloc ?_ (by simp; try omega) _)
/-- A format's control byte, read back. -/
theorem fo_fb {a b c : Int} (h : fv a b c = true) : foOk (fbOf a b c) = true ∧ 5 + fbOf a b c % 4 = a ∧ foP (fbOf a b c) = b ∧ 1 + fbOf a b c / 4 % 2 = c ∧ 0 ≤ fbOf a b c ∧ fbOf a b c ≤ 31 := by
  obtain ⟨h1, h2, h3, h4, h5, h6⟩ := fv_iff.1 h
  have e : fbOf a b c = a - 5 + 4 * (c - 1) + (if b = 1 then 8 else if b = 2 then 24 else 0) := by simp [fbOf, h]
  obtain rfl | rfl | rfl : b = 0 ∨ b = 1 ∨ b = 2 := by omega
  all_goals
    simp at e
    rw [e]
    refine ⟨by simp [foOk]; omega, by omega, ?_, by omega, by omega, by omega⟩
    unfold foP
    first | (rw [if_pos (by omega)]; done) | (rw [if_neg (by omega), if_pos (by omega)]; done) | rw [if_neg (by omega), if_neg (by omega)]
theorem fb_fo {b : Int} (h : foOk b = true) : fv (5 + b % 4) (foP b) (1 + b / 4 % 2) = true ∧ fbOf (5 + b % 4) (foP b) (1 + b / 4 % 2) = b := by
  obtain ⟨h0, h1, hp⟩ := fo_ok h
  have hv : fv (5 + b % 4) (foP b) (1 + b / 4 % 2) = true := fv_iff.2 ⟨by omega, by omega, by omega, by omega, by omega, by omega⟩
  refine ⟨hv, ?_⟩
  unfold fbOf
  rw [if_pos hv]
  rcases hp with ⟨h8, hp⟩ | ⟨h8, hp⟩ | ⟨h8, hp⟩
  all_goals
    rw [hp]
    simp
    omega
end Go.Proofs.YtkiijeobadlnnaaDoor
