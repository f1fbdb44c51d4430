/-
  Walks of the functions on formats: how many bits a frame has, and the control byte. Each contract says what the function returns and that nothing that was there has turned.
-/
import Derived.Test.YtemioipedkbkiaaNum
namespace Go.Proofs.Ytemioipedkbkiaa
open Go.RowKit

/-- The length of a frame; a control byte. -/
def flOf (a b c : Int) : Int := if fv a b c = true then (if b = 0 then 1 + a + c else 1 + a + c + 1) else -1
def fbOf (a b c : Int) : Int := if fv a b c = true then a - 5 + 4 * (c - 1) + (if b = 1 then 8 else if b = 2 then 24 else 0) else -1
theorem fl_no {a b c : Int} (h : fv a b c = false) : flOf a b c = -1 := by simp [flOf, h]
theorem fl_bd {a b c : Int} (h : fv a b c = true) : 7 ≤ flOf a b c ∧ flOf a b c ≤ 12 := by
  have h' := fv_iff.1 h
  unfold flOf
  rw [if_pos h]
  split <;> omega
theorem fl_none {a c : Int} (h : fv a 0 c = true) : flOf a 0 c = 1 + a + c := by simp [flOf, h]
theorem fl_some {a b c : Int} (h : fv a b c = true) (hb : b ≠ 0) : flOf a b c = 1 + a + c + 1 := by simp [flOf, h, hb]
theorem fb_no {a b c : Int} (h : fv a b c = false) : fbOf a b c = -1 := by simp [fbOf, h]
theorem ifl_any (a b c : Int) (w : World) :
    Calls Try.prog 17 #[.agg #[.int .i64 a, .int .i64 b, .int .i64 c]] w fun e w' => e = .returned (.int .i64 (flOf a b c)) ∧ Below w.heap.size w w' := by
  cases hv : fv a b c
  · rw [fl_no hv]
    go_enter Try.func17, Try.ntmps17
    go_wp2_with fail
    refine (ifv_any _ _ _ _).mono ?_
    rintro e w1 ⟨rfl, hb⟩
    rw [hv]
    clear hv
    go_wp2
    go_ret
    exact ⟨rfl, ((Below.refl _ _).alloc (Nat.le_refl _) _).trans (hb.mono (by simp))⟩
  · have h' := fv_iff.1 hv
    obtain ⟨h1, h2, h3, h4, h5, h6⟩ := h'
    by_cases hz : b = 0
    · subst hz
      rw [fl_none hv]
      go_enter Try.func17, Try.ntmps17
      go_wp2_with fail
      refine (ifv_any _ _ _ _).mono ?_
      rintro e w1 ⟨rfl, hb⟩
      rw [hv]
      clear hv
      have q := ((Bk.new w 27 _).belowAll hb).cell
      go_wp2
      go_ret
      exact ⟨rfl, ((Below.refl _ _).alloc (Nat.le_refl _) _).trans (hb.mono (by simp))⟩
    · rw [fl_some hv hz]
      have hz2 : (b != 0) = true := by simpa using hz
      clear hz
      go_enter Try.func17, Try.ntmps17
      go_wp2_with fail
      refine (ifv_any _ _ _ _).mono ?_
      rintro e w1 ⟨rfl, hb⟩
      rw [hv]
      clear hv
      have q := ((Bk.new w 27 _).belowAll hb).cell
      go_wp2
      go_ret
      exact ⟨rfl, ((Below.refl _ _).alloc (Nat.le_refl _) _).trans (hb.mono (by simp))⟩
end Go.Proofs.Ytemioipedkbkiaa
