/-
  Walks of the functions on senders. Each contract says what the function returns, and that nothing that was there has turned.
-/
import Derived.Test.YtkfjcamkgigolaaFifo
namespace Go.Proofs.Ytkfjcamkgigolaa
open Go.RowKit
set_option linter.unusedVariables false

/-- The byte on the line and the ticks that it still needs fit each other. -/
def onLine (shift left : Int) : Bool := if shift = -1 then left == 0 else isB shift && decide (1 ≤ left) && decide (left ≤ 3)
def sv (room : Int) (len : Nat) (zs : List Int) (shift left : Int) : Bool := ffv room len zs && onLine shift left
abbrev sndV (room : Int) (a : Option Addr) (len cap : Nat) (shift left : Int) : Array Value := #[.int .i64 room, .slice a len cap, .int .i64 shift, .int .i64 left]
theorem sv_no1 {room : Int} {len : Nat} {zs : List Int} {shift left : Int} (h : ffv room len zs = false) : sv room len zs shift left = false := by simp [sv, h]
theorem sv_yes {room : Int} {len : Nat} {zs : List Int} {shift left : Int} (h : ffv room len zs = true) : sv room len zs shift left = onLine shift left := by simp [sv, h]
theorem onLine_none {left : Int} : onLine (-1) left = (left == 0) := by simp [onLine]
theorem onLine_some {shift left : Int} (h : shift ≠ -1) : onLine shift left = (isB shift && decide (1 ≤ left) && decide (left ≤ 3)) := by simp [onLine, h]

theorem waiting_any (room : Int) (a : Option Addr) (len cap : Nat) (shift left : Int) (w : World) :
    Calls Try.prog 36 #[.agg (sndV room a len cap shift left)] w fun e w' => e = .returned (.agg #[.int .i64 room, .slice a len cap]) ∧ Below w.heap.size w w' := by
  go_enter Try.func36, Try.ntmps36
  go_wp2
  exact bodyPost_ret (v := .agg #[.int .i64 room, .slice a len cap]) (by simp [results, Try.results36, go_sem]) rfl ⟨rfl, ((Below.refl _ _).alloc (Nat.le_refl _) _).alloc (by simp) _⟩
theorem isv_any (room : Int) (a : Option Addr) (len cap : Nat) (zs : List Int) (shift left : Int) (w : World) (h : Sl w a len cap zs) :
    Calls Try.prog 17 #[.agg (sndV room a len cap shift left)] w fun e w' => e = .returned (.bool (sv room len zs shift left)) ∧ Below w.heap.size w w' := by
  have B := hide ((Below.refl w.heap.size w).alloc (Nat.le_refl _) (.cells (sndV room a len cap shift left) 35))
  have b0 := Bk.new w 35 (sndV room a len cap shift left)
  have s0 := h.alloc (.cells (sndV room a len cap shift left) 35)
  cases hv : ffv room len zs
  · rw [sv_no1 hv]
    have HV := hide hv
    clear hv
    go_enter Try.func17, Try.ntmps17
    go_wp2_with fail
    refine (waiting_any _ _ _ _ _ _ _).mono ?_
    rintro e w1 ⟨rfl, k1⟩
    have s1 := s0.below k1 (Nat.le_refl _)
    have b1 := b0.belowAll k1
    have B := hide (B.out.trans (k1.mono B.out.size))
    clear k1 b0
    go_wp2_with fail
    refine (iffv_any _ _ _ _ zs _ s1).mono ?_
    rintro e w2 ⟨rfl, k2⟩
    rw [HV.out]
    have b2 := b1.belowAll k2
    have B := hide (B.out.trans (k2.mono B.out.size))
    clear k2 b1
    have q2 := b2.cell
    go_wp2
    go_ret
    exact ⟨rfl, B.out⟩
  · rw [sv_yes hv]
    have HV := hide hv
    clear hv
    by_cases hs : shift = -1
    · subst hs
      rw [onLine_none]
      go_enter Try.func17, Try.ntmps17
      go_wp2_with fail
      refine (waiting_any _ _ _ _ _ _ _).mono ?_
      rintro e w1 ⟨rfl, k1⟩
      have s1 := s0.below k1 (Nat.le_refl _)
      have b1 := b0.belowAll k1
      have B := hide (B.out.trans (k1.mono B.out.size))
      clear k1 b0
      go_wp2_with fail
      refine (iffv_any _ _ _ _ zs _ s1).mono ?_
      rintro e w2 ⟨rfl, k2⟩
      rw [HV.out]
      have b2 := b1.belowAll k2
      have B := hide (B.out.trans (k2.mono B.out.size))
      clear k2 b1
      have q2 := b2.cell
      go_wp2
      go_ret
      exact ⟨rfl, B.out⟩
    · rw [onLine_some hs]
      have hs' : (shift == -1) = false := by simpa using hs
      clear hs
      by_cases h1 : 0 ≤ shift
      · by_cases h2 : shift ≤ 255
        · have E1 := hide (isB_iff.2 ⟨h1, h2⟩)
          by_cases h3 : 1 ≤ left
          · go_enter Try.func17, Try.ntmps17
            go_wp2_with fail
            refine (waiting_any _ _ _ _ _ _ _).mono ?_
            rintro e w1 ⟨rfl, k1⟩
            have s1 := s0.below k1 (Nat.le_refl _)
            have b1 := b0.belowAll k1
            have B := hide (B.out.trans (k1.mono B.out.size))
            clear k1 b0
            go_wp2_with fail
            refine (iffv_any _ _ _ _ zs _ s1).mono ?_
            rintro e w2 ⟨rfl, k2⟩
            rw [HV.out]
            have b2 := b1.belowAll k2
            have B := hide (B.out.trans (k2.mono B.out.size))
            clear k2 b1
            have q2 := b2.cell
            go_wp2
            go_ret
            exact ⟨ret_bool (by rw [E1.out]; simp [h3]), B.out⟩
          · go_enter Try.func17, Try.ntmps17
            go_wp2_with fail
            refine (waiting_any _ _ _ _ _ _ _).mono ?_
            rintro e w1 ⟨rfl, k1⟩
            have s1 := s0.below k1 (Nat.le_refl _)
            have b1 := b0.belowAll k1
            have B := hide (B.out.trans (k1.mono B.out.size))
            clear k1 b0
            go_wp2_with fail
            refine (iffv_any _ _ _ _ zs _ s1).mono ?_
            rintro e w2 ⟨rfl, k2⟩
            rw [HV.out]
            have b2 := b1.belowAll k2
            have B := hide (B.out.trans (k2.mono B.out.size))
            clear k2 b1
            have q2 := b2.cell
            go_wp2
            go_ret
            exact ⟨ret_bool (by rw [E1.out]; simp; omega), B.out⟩
        · have E1 := hide (show isB shift = false by simp [isB]; omega)
          go_enter Try.func17, Try.ntmps17
          go_wp2_with fail
          refine (waiting_any _ _ _ _ _ _ _).mono ?_
          rintro e w1 ⟨rfl, k1⟩
          have s1 := s0.below k1 (Nat.le_refl _)
          have b1 := b0.belowAll k1
          have B := hide (B.out.trans (k1.mono B.out.size))
          clear k1 b0
          go_wp2_with fail
          refine (iffv_any _ _ _ _ zs _ s1).mono ?_
          rintro e w2 ⟨rfl, k2⟩
          rw [HV.out]
          have b2 := b1.belowAll k2
          have B := hide (B.out.trans (k2.mono B.out.size))
          clear k2 b1
          have q2 := b2.cell
          go_wp2
          go_ret
          exact ⟨ret_bool (by rw [E1.out]; rfl), B.out⟩
      · have E1 := hide (show isB shift = false by simp [isB]; omega)
        go_enter Try.func17, Try.ntmps17
        go_wp2_with fail
        refine (waiting_any _ _ _ _ _ _ _).mono ?_
        rintro e w1 ⟨rfl, k1⟩
        have s1 := s0.below k1 (Nat.le_refl _)
        have b1 := b0.belowAll k1
        have B := hide (B.out.trans (k1.mono B.out.size))
        clear k1 b0
        go_wp2_with fail
        refine (iffv_any _ _ _ _ zs _ s1).mono ?_
        rintro e w2 ⟨rfl, k2⟩
        rw [HV.out]
        have b2 := b1.belowAll k2
        have B := hide (B.out.trans (k2.mono B.out.size))
        clear k2 b1
        have q2 := b2.cell
        go_wp2
        go_ret
        exact ⟨ret_bool (by rw [E1.out]; rfl), B.out⟩
theorem ssv_any (room : Int) (a : Option Addr) (len cap : Nat) (zs : List Int) (shift left : Int) (w : World) (h : Sl w a len cap zs) :
    Calls Try.prog 18 #[.agg (sndV room a len cap shift left)] w fun e w' => e = .returned (.bool (sv room len zs shift left)) ∧ Below w.heap.size w w' := by
  have hlc : (len : Int) ≤ 9223372036854775807 := by have := h.2.1; have := h.2.2.1; omega
  have B := hide ((Below.refl w.heap.size w).alloc (Nat.le_refl _) (.cells (sndV room a len cap shift left) 35))
  have s0 := h.alloc (.cells (sndV room a len cap shift left) 35)
  by_cases hx : 1 ≤ room ∧ room ≤ 16 ∧ (len : Int) ≤ room
  · obtain ⟨x1, x2, x3⟩ := hx
    have d2 : decide (room ≤ 16) = true := by simp; omega
    have n3 : ¬ room < (len : Int) := by omega
    cases hv : allB zs
    · have hf : ffv room len zs = false := by simp [ffv, hv]
      rw [sv_no1 hf]
      have HV := hide hv
      clear hf hv
      go_enter Try.func18, Try.ntmps18
      go_wp2_with (first | (go_at_call 30; refine (l6In_any _ _ _ _).mono ?_; rintro e w' ⟨rfl, rfl⟩) | (go_at_call 31; refine (l4Bytes_any _ _ _ zs _ s0).mono ?_; rintro e w' ⟨rfl, rfl⟩; rw [HV.out]))
      go_ret
      exact ⟨rfl, B.out⟩
    · have hf : ffv room len zs = true := ffv_iff.2 ⟨x1, x2, x3, hv⟩
      rw [sv_yes hf]
      have HV := hide hv
      clear hf hv
      by_cases hs : shift = -1
      · subst hs
        rw [onLine_none]
        go_enter Try.func18, Try.ntmps18
        go_wp2_with (first | (go_at_call 30; refine (l6In_any _ _ _ _).mono ?_; rintro e w' ⟨rfl, rfl⟩) | (go_at_call 31; refine (l4Bytes_any _ _ _ zs _ s0).mono ?_; rintro e w' ⟨rfl, rfl⟩; rw [HV.out]))
        go_ret
        exact ⟨rfl, B.out⟩
      · rw [onLine_some hs]
        have hs' : (shift == -1) = false := by simpa using hs
        clear hs
        by_cases hb : 0 ≤ shift ∧ shift ≤ 255
        · obtain ⟨h1, h2⟩ := hb
          have E1 := hide (isB_iff.2 ⟨h1, h2⟩)
          go_enter Try.func18, Try.ntmps18
          go_wp2_with (first | (go_at_call 30; refine (l6In_any _ _ _ _).mono ?_; rintro e w' ⟨rfl, rfl⟩) | (go_at_call 31; refine (l4Bytes_any _ _ _ zs _ s0).mono ?_; rintro e w' ⟨rfl, rfl⟩; rw [HV.out]))
          go_ret
          exact ⟨ret_bool (by rw [E1.out]; simp), B.out⟩
        · have hbb : (decide (0 ≤ shift) && decide (shift ≤ 255)) = false := by simp; omega
          have E1 := hide (show isB shift = false from hbb)
          clear hb
          go_enter Try.func18, Try.ntmps18
          go_wp2_with (first | (go_at_call 30; refine (l6In_any _ _ _ _).mono ?_; rintro e w' ⟨rfl, rfl⟩) | (go_at_call 31; refine (l4Bytes_any _ _ _ zs _ s0).mono ?_; rintro e w' ⟨rfl, rfl⟩; rw [HV.out]))
          go_ret
          exact ⟨ret_bool (by rw [E1.out]; rfl), B.out⟩
  · rw [sv_no1 (ffv_no hx)]
    by_cases x1 : 1 ≤ room ∧ room ≤ 16
    · obtain ⟨y1, y2⟩ := x1
      have n3 : room < (len : Int) := by omega
      clear hx
      go_enter Try.func18, Try.ntmps18
      go_wp2_with (go_at_call 30; refine (l6In_any _ _ _ _).mono ?_; rintro e w' ⟨rfl, rfl⟩)
      go_ret
      exact ⟨rfl, B.out⟩
    · have y1 : (decide (1 ≤ room) && decide (room ≤ 16)) = false := by simp; omega
      clear hx x1
      go_enter Try.func18, Try.ntmps18
      go_wp2_with (go_at_call 30; refine (l6In_any _ _ _ _).mono ?_; rintro e w' ⟨rfl, rfl⟩; rw [y1])
      go_ret
      exact ⟨rfl, B.out⟩
end Go.Proofs.Ytkfjcamkgigolaa
