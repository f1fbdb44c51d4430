/-
  Walks of the functions on a sender's status and on how long it waits, and of the exact laws on senders: each law returns true and turns nothing that was there.
-/
import Derived.Test.YtkfjcamkgigolaaSend
namespace Go.Proofs.Ytkfjcamkgigolaa
open Go.RowKit
set_option linter.unusedVariables false

def stOf (room : Int) (len : Nat) (zs : List Int) (shift left : Int) : Int := if sv room len zs shift left = false then -1 else if 0 < len then 0 else if shift = -1 then 96 else 32
def wtOf (room : Int) (len : Nat) (zs : List Int) (shift left : Int) : Int := if sv room len zs shift left = false then -1 else if shift = -1 ∧ 0 < len then left + 3 * len + 1 else left + 3 * len
theorem sv_facts {room : Int} {len : Nat} {zs : List Int} {shift left : Int} (h : sv room len zs shift left = true) : (len : Int) ≤ 16 ∧ 0 ≤ left ∧ left ≤ 3 ∧ (shift = -1 ∨ 0 ≤ shift) ∧ shift ≤ 255 ∧ (shift = -1 → left = 0) := by
  simp only [sv, Bool.and_eq_true] at h
  obtain ⟨h1, h2⟩ := h
  obtain ⟨_, r2, r3, _⟩ := ffv_iff.1 h1
  unfold onLine at h2
  split at h2
  · rename_i hs
    have : left = 0 := by simpa using h2
    omega
  · simp [isB] at h2
    omega
theorem ist_any (room : Int) (a : Option Addr) (len cap : Nat) (zs : List Int) (shift left : Int) (w : World) (h : Sl w a len cap zs) :
    Calls Try.prog 23 #[.agg (sndV room a len cap shift left)] w fun e w' => e = .returned (.int .i64 (stOf room len zs shift left)) ∧ Below w.heap.size w w' := by
  have B := hide ((Below.refl w.heap.size w).alloc (Nat.le_refl _) (.cells (sndV room a len cap shift left) 35))
  have b0 := Bk.new w 35 (sndV room a len cap shift left)
  have s0 := h.alloc (.cells (sndV room a len cap shift left) 35)
  cases hv : sv room len zs shift left
  · have E := hide (show stOf room len zs shift left = -1 by simp [stOf, hv])
    have HV := hide hv
    clear hv
    go_enter Try.func23, Try.ntmps23
    go_wp2_with fail
    refine (isv_any _ _ _ _ zs _ _ _ s0).mono ?_
    rintro e w1 ⟨rfl, k1⟩
    rw [HV.out]
    have B := hide (B.out.trans (k1.mono B.out.size))
    clear k1
    go_wp2
    go_ret
    exact ⟨ret_int (by rw [E.out]), B.out⟩
  · obtain ⟨f1, f2, f3, f4, f5, f6⟩ := sv_facts hv
    clear f6
    by_cases hl : 0 < len
    · have hl' : (0 : Int) < (len : Int) := by omega
      by_cases hs : shift = -1
      · subst hs
        have E := hide (show stOf room len zs (-1) left = _ by simp only [stOf, hv, hl]; rfl)
        have HV := hide hv
        clear hv hl f4
        go_enter Try.func23, Try.ntmps23
        go_wp2_with fail
        refine (isv_any _ _ _ _ zs _ _ _ s0).mono ?_
        rintro e w1 ⟨rfl, k1⟩
        rw [HV.out]
        have q1 := (b0.belowAll k1).cell
        have B := hide (B.out.trans (k1.mono B.out.size))
        clear k1
        go_wp2
        go_ret
        exact ⟨ret_int (by rw [E.out]; simp), B.out⟩
      · have E := hide (show stOf room len zs shift left = _ by simp only [stOf, hv, hl, hs]; rfl)
        have hs1 : (shift == -1) = false := by simpa using hs
        have hs2 : (shift != -1) = true := by simpa using hs
        have hs3 : 0 ≤ shift := by omega
        have HV := hide hv
        clear hv hl hs f4
        go_enter Try.func23, Try.ntmps23
        go_wp2_with fail
        refine (isv_any _ _ _ _ zs _ _ _ s0).mono ?_
        rintro e w1 ⟨rfl, k1⟩
        rw [HV.out]
        have q1 := (b0.belowAll k1).cell
        have B := hide (B.out.trans (k1.mono B.out.size))
        clear k1
        go_wp2
        go_ret
        exact ⟨ret_int (by rw [E.out]; simp), B.out⟩
    · obtain rfl : len = 0 := by omega
      by_cases hs : shift = -1
      · subst hs
        have E := hide (show stOf room 0 zs (-1) left = _ by simp only [stOf, hv, hl]; rfl)
        have HV := hide hv
        clear hv hl f4
        go_enter Try.func23, Try.ntmps23
        go_wp2_with fail
        refine (isv_any _ _ _ _ zs _ _ _ s0).mono ?_
        rintro e w1 ⟨rfl, k1⟩
        rw [HV.out]
        have q1 := (b0.belowAll k1).cell
        have B := hide (B.out.trans (k1.mono B.out.size))
        clear k1
        go_wp2
        go_ret
        exact ⟨ret_int (by rw [E.out]; simp), B.out⟩
      · have E := hide (show stOf room 0 zs shift left = _ by simp only [stOf, hv, hl, hs]; rfl)
        have hs1 : (shift == -1) = false := by simpa using hs
        have hs2 : (shift != -1) = true := by simpa using hs
        have hs3 : 0 ≤ shift := by omega
        have HV := hide hv
        clear hv hl hs f4
        go_enter Try.func23, Try.ntmps23
        go_wp2_with fail
        refine (isv_any _ _ _ _ zs _ _ _ s0).mono ?_
        rintro e w1 ⟨rfl, k1⟩
        rw [HV.out]
        have q1 := (b0.belowAll k1).cell
        have B := hide (B.out.trans (k1.mono B.out.size))
        clear k1
        go_wp2
        go_ret
        exact ⟨ret_int (by rw [E.out]; simp), B.out⟩
theorem sst_any (room : Int) (a : Option Addr) (len cap : Nat) (zs : List Int) (shift left : Int) (w : World) (h : Sl w a len cap zs) :
    Calls Try.prog 24 #[.agg (sndV room a len cap shift left)] w fun e w' => e = .returned (.int .i64 (stOf room len zs shift left)) ∧ Below w.heap.size w w' := by
  have B := hide ((Below.refl w.heap.size w).alloc (Nat.le_refl _) (.cells (sndV room a len cap shift left) 35))
  have b0 := Bk.new w 35 (sndV room a len cap shift left)
  have s0 := h.alloc (.cells (sndV room a len cap shift left) 35)
  cases hv : sv room len zs shift left
  · have E := hide (show stOf room len zs shift left = -1 by simp [stOf, hv])
    have HV := hide hv
    clear hv
    go_enter Try.func24, Try.ntmps24
    go_wp2_with fail
    refine (ssv_any _ _ _ _ zs _ _ _ s0).mono ?_
    rintro e w1 ⟨rfl, k1⟩
    rw [HV.out]
    have B := hide (B.out.trans (k1.mono B.out.size))
    clear k1
    go_wp2
    go_ret
    exact ⟨ret_int (by rw [E.out]), B.out⟩
  · obtain ⟨f1, f2, f3, f4, f5, f6⟩ := sv_facts hv
    clear f6
    by_cases hl : 0 < len
    · have hl' : (0 : Int) < (len : Int) := by omega
      by_cases hs : shift = -1
      · subst hs
        have E := hide (show stOf room len zs (-1) left = _ by simp only [stOf, hv, hl]; rfl)
        have HV := hide hv
        clear hv hl f4
        go_enter Try.func24, Try.ntmps24
        go_wp2_with fail
        refine (ssv_any _ _ _ _ zs _ _ _ s0).mono ?_
        rintro e w1 ⟨rfl, k1⟩
        rw [HV.out]
        have q1 := (b0.belowAll k1).cell
        have B := hide (B.out.trans (k1.mono B.out.size))
        clear k1
        go_wp2
        go_ret
        exact ⟨ret_int (by rw [E.out]; simp), B.out⟩
      · have E := hide (show stOf room len zs shift left = _ by simp only [stOf, hv, hl, hs]; rfl)
        have hs1 : (shift == -1) = false := by simpa using hs
        have hs2 : (shift != -1) = true := by simpa using hs
        have hs3 : 0 ≤ shift := by omega
        have HV := hide hv
        clear hv hl hs f4
        go_enter Try.func24, Try.ntmps24
        go_wp2_with fail
        refine (ssv_any _ _ _ _ zs _ _ _ s0).mono ?_
        rintro e w1 ⟨rfl, k1⟩
        rw [HV.out]
        have q1 := (b0.belowAll k1).cell
        have B := hide (B.out.trans (k1.mono B.out.size))
        clear k1
        go_wp2
        go_ret
        exact ⟨ret_int (by rw [E.out]; simp), B.out⟩
    · obtain rfl : len = 0 := by omega
      by_cases hs : shift = -1
      · subst hs
        have E := hide (show stOf room 0 zs (-1) left = _ by simp only [stOf, hv, hl]; rfl)
        have HV := hide hv
        clear hv hl f4
        go_enter Try.func24, Try.ntmps24
        go_wp2_with fail
        refine (ssv_any _ _ _ _ zs _ _ _ s0).mono ?_
        rintro e w1 ⟨rfl, k1⟩
        rw [HV.out]
        have q1 := (b0.belowAll k1).cell
        have B := hide (B.out.trans (k1.mono B.out.size))
        clear k1
        go_wp2
        go_ret
        exact ⟨ret_int (by rw [E.out]; simp), B.out⟩
      · have E := hide (show stOf room 0 zs shift left = _ by simp only [stOf, hv, hl, hs]; rfl)
        have hs1 : (shift == -1) = false := by simpa using hs
        have hs2 : (shift != -1) = true := by simpa using hs
        have hs3 : 0 ≤ shift := by omega
        have HV := hide hv
        clear hv hl hs f4
        go_enter Try.func24, Try.ntmps24
        go_wp2_with fail
        refine (ssv_any _ _ _ _ zs _ _ _ s0).mono ?_
        rintro e w1 ⟨rfl, k1⟩
        rw [HV.out]
        have q1 := (b0.belowAll k1).cell
        have B := hide (B.out.trans (k1.mono B.out.size))
        clear k1
        go_wp2
        go_ret
        exact ⟨ret_int (by rw [E.out]; simp), B.out⟩
theorem iwt_any (room : Int) (a : Option Addr) (len cap : Nat) (zs : List Int) (shift left : Int) (w : World) (h : Sl w a len cap zs) :
    Calls Try.prog 26 #[.agg (sndV room a len cap shift left)] w fun e w' => e = .returned (.int .i64 (wtOf room len zs shift left)) ∧ Below w.heap.size w w' := by
  have B := hide ((Below.refl w.heap.size w).alloc (Nat.le_refl _) (.cells (sndV room a len cap shift left) 35))
  have b0 := Bk.new w 35 (sndV room a len cap shift left)
  have s0 := h.alloc (.cells (sndV room a len cap shift left) 35)
  cases hv : sv room len zs shift left
  · have E := hide (show wtOf room len zs shift left = -1 by simp [wtOf, hv])
    have HV := hide hv
    clear hv
    go_enter Try.func26, Try.ntmps26
    go_wp2_with fail
    refine (isv_any _ _ _ _ zs _ _ _ s0).mono ?_
    rintro e w1 ⟨rfl, k1⟩
    rw [HV.out]
    have B := hide (B.out.trans (k1.mono B.out.size))
    clear k1
    go_wp2
    go_ret
    exact ⟨ret_int (by rw [E.out]), B.out⟩
  · obtain ⟨f1, f2, f3, f4, f5, f6⟩ := sv_facts hv
    clear f6
    by_cases hl : 0 < len
    · have hl' : (0 : Int) < (len : Int) := by omega
      by_cases hs : shift = -1
      · subst hs
        have E := hide (show wtOf room len zs (-1) left = _ by simp only [wtOf, hv, hl]; rfl)
        have HV := hide hv
        clear hv hl f4
        go_enter Try.func26, Try.ntmps26
        go_wp2_with fail
        refine (isv_any _ _ _ _ zs _ _ _ s0).mono ?_
        rintro e w1 ⟨rfl, k1⟩
        rw [HV.out]
        have q1 := (b0.belowAll k1).cell
        have B := hide (B.out.trans (k1.mono B.out.size))
        clear k1
        go_wp2
        go_ret
        exact ⟨ret_int (by rw [E.out]; simp), B.out⟩
      · have E := hide (show wtOf room len zs shift left = _ by simp only [wtOf, hv, hl, hs]; rfl)
        have hs1 : (shift == -1) = false := by simpa using hs
        have hs2 : (shift != -1) = true := by simpa using hs
        have hs3 : 0 ≤ shift := by omega
        have HV := hide hv
        clear hv hl hs f4
        go_enter Try.func26, Try.ntmps26
        go_wp2_with fail
        refine (isv_any _ _ _ _ zs _ _ _ s0).mono ?_
        rintro e w1 ⟨rfl, k1⟩
        rw [HV.out]
        have q1 := (b0.belowAll k1).cell
        have B := hide (B.out.trans (k1.mono B.out.size))
        clear k1
        go_wp2
        go_ret
        exact ⟨ret_int (by rw [E.out]; simp), B.out⟩
    · obtain rfl : len = 0 := by omega
      by_cases hs : shift = -1
      · subst hs
        have E := hide (show wtOf room 0 zs (-1) left = _ by simp only [wtOf, hv, hl]; rfl)
        have HV := hide hv
        clear hv hl f4
        go_enter Try.func26, Try.ntmps26
        go_wp2_with fail
        refine (isv_any _ _ _ _ zs _ _ _ s0).mono ?_
        rintro e w1 ⟨rfl, k1⟩
        rw [HV.out]
        have q1 := (b0.belowAll k1).cell
        have B := hide (B.out.trans (k1.mono B.out.size))
        clear k1
        go_wp2
        go_ret
        exact ⟨ret_int (by rw [E.out]; simp), B.out⟩
      · have E := hide (show wtOf room 0 zs shift left = _ by simp only [wtOf, hv, hl, hs]; rfl)
        have hs1 : (shift == -1) = false := by simpa using hs
        have hs2 : (shift != -1) = true := by simpa using hs
        have hs3 : 0 ≤ shift := by omega
        have HV := hide hv
        clear hv hl hs f4
        go_enter Try.func26, Try.ntmps26
        go_wp2_with fail
        refine (isv_any _ _ _ _ zs _ _ _ s0).mono ?_
        rintro e w1 ⟨rfl, k1⟩
        rw [HV.out]
        have q1 := (b0.belowAll k1).cell
        have B := hide (B.out.trans (k1.mono B.out.size))
        clear k1
        go_wp2
        go_ret
        exact ⟨ret_int (by rw [E.out]; simp), B.out⟩
theorem swt_any (room : Int) (a : Option Addr) (len cap : Nat) (zs : List Int) (shift left : Int) (w : World) (h : Sl w a len cap zs) :
    Calls Try.prog 25 #[.agg (sndV room a len cap shift left)] w fun e w' => e = .returned (.int .i64 (wtOf room len zs shift left)) ∧ Below w.heap.size w w' := by
  have B := hide ((Below.refl w.heap.size w).alloc (Nat.le_refl _) (.cells (sndV room a len cap shift left) 35))
  have b0 := Bk.new w 35 (sndV room a len cap shift left)
  have s0 := h.alloc (.cells (sndV room a len cap shift left) 35)
  cases hv : sv room len zs shift left
  · have E := hide (show wtOf room len zs shift left = -1 by simp [wtOf, hv])
    have HV := hide hv
    clear hv
    go_enter Try.func25, Try.ntmps25
    go_wp2_with fail
    refine (ssv_any _ _ _ _ zs _ _ _ s0).mono ?_
    rintro e w1 ⟨rfl, k1⟩
    rw [HV.out]
    have B := hide (B.out.trans (k1.mono B.out.size))
    clear k1
    go_wp2
    go_ret
    exact ⟨ret_int (by rw [E.out]), B.out⟩
  · obtain ⟨f1, f2, f3, f4, f5, f6⟩ := sv_facts hv
    clear f6
    by_cases hl : 0 < len
    · have hl' : (0 : Int) < (len : Int) := by omega
      by_cases hs : shift = -1
      · subst hs
        have E := hide (show wtOf room len zs (-1) left = _ by simp only [wtOf, hv, hl]; rfl)
        have HV := hide hv
        clear hv hl f4
        go_enter Try.func25, Try.ntmps25
        go_wp2_with fail
        refine (ssv_any _ _ _ _ zs _ _ _ s0).mono ?_
        rintro e w1 ⟨rfl, k1⟩
        rw [HV.out]
        have q1 := (b0.belowAll k1).cell
        have B := hide (B.out.trans (k1.mono B.out.size))
        clear k1
        go_wp2
        go_ret
        exact ⟨ret_int (by rw [E.out]; simp), B.out⟩
      · have E := hide (show wtOf room len zs shift left = _ by simp only [wtOf, hv, hl, hs]; rfl)
        have hs1 : (shift == -1) = false := by simpa using hs
        have hs2 : (shift != -1) = true := by simpa using hs
        have hs3 : 0 ≤ shift := by omega
        have HV := hide hv
        clear hv hl hs f4
        go_enter Try.func25, Try.ntmps25
        go_wp2_with fail
        refine (ssv_any _ _ _ _ zs _ _ _ s0).mono ?_
        rintro e w1 ⟨rfl, k1⟩
        rw [HV.out]
        have q1 := (b0.belowAll k1).cell
        have B := hide (B.out.trans (k1.mono B.out.size))
        clear k1
        go_wp2
        go_ret
        exact ⟨ret_int (by rw [E.out]; simp), B.out⟩
    · obtain rfl : len = 0 := by omega
      by_cases hs : shift = -1
      · subst hs
        have E := hide (show wtOf room 0 zs (-1) left = _ by simp only [wtOf, hv, hl]; rfl)
        have HV := hide hv
        clear hv hl f4
        go_enter Try.func25, Try.ntmps25
        go_wp2_with fail
        refine (ssv_any _ _ _ _ zs _ _ _ s0).mono ?_
        rintro e w1 ⟨rfl, k1⟩
        rw [HV.out]
        have q1 := (b0.belowAll k1).cell
        have B := hide (B.out.trans (k1.mono B.out.size))
        clear k1
        go_wp2
        go_ret
        exact ⟨ret_int (by rw [E.out]; simp), B.out⟩
      · have E := hide (show wtOf room 0 zs shift left = _ by simp only [wtOf, hv, hl, hs]; rfl)
        have hs1 : (shift == -1) = false := by simpa using hs
        have hs2 : (shift != -1) = true := by simpa using hs
        have hs3 : 0 ≤ shift := by omega
        have HV := hide hv
        clear hv hl hs f4
        go_enter Try.func25, Try.ntmps25
        go_wp2_with fail
        refine (ssv_any _ _ _ _ zs _ _ _ s0).mono ?_
        rintro e w1 ⟨rfl, k1⟩
        rw [HV.out]
        have q1 := (b0.belowAll k1).cell
        have B := hide (B.out.trans (k1.mono B.out.size))
        clear k1
        go_wp2
        go_ret
        exact ⟨ret_int (by rw [E.out]; simp), B.out⟩
end Go.Proofs.Ytkfjcamkgigolaa
