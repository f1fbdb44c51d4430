/-
  Walks of the functions on samples: all are bits; the first 0 from a place on. Each contract says what the function returns, and that nothing has turned.
-/
import Derived.Test.YtemioipedkbkiaaInts
namespace Go.Proofs.Ytemioipedkbkiaa
open Go.RowKit
set_option linter.unusedVariables false

def isBt (z : Int) : Bool := decide (0 ≤ z) && decide (z ≤ 1)
def allBt (zs : List Int) : Bool := zs.all isBt
theorem isBt_iff {z : Int} : isBt z = true ↔ 0 ≤ z ∧ z ≤ 1 := by simp [isBt]
theorem allBt_no {zs : List Int} {k : Nat} (hk : k < zs.length) (h : isBt (zs.getD k 0) = false) : allBt zs = false := by
  unfold allBt
  rw [List.all_eq_false]
  refine ⟨zs.getD k 0, ?_, by simpa using h⟩
  rw [List.getD_eq_getElem?_getD, List.getElem?_eq_getElem hk]
  exact List.getElem_mem hk
theorem allBt_yes {zs : List Int} (h : ∀ j, j < zs.length → isBt (zs.getD j 0) = true) : allBt zs = true := by
  unfold allBt
  rw [List.all_eq_true]
  intro z hz
  obtain ⟨j, hj, rfl⟩ := List.getElem_of_mem hz
  have := h j hj
  rwa [List.getD_eq_getElem?_getD, List.getElem?_eq_getElem hj] at this
theorem allBt_at {zs : List Int} (h : allBt zs = true) {j : Nat} (hj : j < zs.length) : 0 ≤ zs.getD j 0 ∧ zs.getD j 0 ≤ 1 := by
  unfold allBt at h
  rw [List.all_eq_true] at h
  refine isBt_iff.1 (h _ ?_)
  rw [List.getD_eq_getElem?_getD, List.getElem?_eq_getElem hj]
  exact List.getElem_mem hj
theorem allBits_any (a : Option Addr) (len cap : Nat) (zs : List Int) (w : World) (h : Sl w a len cap zs) :
    Calls Try.prog 41 #[.slice a len cap] w fun e w' => e = .returned (.bool (allBt zs)) ∧ w = w' := by
  have hlc : (len : Int) ≤ 9223372036854775807 := by have := h.2.1; have := h.2.2.1; omega
  have HZ := hide h.1
  have H := hide h
  clear h
  go_enter Try.func41, Try.ntmps41
  go_wp2
  go_loop [7] (fun i => ∃ k : Nat, k ≤ len ∧ i = .int .i64 k ∧ ∀ j, j < k → isBt (zs.getD j 0) = true) (fun i => len - (intOf i).toNat)
  case atStart => exact ⟨0, by omega, rfl, fun j hj => absurd hj (by omega)⟩
  case round =>
    obtain ⟨k, hk, rfl, hall⟩ := hrel
    have HA := hide hall
    clear hall
    by_cases hlt : k < len
    · obtain ⟨x, rfl, hc⟩ := H.out.at_ hlt
      have hlt' : (k : Int) < (len : Int) := by omega
      obtain ⟨z, hz⟩ : ∃ z, zs.getD k 0 = z := ⟨_, rfl⟩
      rw [hz] at hc
      have HK := hide hz
      clear hz
      by_cases h01 : z = 0 ∨ z = 1
      · have HB := hide (isBt_iff.2 (show 0 ≤ z ∧ z ≤ 1 by omega))
        obtain rfl | rfl := h01
        all_goals
          go_wp2
          go_round
          case rel => exact ⟨k + 1, by omega, by go_num, fun j hj => by
            by_cases e : j = k
            · subst e; rw [HK.out]; exact HB.out
            · exact HA.out j (by omega)⟩
          case measure => simp [intOf]; omega
      · have n0 : (z == 0) = false := by simp; omega
        have n1 : (z == 1) = false := by simp; omega
        have n2 : (z != 0) = true := by simp; omega
        have n3 : (z != 1) = true := by simp; omega
        have HB := hide (show isBt z = false by simp [isBt]; omega)
        go_wp2
        go_ret
        exact ⟨ret_bool (by rw [allBt_no (k := k) (by rw [HZ.out]; exact hlt) (by rw [HK.out]; exact HB.out)]), rfl⟩
    · have hge : ¬ (k : Int) < (len : Int) := by omega
      go_wp2
      go_ret
      exact ⟨ret_bool (by rw [allBt_yes fun j hj => HA.out j (by have := HZ.out; omega)]), rfl⟩
def smp (len : Nat) (zs : List Int) : Bool := decide (len ≤ 500) && allBt zs
theorem samplesValid_any (a : Option Addr) (len cap : Nat) (zs : List Int) (w : World) (h : Sl w a len cap zs) :
    Calls Try.prog 32 #[.slice a len cap] w fun e w' => e = .returned (.bool (smp len zs)) ∧ w = w' := by
  have hlc : (len : Int) ≤ 9223372036854775807 := by have := h.2.1; have := h.2.2.1; omega
  by_cases hl : len ≤ 500
  · have hl' : (len : Int) ≤ 500 := by omega
    have E := hide (show smp len zs = allBt zs by simp [smp, hl])
    go_enter Try.func32, Try.ntmps32
    go_wp2_with (go_at_call 41; refine (allBits_any _ _ _ zs _ h).mono ?_; rintro e w' ⟨rfl, rfl⟩)
    go_ret
    exact ⟨ret_bool (by rw [E.out]), rfl⟩
  · have hl' : ¬ (len : Int) ≤ 500 := by omega
    have E := hide (show smp len zs = false by simp [smp, hl])
    go_enter Try.func32, Try.ntmps32
    go_wp2_with (go_at_call 41; refine (allBits_any _ _ _ zs _ h).mono ?_; rintro e w' ⟨rfl, rfl⟩)
    go_ret
    exact ⟨ret_bool (by rw [E.out]), rfl⟩
/-- The place of the first 0 from a place on, or -1. -/
def sf (zs : List Int) (k : Nat) : Int := if h : k < zs.length then if zs.getD k 0 = 0 then k else sf zs (k + 1) else -1
termination_by zs.length - k
theorem sf_end {zs : List Int} {k : Nat} (h : ¬ k < zs.length) : sf zs k = -1 := by rw [sf, dif_neg h]
theorem sf_here {zs : List Int} {k : Nat} (h : k < zs.length) (hz : zs.getD k 0 = 0) : sf zs k = k := by rw [sf, dif_pos h, if_pos hz]
theorem sf_next {zs : List Int} {k : Nat} (h : k < zs.length) (hz : zs.getD k 0 ≠ 0) : sf zs k = sf zs (k + 1) := by rw [sf, dif_pos h, if_neg hz]
theorem startFrom_any (a : Option Addr) (len cap : Nat) (zs : List Int) (at_ : Int) (w : World) (h : Sl w a len cap zs) (h0 : 0 ≤ at_) (h1 : at_ ≤ 9223372036854775807) :
    Calls Try.prog 33 #[.slice a len cap, .int .i64 at_] w fun e w' => e = .returned (.int .i64 (sf zs at_.toNat)) ∧ w = w' := by
  have hlc : (len : Int) ≤ 9223372036854775807 := by have := h.2.1; have := h.2.2.1; omega
  obtain ⟨p, rfl⟩ := Int.eq_ofNat_of_zero_le h0
  have HZ := hide h.1
  have H := hide h
  clear h
  simp only [Int.toNat_natCast]
  go_enter Try.func33, Try.ntmps33
  go_wp2
  go_loop [5] (fun i => ∃ k : Nat, p ≤ k ∧ i = .int .i64 k ∧ (k : Int) ≤ 9223372036854775807 ∧ sf zs p = sf zs k) (fun i => len - (intOf i).toNat)
  case atStart => exact ⟨p, by omega, rfl, h1, rfl⟩
  case round =>
    obtain ⟨k, hk, rfl, hk1, hall⟩ := hrel
    have HA := hide hall
    clear hall
    by_cases hlt : k < len
    · obtain ⟨x, rfl, hc⟩ := H.out.at_ hlt
      have hlt' : (k : Int) < (len : Int) := by omega
      have h0' : (0 : Int) ≤ (k : Int) := by omega
      obtain ⟨z, hz⟩ : ∃ z, zs.getD k 0 = z := ⟨_, rfl⟩
      rw [hz] at hc
      have HK := hide hz
      clear hz
      by_cases hz0 : z = 0
      · subst hz0
        go_wp2
        go_ret
        exact ⟨ret_int (by rw [HA.out, sf_here (by rw [HZ.out]; exact hlt) HK.out]), rfl⟩
      · have n0 : (z == 0) = false := by simpa using hz0
        have HN := hide hz0
        clear hz0
        go_wp2
        go_round
        case rel => exact ⟨k + 1, by omega, by go_num, by omega, by rw [HA.out, sf_next (by rw [HZ.out]; exact hlt) (by rw [HK.out]; exact HN.out)]⟩
        case measure => simp [intOf]; omega
    · have hge : ¬ (k : Int) < (len : Int) := by omega
      go_wp2
      go_ret
      exact ⟨ret_int (by rw [HA.out, sf_end (by rw [HZ.out]; exact hlt)]), rfl⟩
end Go.Proofs.Ytemioipedkbkiaa
