/-
  Walks of the functions on receivers. Each contract says what the function returns, and that nothing that was there has turned.
-/
import Derived.Test.YtnlclifdkhlcpaaGots
namespace Go.Proofs.Ytnlclifdkhlcpaa
open Go.RowKit
set_option linter.unusedVariables false

abbrev rcvV (room trig : Int) (a : Option Addr) (len cap : Nat) (lost : Bool) (age : Int) : Array Value := #[.int .i64 room, .int .i64 trig, .slice a len cap, .bool lost, .int .i64 age]
def rh (room trig : Int) (len : Nat) (age : Int) : Bool := decide (1 ≤ room ∧ room ≤ 16 ∧ 1 ≤ trig ∧ trig ≤ room ∧ (len : Int) ≤ room ∧ 0 ≤ age ∧ age ≤ 99)
def rv (room trig : Int) (len : Nat) (zs : List (Int × Int)) (age : Int) : Bool := rh room trig len age && allG zs
set_option maxHeartbeats 1000000 in
theorem irv_any (room trig : Int) (a : Option Addr) (len cap : Nat) (zs : List (Int × Int)) (lost : Bool) (age : Int) (w : World) (h : Sg w a len cap zs) :
    Calls Try.prog 12 #[.agg (rcvV room trig a len cap lost age)] w fun e w' => e = .returned (.bool (rv room trig len zs age)) ∧ Below w.heap.size w w' := by
  have hlc : (len : Int) ≤ 9223372036854775807 := by have := h.2.1; have := h.2.2.1; omega
  have HZ := hide h.1
  have H := hide (h.alloc (.cells (rcvV room trig a len cap lost age) 25))
  have B := hide ((Below.refl w.heap.size w).alloc (Nat.le_refl _) (.cells (rcvV room trig a len cap lost age) 25))
  clear h
  cases hr : rh room trig len age
  · have E := hide (show rv room trig len zs age = false by simp [rv, hr])
    have HR := hide hr
    clear hr
    go_enter Try.func12, Try.ntmps12
    go_wp2
    all_goals first | (exfalso; have := HR.out; simp [rh] at this; omega) | (go_ret; exact ⟨ret_bool (by rw [E.out]), B.out⟩)
  · have hr' : 1 ≤ room ∧ room ≤ 16 ∧ 1 ≤ trig ∧ trig ≤ room ∧ (len : Int) ≤ room ∧ 0 ≤ age ∧ age ≤ 99 := by simpa [rh] using hr
    have E := hide (show rv room trig len zs age = allG zs by simp [rv, hr])
    obtain ⟨r1, r2, r3, r4, r5, r6, r7⟩ := hr'
    clear hr
    go_enter Try.func12, Try.ntmps12
    go_wp2
    go_loopw [44] (fun i wr => ∃ k : Nat, k ≤ len ∧ i = .int .i64 k ∧ (∀ j, j < k → gv (zs.getD j (0, 0)) = true) ∧ Below w.heap.size w wr ∧ Below (w.heap.size + 1) (w.alloc (.cells (rcvV room trig a len cap lost age) 25)) wr) (fun i _ => len - (intOf i).toNat)
    case atStart => exact ⟨0, by omega, rfl, fun j hj => absurd hj (by omega), B.out, Below.refl _ _⟩
    case round =>
      obtain ⟨k, hk, rfl, hall, hb1, hb2⟩ := hrel
      have HA := hide hall
      clear hall
      by_cases hlt : k < len
      · have hlt' : (k : Int) < (len : Int) := by omega
        obtain ⟨b, o, rfl, c1, c2⟩ := (H.out.below hb2 (by simp)).at_ hlt
        obtain ⟨x, hx⟩ : ∃ x, (zs.getD k (0, 0)).1 = x := ⟨_, rfl⟩
        obtain ⟨y, hy⟩ : ∃ y, (zs.getD k (0, 0)).2 = y := ⟨_, rfl⟩
        have HK := hide (show zs.getD k (0, 0) = (x, y) by rw [← hx, ← hy])
        rw [hx] at c1
        rw [hy] at c2
        clear hx hy
        go_wp2_with fail
        refine (gotValid_any _ _ _).mono ?_
        rintro e w2 ⟨rfl, k2⟩
        have hz : w.heap.size ≤ wr.heap.size := hb1.size
        have hz2 : w.heap.size + 1 ≤ wr.heap.size := by have := hb2.size; simpa using this
        have hb3 := (hb1.alloc hb1.size (.cells #[.int .i64 x, .int .i64 y] 39)).trans (k2.mono (by simp; omega))
        have hb4 := (hb2.alloc hz2 (.cells #[.int .i64 x, .int .i64 y] 39)).trans (k2.mono (by simp; omega))
        clear k2 c1 c2
        cases hg : gv (x, y)
        · go_wp2
          go_ret
          exact ⟨ret_bool (by rw [E.out, allG_no (k := k) (by rw [HZ.out]; exact hlt) (by rw [HK.out]; exact hg)]), hb3⟩
        · go_wp2
          go_roundw
          case rel => exact ⟨k + 1, by omega, by go_num, fun j hj => by
            by_cases e : j = k
            · subst e; rw [HK.out]; exact hg
            · exact HA.out j (by omega), hb3, hb4⟩
          case measure => simp [intOf]; omega
      · have hge : ¬ (k : Int) < (len : Int) := by omega
        go_wp2
        go_ret
        exact ⟨ret_bool (by rw [E.out, allG_yes fun j hj => HA.out j (by have := HZ.out; omega)]), hb1⟩
set_option maxHeartbeats 1000000 in
theorem srv_any (room trig : Int) (a : Option Addr) (len cap : Nat) (zs : List (Int × Int)) (lost : Bool) (age : Int) (w : World) (h : Sg w a len cap zs) :
    Calls Try.prog 13 #[.agg (rcvV room trig a len cap lost age)] w fun e w' => e = .returned (.bool (rv room trig len zs age)) ∧ Below w.heap.size w w' := by
  have hlc : (len : Int) ≤ 9223372036854775807 := by have := h.2.1; have := h.2.2.1; omega
  have HZ := hide h.1
  have H := hide (h.alloc (.cells (rcvV room trig a len cap lost age) 25))
  have B := hide ((Below.refl w.heap.size w).alloc (Nat.le_refl _) (.cells (rcvV room trig a len cap lost age) 25))
  clear h
  go_enter Try.func13, Try.ntmps13
  go_wp2
  go_loopw [3] (fun i wr => ∃ k : Nat, k ≤ len ∧ i = .int .i64 k ∧ (∀ j, j < k → gv (zs.getD j (0, 0)) = true) ∧ Below w.heap.size w wr ∧ Below (w.heap.size + 1) (w.alloc (.cells (rcvV room trig a len cap lost age) 25)) wr) (fun i _ => len - (intOf i).toNat)
  case atStart => exact ⟨0, by omega, rfl, fun j hj => absurd hj (by omega), B.out, Below.refl _ _⟩
  case round =>
    obtain ⟨k, hk, rfl, hall, hb1, hb2⟩ := hrel
    have HA := hide hall
    clear hall
    have qr := ((Bk.new w 25 (rcvV room trig a len cap lost age)).below hb2 (by omega)).cell
    by_cases hlt : k < len
    · have hlt' : (k : Int) < (len : Int) := by omega
      obtain ⟨b, o, rfl, c1, c2⟩ := (H.out.below hb2 (by simp)).at_ hlt
      obtain ⟨x, hx⟩ : ∃ x, (zs.getD k (0, 0)).1 = x := ⟨_, rfl⟩
      obtain ⟨y, hy⟩ : ∃ y, (zs.getD k (0, 0)).2 = y := ⟨_, rfl⟩
      have HK := hide (show zs.getD k (0, 0) = (x, y) by rw [← hx, ← hy])
      rw [hx] at c1
      rw [hy] at c2
      clear hx hy
      go_wp2_with fail
      refine (l11Got_any _ _ _).mono ?_
      rintro e w2 ⟨rfl, k2⟩
      have hb3 := hb1.trans (k2.mono hb1.size)
      have hb4 := hb2.trans (k2.mono (by have := hb2.size; simpa using this))
      clear k2 c1 c2 qr
      cases hg : gv (x, y)
      · have hv : rv room trig len zs age = false := by simp [rv, allG_no (k := k) (by rw [HZ.out]; exact hlt) (by rw [HK.out]; exact hg)]
        have HV := hide hv
        clear hv
        go_wp2
        go_ret
        exact ⟨ret_bool (by rw [HV.out]), hb3⟩
      · go_wp2
        go_roundw
        case rel => exact ⟨k + 1, by omega, by go_num, fun j hj => by
          by_cases e : j = k
          · subst e; rw [HK.out]; exact hg
          · exact HA.out j (by omega), hb3, hb4⟩
        case measure => simp [intOf]; omega
    · have hge : ¬ (k : Int) < (len : Int) := by omega
      have hv : rv room trig len zs age = rh room trig len age := by simp [rv, allG_yes fun j hj => HA.out j (by have := HZ.out; omega)]
      have HV := hide hv
      clear hv
      by_cases r1 : 1 ≤ room ∧ room ≤ 16
      · obtain ⟨r1, r2⟩ := r1
        by_cases r3 : 1 ≤ trig ∧ trig ≤ room
        · obtain ⟨r3, r4⟩ := r3
          by_cases r5 : (len : Int) ≤ room
          · have d5 := hide (show rh room trig len age = (decide (0 ≤ age) && decide (age ≤ 99)) by simp [rh, r1, r2, r3, r4, r5])
            go_wp2_with (go_at_call 27; refine (l6In_any _ _ _ _).mono ?_; rintro e w' ⟨rfl, rfl⟩)
            go_ret
            exact ⟨ret_bool (by rw [HV.out, d5.out]), hb1⟩
          · have d5 := hide (show rh room trig len age = false by simp [rh]; omega)
            go_wp2_with (go_at_call 27; refine (l6In_any _ _ _ _).mono ?_; rintro e w' ⟨rfl, rfl⟩)
            go_ret
            exact ⟨ret_bool (by rw [HV.out, d5.out]), hb1⟩
        · have d3 : (decide (1 ≤ trig) && decide (trig ≤ room)) = false := by simp; omega
          have d3' := hide (show rh room trig len age = false by simp [rh]; omega)
          clear r3
          go_wp2_with (go_at_call 27; refine (l6In_any _ _ _ _).mono ?_; rintro e w' ⟨rfl, rfl⟩; try rw [d3])
          go_ret
          exact ⟨ret_bool (by rw [HV.out, d3'.out]), hb1⟩
      · have d1 : (decide (1 ≤ room) && decide (room ≤ 16)) = false := by simp; omega
        have d1' := hide (show rh room trig len age = false by simp [rh]; omega)
        clear r1
        go_wp2_with (go_at_call 27; refine (l6In_any _ _ _ _).mono ?_; rintro e w' ⟨rfl, rfl⟩; rw [d1])
        go_ret
        exact ⟨ret_bool (by rw [HV.out, d1'.out]), hb1⟩
end Go.Proofs.Ytnlclifdkhlcpaa
