/-
  Walks of the functions on a receiver's readiness and status. Each contract says what the function returns, and that nothing that was there has turned.
-/
import Derived.Test.YtnlclifdkhlcpaaRecv
namespace Go.Proofs.Ytnlclifdkhlcpaa
open Go.RowKit
set_option linter.unusedVariables false

def rdOf (room trig : Int) (len : Nat) (zs : List (Int × Int)) (age : Int) : Int := if rv room trig len zs age = false then 0 else if trig ≤ (len : Int) then 1 else if 0 < len ∧ 4 ≤ age then 2 else 0
def rcode (zs : List (Int × Int)) : Int := (zs.getD 0 (0, 0)).2
def rsOf (room trig : Int) (len : Nat) (zs : List (Int × Int)) (lost : Bool) (age : Int) : Int :=
  if rv room trig len zs age = false then -1 else (if lost then 2 else 0) + (if 0 < len then (1 + if rcode zs = 1 then 4 else if rcode zs = 2 then 8 else 0) else 0)
theorem rv_facts {room trig : Int} {len : Nat} {zs : List (Int × Int)} {age : Int} (h : rv room trig len zs age = true) : 1 ≤ room ∧ room ≤ 16 ∧ 1 ≤ trig ∧ trig ≤ room ∧ (len : Int) ≤ room ∧ 0 ≤ age ∧ age ≤ 99 ∧ allG zs = true := by
  simp only [rv, Bool.and_eq_true] at h
  have := h.1
  simp [rh] at this
  exact ⟨this.1, this.2.1, this.2.2.1, this.2.2.2.1, this.2.2.2.2.1, this.2.2.2.2.2.1, this.2.2.2.2.2.2, h.2⟩
theorem code_range {zs : List (Int × Int)} (h : allG zs = true) (hl : 0 < zs.length) : 0 ≤ rcode zs ∧ rcode zs ≤ 2 := by
  unfold allG at h
  rw [List.all_eq_true] at h
  have := h (zs.getD 0 (0, 0)) (by rw [List.getD_eq_getElem?_getD, List.getElem?_eq_getElem hl]; exact List.getElem_mem hl)
  simp [gv, isB] at this
  unfold rcode
  simp
  omega
set_option maxHeartbeats 1000000 in
theorem ird_any (room trig : Int) (a : Option Addr) (len cap : Nat) (zs : List (Int × Int)) (lost : Bool) (age : Int) (w : World) (h : Sg w a len cap zs) :
    Calls Try.prog 15 #[.agg (rcvV room trig a len cap lost age)] w fun e w' => e = .returned (.int .i64 (rdOf room trig len zs age)) ∧ Below w.heap.size w w' := by
  have hlc : (len : Int) ≤ 9223372036854775807 := by have := h.2.1; have := h.2.2.1; omega
  have HZ := hide h.1
  have B := hide ((Below.refl w.heap.size w).alloc (Nat.le_refl _) (.cells (rcvV room trig a len cap lost age) 25))
  have b0 := Bk.new w 25 (rcvV room trig a len cap lost age)
  have s0 := h.alloc (.cells (rcvV room trig a len cap lost age) 25)
  cases hv : rv room trig len zs age
  · have E := hide (show rdOf room trig len zs age = 0 by simp [rdOf, hv])
    have HV := hide hv
    clear hv
    go_enter Try.func15, Try.ntmps15
    go_wp2_with fail
    refine (irv_any _ _ _ _ _ zs _ _ _ s0).mono ?_
    rintro e w1 ⟨rfl, k1⟩
    rw [HV.out]
    have q1 := (b0.belowAll k1).cell
    have s1 := s0.below k1 (Nat.le_refl _)
    have B1 := hide (B.out.trans (k1.mono B.out.size))
    clear k1
    go_wp2
    go_ret
    exact ⟨ret_int (by rw [E.out]), B1.out⟩
  · obtain ⟨r1, r2, r3, r4, r5, r6, r7, _⟩ := rv_facts hv
    by_cases h1 : trig ≤ (len : Int)
    · have E := hide (show rdOf room trig len zs age = 1 by simp [rdOf, hv, h1])
      have hn0 : ((len : Int) == 0) = false := by simp; omega
      have HV := hide hv
      clear hv
      go_enter Try.func15, Try.ntmps15
      go_wp2_with fail
      refine (irv_any _ _ _ _ _ zs _ _ _ s0).mono ?_
      rintro e w1 ⟨rfl, k1⟩
      rw [HV.out]
      have q1 := (b0.belowAll k1).cell
      have s1 := s0.below k1 (Nat.le_refl _)
      have B1 := hide (B.out.trans (k1.mono B.out.size))
      clear k1
      go_wp2
      go_ret
      exact ⟨ret_int (by rw [E.out]), B1.out⟩
    · by_cases h2 : 0 < len
      · have hn0 : ((len : Int) == 0) = false := by simp; omega
        have hp : (0 : Int) < (len : Int) := by omega
        by_cases h3 : 4 ≤ age
        · have E := hide (show rdOf room trig len zs age = 2 by simp [rdOf, hv, h1, h2, h3])
          have HV := hide hv
          clear hv
          go_enter Try.func15, Try.ntmps15
          go_wp2_with fail
          refine (irv_any _ _ _ _ _ zs _ _ _ s0).mono ?_
          rintro e w1 ⟨rfl, k1⟩
          rw [HV.out]
          have q1 := (b0.belowAll k1).cell
          have s1 := s0.below k1 (Nat.le_refl _)
          have B1 := hide (B.out.trans (k1.mono B.out.size))
          clear k1
          go_wp2
          go_ret
          exact ⟨ret_int (by rw [E.out]), B1.out⟩
        · have E := hide (show rdOf room trig len zs age = 0 by simp [rdOf, hv, h1, h3])
          have HV := hide hv
          clear hv
          go_enter Try.func15, Try.ntmps15
          go_wp2_with fail
          refine (irv_any _ _ _ _ _ zs _ _ _ s0).mono ?_
          rintro e w1 ⟨rfl, k1⟩
          rw [HV.out]
          have q1 := (b0.belowAll k1).cell
          have s1 := s0.below k1 (Nat.le_refl _)
          have B1 := hide (B.out.trans (k1.mono B.out.size))
          clear k1
          go_wp2
          go_ret
          exact ⟨ret_int (by rw [E.out]), B1.out⟩
      · obtain rfl : len = 0 := by omega
        have E := hide (show rdOf room trig 0 zs age = 0 by simp [rdOf, hv]; omega)
        have HV := hide hv
        clear hv
        go_enter Try.func15, Try.ntmps15
        go_wp2_with fail
        refine (irv_any _ _ _ _ _ zs _ _ _ s0).mono ?_
        rintro e w1 ⟨rfl, k1⟩
        rw [HV.out]
        have q1 := (b0.belowAll k1).cell
        have s1 := s0.below k1 (Nat.le_refl _)
        have B1 := hide (B.out.trans (k1.mono B.out.size))
        clear k1
        go_wp2
        go_ret
        exact ⟨ret_int (by rw [E.out]), B1.out⟩
set_option maxHeartbeats 1000000 in
theorem srd_any (room trig : Int) (a : Option Addr) (len cap : Nat) (zs : List (Int × Int)) (lost : Bool) (age : Int) (w : World) (h : Sg w a len cap zs) :
    Calls Try.prog 16 #[.agg (rcvV room trig a len cap lost age)] w fun e w' => e = .returned (.int .i64 (rdOf room trig len zs age)) ∧ Below w.heap.size w w' := by
  have hlc : (len : Int) ≤ 9223372036854775807 := by have := h.2.1; have := h.2.2.1; omega
  have HZ := hide h.1
  have B := hide ((Below.refl w.heap.size w).alloc (Nat.le_refl _) (.cells (rcvV room trig a len cap lost age) 25))
  have b0 := Bk.new w 25 (rcvV room trig a len cap lost age)
  have s0 := h.alloc (.cells (rcvV room trig a len cap lost age) 25)
  cases hv : rv room trig len zs age
  · have E := hide (show rdOf room trig len zs age = 0 by simp [rdOf, hv])
    have HV := hide hv
    clear hv
    go_enter Try.func16, Try.ntmps16
    go_wp2_with fail
    refine (srv_any _ _ _ _ _ zs _ _ _ s0).mono ?_
    rintro e w1 ⟨rfl, k1⟩
    rw [HV.out]
    have q1 := (b0.belowAll k1).cell
    have s1 := s0.below k1 (Nat.le_refl _)
    have B1 := hide (B.out.trans (k1.mono B.out.size))
    clear k1
    go_wp2
    go_ret
    exact ⟨ret_int (by rw [E.out]), B1.out⟩
  · obtain ⟨r1, r2, r3, r4, r5, r6, r7, _⟩ := rv_facts hv
    by_cases h1 : trig ≤ (len : Int)
    · have E := hide (show rdOf room trig len zs age = 1 by simp [rdOf, hv, h1])
      have hn0 : ((len : Int) == 0) = false := by simp; omega
      have HV := hide hv
      clear hv
      go_enter Try.func16, Try.ntmps16
      go_wp2_with fail
      refine (srv_any _ _ _ _ _ zs _ _ _ s0).mono ?_
      rintro e w1 ⟨rfl, k1⟩
      rw [HV.out]
      have q1 := (b0.belowAll k1).cell
      have s1 := s0.below k1 (Nat.le_refl _)
      have B1 := hide (B.out.trans (k1.mono B.out.size))
      clear k1
      go_wp2
      go_ret
      exact ⟨ret_int (by rw [E.out]), B1.out⟩
    · by_cases h2 : 0 < len
      · have hn0 : ((len : Int) == 0) = false := by simp; omega
        have hp : (0 : Int) < (len : Int) := by omega
        by_cases h3 : 4 ≤ age
        · have E := hide (show rdOf room trig len zs age = 2 by simp [rdOf, hv, h1, h2, h3])
          have HV := hide hv
          clear hv
          go_enter Try.func16, Try.ntmps16
          go_wp2_with fail
          refine (srv_any _ _ _ _ _ zs _ _ _ s0).mono ?_
          rintro e w1 ⟨rfl, k1⟩
          rw [HV.out]
          have q1 := (b0.belowAll k1).cell
          have s1 := s0.below k1 (Nat.le_refl _)
          have B1 := hide (B.out.trans (k1.mono B.out.size))
          clear k1
          go_wp2
          go_ret
          exact ⟨ret_int (by rw [E.out]), B1.out⟩
        · have E := hide (show rdOf room trig len zs age = 0 by simp [rdOf, hv, h1, h3])
          have HV := hide hv
          clear hv
          go_enter Try.func16, Try.ntmps16
          go_wp2_with fail
          refine (srv_any _ _ _ _ _ zs _ _ _ s0).mono ?_
          rintro e w1 ⟨rfl, k1⟩
          rw [HV.out]
          have q1 := (b0.belowAll k1).cell
          have s1 := s0.below k1 (Nat.le_refl _)
          have B1 := hide (B.out.trans (k1.mono B.out.size))
          clear k1
          go_wp2
          go_ret
          exact ⟨ret_int (by rw [E.out]), B1.out⟩
      · obtain rfl : len = 0 := by omega
        have E := hide (show rdOf room trig 0 zs age = 0 by simp [rdOf, hv]; omega)
        have HV := hide hv
        clear hv
        go_enter Try.func16, Try.ntmps16
        go_wp2_with fail
        refine (srv_any _ _ _ _ _ zs _ _ _ s0).mono ?_
        rintro e w1 ⟨rfl, k1⟩
        rw [HV.out]
        have q1 := (b0.belowAll k1).cell
        have s1 := s0.below k1 (Nat.le_refl _)
        have B1 := hide (B.out.trans (k1.mono B.out.size))
        clear k1
        go_wp2
        go_ret
        exact ⟨ret_int (by rw [E.out]), B1.out⟩
set_option maxHeartbeats 1000000 in
theorem irs_any (room trig : Int) (a : Option Addr) (len cap : Nat) (zs : List (Int × Int)) (lost : Bool) (age : Int) (w : World) (h : Sg w a len cap zs) :
    Calls Try.prog 21 #[.agg (rcvV room trig a len cap lost age)] w fun e w' => e = .returned (.int .i64 (rsOf room trig len zs lost age)) ∧ Below w.heap.size w w' := by
  have hlc : (len : Int) ≤ 9223372036854775807 := by have := h.2.1; have := h.2.2.1; omega
  have HZ := hide h.1
  have B := hide ((Below.refl w.heap.size w).alloc (Nat.le_refl _) (.cells (rcvV room trig a len cap lost age) 25))
  have b0 := Bk.new w 25 (rcvV room trig a len cap lost age)
  have s0 := h.alloc (.cells (rcvV room trig a len cap lost age) 25)
  cases hv : rv room trig len zs age
  · have E := hide (show rsOf room trig len zs lost age = -1 by simp [rsOf, hv])
    have HV := hide hv
    clear hv
    go_enter Try.func21, Try.ntmps21
    go_wp2_with fail
    refine (irv_any _ _ _ _ _ zs _ _ _ s0).mono ?_
    rintro e w1 ⟨rfl, k1⟩
    rw [HV.out]
    have q1 := (b0.belowAll k1).cell
    have s1 := s0.below k1 (Nat.le_refl _)
    have B1 := hide (B.out.trans (k1.mono B.out.size))
    clear k1
    go_wp2
    go_ret
    exact ⟨ret_int (by rw [E.out]), B1.out⟩
  · obtain ⟨r1, r2, r3, r4, r5, r6, r7, r8⟩ := rv_facts hv
    by_cases h2 : 0 < len
    · have hn0 : ((len : Int) == 0) = false := by simp; omega
      have hp : (0 : Int) < (len : Int) := by omega
      obtain ⟨x0, x1⟩ := code_range r8 (by have := HZ.out; omega)
      have HP := hide h2
      obtain hx | hx | hx : rcode zs = 0 ∨ rcode zs = 1 ∨ rcode zs = 2 := by omega
      · have E := hide (show rsOf room trig len zs lost age = (if lost then 2 else 0) + 1 by simp [rsOf, hv, h2, hx])
        have HX := hide hx
        clear hx x0 x1 h2
        cases lost
        · have HV := hide hv
          clear hv
          go_enter Try.func21, Try.ntmps21
          go_wp2_with fail
          refine (irv_any _ _ _ _ _ zs _ _ _ s0).mono ?_
          rintro e w1 ⟨rfl, k1⟩
          rw [HV.out]
          have q1 := (b0.belowAll k1).cell
          have s1 := s0.below k1 (Nat.le_refl _)
          have B1 := hide (B.out.trans (k1.mono B.out.size))
          clear k1
          obtain ⟨b, o, rfl, _, c2⟩ := s1.at_ HP.out
          have c3 : w1.cell? ⟨b, o + 1, none⟩ = some (.int .i64 0) := by rw [← HX.out]; simpa [rcode] using c2
          clear c2
          go_wp2
          go_ret
          exact ⟨ret_int (by rw [E.out]; simp), B1.out⟩
        · have HV := hide hv
          clear hv
          go_enter Try.func21, Try.ntmps21
          go_wp2_with fail
          refine (irv_any _ _ _ _ _ zs _ _ _ s0).mono ?_
          rintro e w1 ⟨rfl, k1⟩
          rw [HV.out]
          have q1 := (b0.belowAll k1).cell
          have s1 := s0.below k1 (Nat.le_refl _)
          have B1 := hide (B.out.trans (k1.mono B.out.size))
          clear k1
          obtain ⟨b, o, rfl, _, c2⟩ := s1.at_ HP.out
          have c3 : w1.cell? ⟨b, o + 1, none⟩ = some (.int .i64 0) := by rw [← HX.out]; simpa [rcode] using c2
          clear c2
          go_wp2
          go_ret
          exact ⟨ret_int (by rw [E.out]; simp), B1.out⟩
      · have E := hide (show rsOf room trig len zs lost age = (if lost then 2 else 0) + 5 by simp [rsOf, hv, h2, hx])
        have HX := hide hx
        clear hx x0 x1 h2
        cases lost
        · have HV := hide hv
          clear hv
          go_enter Try.func21, Try.ntmps21
          go_wp2_with fail
          refine (irv_any _ _ _ _ _ zs _ _ _ s0).mono ?_
          rintro e w1 ⟨rfl, k1⟩
          rw [HV.out]
          have q1 := (b0.belowAll k1).cell
          have s1 := s0.below k1 (Nat.le_refl _)
          have B1 := hide (B.out.trans (k1.mono B.out.size))
          clear k1
          obtain ⟨b, o, rfl, _, c2⟩ := s1.at_ HP.out
          have c3 : w1.cell? ⟨b, o + 1, none⟩ = some (.int .i64 1) := by rw [← HX.out]; simpa [rcode] using c2
          clear c2
          go_wp2
          go_ret
          exact ⟨ret_int (by rw [E.out]; simp), B1.out⟩
        · have HV := hide hv
          clear hv
          go_enter Try.func21, Try.ntmps21
          go_wp2_with fail
          refine (irv_any _ _ _ _ _ zs _ _ _ s0).mono ?_
          rintro e w1 ⟨rfl, k1⟩
          rw [HV.out]
          have q1 := (b0.belowAll k1).cell
          have s1 := s0.below k1 (Nat.le_refl _)
          have B1 := hide (B.out.trans (k1.mono B.out.size))
          clear k1
          obtain ⟨b, o, rfl, _, c2⟩ := s1.at_ HP.out
          have c3 : w1.cell? ⟨b, o + 1, none⟩ = some (.int .i64 1) := by rw [← HX.out]; simpa [rcode] using c2
          clear c2
          go_wp2
          go_ret
          exact ⟨ret_int (by rw [E.out]; simp), B1.out⟩
      · have E := hide (show rsOf room trig len zs lost age = (if lost then 2 else 0) + 9 by simp [rsOf, hv, h2, hx])
        have HX := hide hx
        clear hx x0 x1 h2
        cases lost
        · have HV := hide hv
          clear hv
          go_enter Try.func21, Try.ntmps21
          go_wp2_with fail
          refine (irv_any _ _ _ _ _ zs _ _ _ s0).mono ?_
          rintro e w1 ⟨rfl, k1⟩
          rw [HV.out]
          have q1 := (b0.belowAll k1).cell
          have s1 := s0.below k1 (Nat.le_refl _)
          have B1 := hide (B.out.trans (k1.mono B.out.size))
          clear k1
          obtain ⟨b, o, rfl, _, c2⟩ := s1.at_ HP.out
          have c3 : w1.cell? ⟨b, o + 1, none⟩ = some (.int .i64 2) := by rw [← HX.out]; simpa [rcode] using c2
          clear c2
          go_wp2
          go_ret
          exact ⟨ret_int (by rw [E.out]; simp), B1.out⟩
        · have HV := hide hv
          clear hv
          go_enter Try.func21, Try.ntmps21
          go_wp2_with fail
          refine (irv_any _ _ _ _ _ zs _ _ _ s0).mono ?_
          rintro e w1 ⟨rfl, k1⟩
          rw [HV.out]
          have q1 := (b0.belowAll k1).cell
          have s1 := s0.below k1 (Nat.le_refl _)
          have B1 := hide (B.out.trans (k1.mono B.out.size))
          clear k1
          obtain ⟨b, o, rfl, _, c2⟩ := s1.at_ HP.out
          have c3 : w1.cell? ⟨b, o + 1, none⟩ = some (.int .i64 2) := by rw [← HX.out]; simpa [rcode] using c2
          clear c2
          go_wp2
          go_ret
          exact ⟨ret_int (by rw [E.out]; simp), B1.out⟩
    · obtain rfl : len = 0 := by omega
      have E := hide (show rsOf room trig 0 zs lost age = (if lost then 2 else 0) by simp [rsOf, hv])
      cases lost
      · have HV := hide hv
        clear hv
        go_enter Try.func21, Try.ntmps21
        go_wp2_with fail
        refine (irv_any _ _ _ _ _ zs _ _ _ s0).mono ?_
        rintro e w1 ⟨rfl, k1⟩
        rw [HV.out]
        have q1 := (b0.belowAll k1).cell
        have s1 := s0.below k1 (Nat.le_refl _)
        have B1 := hide (B.out.trans (k1.mono B.out.size))
        clear k1
        go_wp2
        go_ret
        exact ⟨ret_int (by rw [E.out]; simp), B1.out⟩
      · have HV := hide hv
        clear hv
        go_enter Try.func21, Try.ntmps21
        go_wp2_with fail
        refine (irv_any _ _ _ _ _ zs _ _ _ s0).mono ?_
        rintro e w1 ⟨rfl, k1⟩
        rw [HV.out]
        have q1 := (b0.belowAll k1).cell
        have s1 := s0.below k1 (Nat.le_refl _)
        have B1 := hide (B.out.trans (k1.mono B.out.size))
        clear k1
        go_wp2
        go_ret
        exact ⟨ret_int (by rw [E.out]; simp), B1.out⟩
set_option maxHeartbeats 1000000 in
theorem srs_any (room trig : Int) (a : Option Addr) (len cap : Nat) (zs : List (Int × Int)) (lost : Bool) (age : Int) (w : World) (h : Sg w a len cap zs) :
    Calls Try.prog 22 #[.agg (rcvV room trig a len cap lost age)] w fun e w' => e = .returned (.int .i64 (rsOf room trig len zs lost age)) ∧ Below w.heap.size w w' := by
  have hlc : (len : Int) ≤ 9223372036854775807 := by have := h.2.1; have := h.2.2.1; omega
  have HZ := hide h.1
  have B := hide ((Below.refl w.heap.size w).alloc (Nat.le_refl _) (.cells (rcvV room trig a len cap lost age) 25))
  have b0 := Bk.new w 25 (rcvV room trig a len cap lost age)
  have s0 := h.alloc (.cells (rcvV room trig a len cap lost age) 25)
  cases hv : rv room trig len zs age
  · have E := hide (show rsOf room trig len zs lost age = -1 by simp [rsOf, hv])
    have HV := hide hv
    clear hv
    go_enter Try.func22, Try.ntmps22
    go_wp2_with fail
    refine (srv_any _ _ _ _ _ zs _ _ _ s0).mono ?_
    rintro e w1 ⟨rfl, k1⟩
    rw [HV.out]
    have q1 := (b0.belowAll k1).cell
    have s1 := s0.below k1 (Nat.le_refl _)
    have B1 := hide (B.out.trans (k1.mono B.out.size))
    clear k1
    go_wp2
    go_ret
    exact ⟨ret_int (by rw [E.out]), B1.out⟩
  · obtain ⟨r1, r2, r3, r4, r5, r6, r7, r8⟩ := rv_facts hv
    by_cases h2 : 0 < len
    · have hn0 : ((len : Int) == 0) = false := by simp; omega
      have hp : (0 : Int) < (len : Int) := by omega
      obtain ⟨x0, x1⟩ := code_range r8 (by have := HZ.out; omega)
      have HP := hide h2
      obtain hx | hx | hx : rcode zs = 0 ∨ rcode zs = 1 ∨ rcode zs = 2 := by omega
      · have E := hide (show rsOf room trig len zs lost age = (if lost then 2 else 0) + 1 by simp [rsOf, hv, h2, hx])
        have HX := hide hx
        clear hx x0 x1 h2
        cases lost
        · have HV := hide hv
          clear hv
          go_enter Try.func22, Try.ntmps22
          go_wp2_with fail
          refine (srv_any _ _ _ _ _ zs _ _ _ s0).mono ?_
          rintro e w1 ⟨rfl, k1⟩
          rw [HV.out]
          have q1 := (b0.belowAll k1).cell
          have s1 := s0.below k1 (Nat.le_refl _)
          have B1 := hide (B.out.trans (k1.mono B.out.size))
          clear k1
          obtain ⟨b, o, rfl, _, c2⟩ := s1.at_ HP.out
          have c3 : w1.cell? ⟨b, o + 1, none⟩ = some (.int .i64 0) := by rw [← HX.out]; simpa [rcode] using c2
          clear c2
          go_wp2
          go_ret
          exact ⟨ret_int (by rw [E.out]; simp), B1.out⟩
        · have HV := hide hv
          clear hv
          go_enter Try.func22, Try.ntmps22
          go_wp2_with fail
          refine (srv_any _ _ _ _ _ zs _ _ _ s0).mono ?_
          rintro e w1 ⟨rfl, k1⟩
          rw [HV.out]
          have q1 := (b0.belowAll k1).cell
          have s1 := s0.below k1 (Nat.le_refl _)
          have B1 := hide (B.out.trans (k1.mono B.out.size))
          clear k1
          obtain ⟨b, o, rfl, _, c2⟩ := s1.at_ HP.out
          have c3 : w1.cell? ⟨b, o + 1, none⟩ = some (.int .i64 0) := by rw [← HX.out]; simpa [rcode] using c2
          clear c2
          go_wp2
          go_ret
          exact ⟨ret_int (by rw [E.out]; simp), B1.out⟩
      · have E := hide (show rsOf room trig len zs lost age = (if lost then 2 else 0) + 5 by simp [rsOf, hv, h2, hx])
        have HX := hide hx
        clear hx x0 x1 h2
        cases lost
        · have HV := hide hv
          clear hv
          go_enter Try.func22, Try.ntmps22
          go_wp2_with fail
          refine (srv_any _ _ _ _ _ zs _ _ _ s0).mono ?_
          rintro e w1 ⟨rfl, k1⟩
          rw [HV.out]
          have q1 := (b0.belowAll k1).cell
          have s1 := s0.below k1 (Nat.le_refl _)
          have B1 := hide (B.out.trans (k1.mono B.out.size))
          clear k1
          obtain ⟨b, o, rfl, _, c2⟩ := s1.at_ HP.out
          have c3 : w1.cell? ⟨b, o + 1, none⟩ = some (.int .i64 1) := by rw [← HX.out]; simpa [rcode] using c2
          clear c2
          go_wp2
          go_ret
          exact ⟨ret_int (by rw [E.out]; simp), B1.out⟩
        · have HV := hide hv
          clear hv
          go_enter Try.func22, Try.ntmps22
          go_wp2_with fail
          refine (srv_any _ _ _ _ _ zs _ _ _ s0).mono ?_
          rintro e w1 ⟨rfl, k1⟩
          rw [HV.out]
          have q1 := (b0.belowAll k1).cell
          have s1 := s0.below k1 (Nat.le_refl _)
          have B1 := hide (B.out.trans (k1.mono B.out.size))
          clear k1
          obtain ⟨b, o, rfl, _, c2⟩ := s1.at_ HP.out
          have c3 : w1.cell? ⟨b, o + 1, none⟩ = some (.int .i64 1) := by rw [← HX.out]; simpa [rcode] using c2
          clear c2
          go_wp2
          go_ret
          exact ⟨ret_int (by rw [E.out]; simp), B1.out⟩
      · have E := hide (show rsOf room trig len zs lost age = (if lost then 2 else 0) + 9 by simp [rsOf, hv, h2, hx])
        have HX := hide hx
        clear hx x0 x1 h2
        cases lost
        · have HV := hide hv
          clear hv
          go_enter Try.func22, Try.ntmps22
          go_wp2_with fail
          refine (srv_any _ _ _ _ _ zs _ _ _ s0).mono ?_
          rintro e w1 ⟨rfl, k1⟩
          rw [HV.out]
          have q1 := (b0.belowAll k1).cell
          have s1 := s0.below k1 (Nat.le_refl _)
          have B1 := hide (B.out.trans (k1.mono B.out.size))
          clear k1
          obtain ⟨b, o, rfl, _, c2⟩ := s1.at_ HP.out
          have c3 : w1.cell? ⟨b, o + 1, none⟩ = some (.int .i64 2) := by rw [← HX.out]; simpa [rcode] using c2
          clear c2
          go_wp2
          go_ret
          exact ⟨ret_int (by rw [E.out]; simp), B1.out⟩
        · have HV := hide hv
          clear hv
          go_enter Try.func22, Try.ntmps22
          go_wp2_with fail
          refine (srv_any _ _ _ _ _ zs _ _ _ s0).mono ?_
          rintro e w1 ⟨rfl, k1⟩
          rw [HV.out]
          have q1 := (b0.belowAll k1).cell
          have s1 := s0.below k1 (Nat.le_refl _)
          have B1 := hide (B.out.trans (k1.mono B.out.size))
          clear k1
          obtain ⟨b, o, rfl, _, c2⟩ := s1.at_ HP.out
          have c3 : w1.cell? ⟨b, o + 1, none⟩ = some (.int .i64 2) := by rw [← HX.out]; simpa [rcode] using c2
          clear c2
          go_wp2
          go_ret
          exact ⟨ret_int (by rw [E.out]; simp), B1.out⟩
    · obtain rfl : len = 0 := by omega
      have E := hide (show rsOf room trig 0 zs lost age = (if lost then 2 else 0) by simp [rsOf, hv])
      cases lost
      · have HV := hide hv
        clear hv
        go_enter Try.func22, Try.ntmps22
        go_wp2_with fail
        refine (srv_any _ _ _ _ _ zs _ _ _ s0).mono ?_
        rintro e w1 ⟨rfl, k1⟩
        rw [HV.out]
        have q1 := (b0.belowAll k1).cell
        have s1 := s0.below k1 (Nat.le_refl _)
        have B1 := hide (B.out.trans (k1.mono B.out.size))
        clear k1
        go_wp2
        go_ret
        exact ⟨ret_int (by rw [E.out]; simp), B1.out⟩
      · have HV := hide hv
        clear hv
        go_enter Try.func22, Try.ntmps22
        go_wp2_with fail
        refine (srv_any _ _ _ _ _ zs _ _ _ s0).mono ?_
        rintro e w1 ⟨rfl, k1⟩
        rw [HV.out]
        have q1 := (b0.belowAll k1).cell
        have s1 := s0.below k1 (Nat.le_refl _)
        have B1 := hide (B.out.trans (k1.mono B.out.size))
        clear k1
        go_wp2
        go_ret
        exact ⟨ret_int (by rw [E.out]; simp), B1.out⟩
end Go.Proofs.Ytnlclifdkhlcpaa
