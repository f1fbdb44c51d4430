/-
  The walks of the laws on drawn numbers: rates, triggers, ranks, lengths. Each law returns true for every code and turns nothing that was there.
-/
import Derived.Test.YtpgbagclcapmmaaFmt
import Derived.Test.YtpgbagclcapmmaaDrawF
import Derived.Test.YtpgbagclcapmmaaDrawN
import Derived.Test.YtpgbagclcapmmaaIrq
import Derived.Deep.RegionHeld3
namespace Go.Proofs.Ytpgbagclcapmmaa
open Go.RowKit
set_option linter.unusedVariables false

theorem IsRow.len {k : IntKind} {w : World} {a : Option Addr} {len cap : Nat} {zs : List Int} (h : IsRow k w a len cap zs) : (len : Int) ≤ 9223372036854775807 := by
  rcases h with ⟨_, rfl, _, _⟩ | ⟨x, _, hlc, hm, _⟩
  · omega
  · unfold maxLen at hm; omega

theorem dv_facts {r : Int} (h : dvOk r = true) : 1 ≤ dvOf r ∧ dvOf r ≤ 2304 ∧ 2 * dvOf r * r ≤ 230399 + r ∧ 230399 + r < 2 * dvOf r * r + 2 * r := by
  have hr : 50 ≤ r ∧ r ≤ 115200 := by simpa [dvOk] using h
  have e : dvOf r = (230399 + r) / (2 * r) := by simp [dvOf, hr]
  have h1 := Int.ediv_mul_le (230399 + r) (show 2 * r ≠ 0 by omega)
  have h2 := Int.lt_ediv_add_one_mul_self (230399 + r) (show 0 < 2 * r by omega)
  rw [← e] at h1 h2
  have e1 : dvOf r * (2 * r) = 2 * dvOf r * r := by rw [Int.mul_left_comm, Int.mul_assoc]
  have e2 : (dvOf r + 1) * (2 * r) = 2 * dvOf r * r + 2 * r := by rw [Int.add_mul, e1]; omega
  rw [e1] at h1
  rw [e2] at h2
  refine ⟨?_, ?_, h1, h2⟩
  · rw [e, Int.le_ediv_iff_mul_le (by omega)]; omega
  · rw [e]
    have : (230399 + r) / (2 * r) < 2305 := (Int.ediv_lt_iff_lt_mul (by omega)).2 (by omega)
    omega
theorem dv_less {r : Int} (h : dvOk r = true) (h' : dvOk (r + 1) = true) : dvOf (r + 1) ≤ dvOf r := by
  have hr : 50 ≤ r ∧ r ≤ 115200 := by simpa [dvOk] using h
  have hr' : 50 ≤ r + 1 ∧ r + 1 ≤ 115200 := by simpa [dvOk] using h'
  have f := dv_facts h'
  have e : dvOf r = (230399 + r) / (2 * r) := by simp [dvOf, hr]
  rw [e, Int.le_ediv_iff_mul_le (by omega)]
  have e1 : dvOf (r + 1) * (2 * r) = 2 * dvOf (r + 1) * r := by rw [Int.mul_left_comm, Int.mul_assoc]
  have e2 : 2 * dvOf (r + 1) * (r + 1) = 2 * dvOf (r + 1) * r + 2 * dvOf (r + 1) := by rw [Int.mul_add, Int.mul_one]
  omega

theorem rk_facts {q : Int} (h : knows q = true) : 0 ≤ rkOf q ∧ rkOf q ≤ 5 ∧ ((6 : Int) == q) = ((0 : Int) == rkOf q) ∧ ((4 : Int) == q) = ((1 : Int) == rkOf q) ∧ ((12 : Int) == q) = ((2 : Int) == rkOf q) ∧
    ((2 : Int) == q) = ((3 : Int) == rkOf q) ∧ ((0 : Int) == q) = ((4 : Int) == rkOf q) ∧ ((1 : Int) == q) = ((5 : Int) == rkOf q) := by
  rcases irq_cases q with rfl | rfl | rfl | rfl | rfl | rfl | h'
  iterate 6 decide
  rw [(irq_none h').2.2] at h
  cases h

theorem fnTriggerNone_walk (a : Option Addr) (len cap : Nat) (zs : List Int) (w : World) (h : IsRow .u8 w a len cap zs) :
    Calls Try.prog 3 #[.slice a len cap] w fun e w' => e = .returned (.bool true) ∧ Below w.heap.size w w' := by
  have hl := h.len
  by_cases hbig : (1048576 : Int) < (len : Int)
  · go_enter Try.func3, Try.ntmps3
    go_wp2
    go_ret
    exact ⟨rfl, Below.refl _ _⟩
  · go_enter Try.func3, Try.ntmps3
    go_wp2_with fail
    refine (dDrawTriggerCode_any a len cap zs _ h).mono ?_
    rintro e w1 ⟨m, rfl, hm0, hm1, k1⟩
    go_wp2_with fail
    refine (itc_any _ _).mono ?_
    rintro e w2 ⟨rfl, k2⟩
    go_wp2_with fail
    refine (stc_any _ _).mono ?_
    rintro e w3 ⟨rfl, k3⟩
    have K := hide ((k1.trans (k2.mono k1.size)).trans (k3.mono (Nat.le_trans k1.size k2.size)))
    clear k1 k2 k3
    rcases tr_cases m with ⟨_, e⟩ | ⟨_, _, e⟩ | ⟨_, _, e⟩ | ⟨_, _, e⟩ | ⟨_, e⟩
    all_goals
      rw [e]
      clear e
      go_wp2
      go_ret
      exact ⟨by simp <;> omega, K.out⟩

theorem fnDivisor_walk (a : Option Addr) (len cap : Nat) (zs : List Int) (w : World) (h : IsRow .u8 w a len cap zs) :
    Calls Try.prog 4 #[.slice a len cap] w fun e w' => e = .returned (.bool true) ∧ Below w.heap.size w w' := by
  have hl := h.len
  by_cases hbig : (1048576 : Int) < (len : Int)
  · go_enter Try.func4, Try.ntmps4
    go_wp2
    go_ret
    exact ⟨rfl, Below.refl _ _⟩
  · go_enter Try.func4, Try.ntmps4
    go_wp2_with fail
    refine (dDrawDivisorFor_any a len cap zs _ h).mono ?_
    rintro e w1 ⟨r, rfl, hr0, hr1, k1⟩
    go_wp2_with fail
    refine (idv_any _ _).mono ?_
    rintro e w2 ⟨rfl, rfl⟩
    go_wp2_with fail
    refine (sdv_any _ _).mono ?_
    rintro e w2 ⟨rfl, rfl⟩
    have K := hide k1
    clear k1
    cases hv : dvOk r
    · go_wp2
      go_ret
      exact ⟨rfl, K.out⟩
    · obtain ⟨f1, f2, f3, f4⟩ := dv_facts hv
      have hr : 50 ≤ r ∧ r ≤ 115200 := by simpa [dvOk] using hv
      obtain ⟨hr2, hr3⟩ := hr
      generalize dvOf r = d at *
      have p0 : 0 ≤ 2 * d * r := Int.mul_nonneg (by omega) (by omega)
      go_wp2
      go_ret
      exact ⟨by simp <;> omega, K.out⟩

theorem fnDivisorLess_walk (a : Option Addr) (len cap : Nat) (zs : List Int) (w : World) (h : IsRow .u8 w a len cap zs) :
    Calls Try.prog 5 #[.slice a len cap] w fun e w' => e = .returned (.bool true) ∧ Below w.heap.size w w' := by
  have hl := h.len
  by_cases hbig : (1048576 : Int) < (len : Int)
  · go_enter Try.func5, Try.ntmps5
    go_wp2
    go_ret
    exact ⟨rfl, Below.refl _ _⟩
  · go_enter Try.func5, Try.ntmps5
    go_wp2_with fail
    refine (dDrawDivisorFor_any a len cap zs _ h).mono ?_
    rintro e w1 ⟨r, rfl, hr0, hr1, k1⟩
    go_wp2_with fail
    refine (idv_any _ _).mono ?_
    rintro e w2 ⟨rfl, rfl⟩
    go_wp2_with fail
    refine (sdv_any _ _).mono ?_
    rintro e w2 ⟨rfl, rfl⟩
    have K := hide k1
    clear k1
    cases hv : dvOk r
    · go_wp2
      go_ret
      exact ⟨rfl, K.out⟩
    · by_cases hr : r = 115200
      · subst hr
        go_wp2
        go_ret
        exact ⟨rfl, K.out⟩
      · have hr' : (r == 115200) = false := by simpa using hr
        have hv' : dvOk (r + 1) = true := by simp [dvOk] at hv ⊢; omega
        have L := dv_less hv hv'
        have HV' := hide hv'
        clear hr hv'
        go_wp2_with fail
        refine (idv_any _ _).mono ?_
        rintro e w2 ⟨rfl, rfl⟩
        rw [HV'.out]
        go_wp2
        go_ret
        exact ⟨rfl, K.out⟩

theorem fnTriggerCode_walk (a : Option Addr) (len cap : Nat) (zs : List Int) (w : World) (h : IsRow .u8 w a len cap zs) :
    Calls Try.prog 6 #[.slice a len cap] w fun e w' => e = .returned (.bool true) ∧ Below w.heap.size w w' := by
  have hl := h.len
  by_cases hbig : (1048576 : Int) < (len : Int)
  · go_enter Try.func6, Try.ntmps6
    go_wp2
    go_ret
    exact ⟨rfl, Below.refl _ _⟩
  · go_enter Try.func6, Try.ntmps6
    go_wp2_with fail
    refine (dDrawTriggerCode_any a len cap zs _ h).mono ?_
    rintro e w1 ⟨m, rfl, hm0, hm1, k1⟩
    go_wp2_with fail
    refine (itc_any _ _).mono ?_
    rintro e w2 ⟨rfl, k2⟩
    go_wp2_with fail
    refine (stc_any _ _).mono ?_
    rintro e w3 ⟨rfl, k3⟩
    have K := hide ((k1.trans (k2.mono k1.size)).trans (k3.mono (Nat.le_trans k1.size k2.size)))
    clear k1 k2 k3
    rcases tr_cases m with ⟨_, e⟩ | ⟨_, _, e⟩ | ⟨_, _, e⟩ | ⟨_, _, e⟩ | ⟨_, e⟩
    · rw [e]
      clear e
      go_wp2
      go_ret
      exact ⟨rfl, K.out⟩
    all_goals
      rw [e]
      clear e
      go_wp2_with fail
      refine (itr_any _ _).mono ?_
      rintro e w4 ⟨rfl, k4⟩
      have K := hide (K.out.trans (k4.mono K.out.size))
      clear k4
      go_wp2_with fail
      refine (itr_any _ _).mono ?_
      rintro e w5 ⟨rfl, k5⟩
      have K := hide (K.out.trans (k5.mono K.out.size))
      clear k5
      simp only [trOf]
      go_wp2
      go_ret
      exact ⟨rfl, K.out⟩

theorem fnTrigger_walk (a : Option Addr) (len cap : Nat) (zs : List Int) (w : World) (h : IsRow .u8 w a len cap zs) :
    Calls Try.prog 7 #[.slice a len cap] w fun e w' => e = .returned (.bool true) ∧ Below w.heap.size w w' := by
  have hl := h.len
  by_cases hbig : (1048576 : Int) < (len : Int)
  · go_enter Try.func7, Try.ntmps7
    go_wp2
    go_ret
    exact ⟨rfl, Below.refl _ _⟩
  · go_enter Try.func7, Try.ntmps7
    go_wp2_with fail
    refine (dDrawTriggerOf_any a len cap zs _ h).mono ?_
    rintro e w1 ⟨c, rfl, hm0, hm1, k1⟩
    go_wp2_with fail
    refine (itr_any _ _).mono ?_
    rintro e w2 ⟨rfl, k2⟩
    go_wp2_with fail
    refine (str_any _ _).mono ?_
    rintro e w3 ⟨rfl, k3⟩
    have K := hide ((k1.trans (k2.mono k1.size)).trans (k3.mono (Nat.le_trans k1.size k2.size)))
    clear k1 k2 k3
    obtain rfl | rfl | rfl | rfl | hc : c = 0 ∨ c = 1 ∨ c = 2 ∨ c = 3 ∨ (c < 0 ∨ 3 < c) := by omega
    rotate_right
    · have e : trOf c = -1 := by
        unfold trOf
        rw [if_neg (by omega), if_neg (by omega), if_neg (by omega), if_neg (by omega)]
      rw [e]
      clear e hc
      go_wp2
      go_ret
      exact ⟨rfl, K.out⟩
    all_goals
      simp only [trOf]
      go_wp2_with fail
      refine (itc_any _ _).mono ?_
      rintro e w4 ⟨rfl, k4⟩
      have K := hide (K.out.trans (k4.mono K.out.size))
      clear k4
      go_wp2_with fail
      refine (itc_any _ _).mono ?_
      rintro e w5 ⟨rfl, k5⟩
      have K := hide (K.out.trans (k5.mono K.out.size))
      clear k5
      simp only [trCode]
      go_wp2
      go_ret
      exact ⟨rfl, K.out⟩

theorem fnIrqBit_walk (a : Option Addr) (len cap : Nat) (zs : List Int) (w : World) (h : IsRow .u8 w a len cap zs) :
    Calls Try.prog 9 #[.slice a len cap] w fun e w' => e = .returned (.bool true) ∧ Below w.heap.size w w' := by
  have hl := h.len
  by_cases hbig : (1048576 : Int) < (len : Int)
  · go_enter Try.func9, Try.ntmps9
    go_wp2
    go_ret
    exact ⟨rfl, Below.refl _ _⟩
  · go_enter Try.func9, Try.ntmps9
    go_wp2_with fail
    refine (dDrawIrqBit_any a len cap zs _ h).mono ?_
    rintro e w1 ⟨q, rfl, hm0, hm1, k1⟩
    go_wp2_with fail
    refine (ibit_any _ _).mono ?_
    rintro e w2 ⟨rfl, k2⟩
    go_wp2_with fail
    refine (sbit_any _ _).mono ?_
    rintro e w3 ⟨rfl, rfl⟩
    have K := hide (k1.trans (k2.mono k1.size))
    clear k1 k2
    go_wp2_with fail
    refine (irank_any _ _).mono ?_
    rintro e w3 ⟨rfl, k3⟩
    have K := hide (K.out.trans (k3.mono K.out.size))
    clear k3
    rcases irq_cases q with rfl | rfl | rfl | rfl | rfl | rfl | h'
    rotate_right
    · rw [(irq_none h').1, (irq_none h').2.1]
      clear h'
      go_wp2
      go_ret
      exact ⟨rfl, K.out⟩
    all_goals
      simp only [rkOf, bitOf]
      go_wp2
      go_ret
      exact ⟨rfl, K.out⟩

theorem fnLength_walk (a : Option Addr) (len cap : Nat) (zs : List Int) (w : World) (h : IsRow .u8 w a len cap zs) :
    Calls Try.prog 10 #[.slice a len cap] w fun e w' => e = .returned (.bool true) ∧ Below w.heap.size w w' := by
  have hl := h.len
  by_cases hbig : (1048576 : Int) < (len : Int)
  · go_enter Try.func10, Try.ntmps10
    go_wp2
    go_ret
    exact ⟨rfl, Below.refl _ _⟩
  · go_enter Try.func10, Try.ntmps10
    go_wp2_with fail
    refine (dDrawFrameLength_any a len cap zs _ h).mono ?_
    rintro e w1 ⟨x, y, z, rfl, hx, k1⟩
    go_wp2_with fail
    refine (ifl_any _ _ _ _).mono ?_
    rintro e w2 ⟨rfl, k2⟩
    have b2 : Bk w2 w1.heap.size 30 _ := (Bk.new w1 30 _).belowAll k2
    have q2 := b2.cell
    go_wp2_with fail
    refine (sfl_any _ _ _ _).mono ?_
    rintro e w3 ⟨rfl, k3⟩
    clear q2
    have b3 := b2.belowAll k3
    have q3 := b3.cell
    have K := hide ((k1.trans (((Below.refl w1.heap.size w1).alloc (Nat.le_refl _) _).mono k1.size)).trans ((k2.mono (by have := k1.size; simp; omega)).trans (k3.mono (by have := k1.size; have := k2.size; simp at this; omega))))
    clear k1 k2 k3
    cases hv : fv x y z
    · rw [fl_no hv]
      clear hv
      go_wp2
      go_ret
      exact ⟨rfl, K.out⟩
    · obtain ⟨h1, h2, h3, h4, h5, h6⟩ := fv_iff.1 hv
      have HV := hide hv
      by_cases hy : y = 0
      · subst hy
        rw [fl_none hv]
        clear hv hx
        go_wp2_with fail
        refine (ifv_any _ _ _ _).mono ?_
        rintro e w4 ⟨rfl, k4⟩
        rw [HV.out]
        have K := K.out.trans (k4.mono K.out.size)
        clear k4 q3
        go_wp2
        go_ret
        exact ⟨rfl, K⟩
      · rw [fl_some hv hy]
        have hy' : (y != 0) = true := by simpa using hy
        clear hv hx hy
        go_wp2_with fail
        refine (ifv_any _ _ _ _).mono ?_
        rintro e w4 ⟨rfl, k4⟩
        rw [HV.out]
        have K := K.out.trans (k4.mono K.out.size)
        clear k4 q3
        go_wp2
        go_ret
        exact ⟨rfl, K⟩

theorem fnRank_walk (a : Option Addr) (len cap : Nat) (zs : List Int) (w : World) (h : IsRow .u8 w a len cap zs) :
    Calls Try.prog 8 #[.slice a len cap] w fun e w' => e = .returned (.bool true) ∧ Below w.heap.size w w' := by
  have hl := h.len
  by_cases hbig : (1048576 : Int) < (len : Int)
  · go_enter Try.func8, Try.ntmps8
    go_wp2
    go_ret
    exact ⟨rfl, Below.refl _ _⟩
  · go_enter Try.func8, Try.ntmps8
    go_wp2_with fail
    refine (dDrawIrqRank_any a len cap zs _ h).mono ?_
    rintro e w1 ⟨q, rfl, hm0, hm1, k1⟩
    go_wp2_with fail
    refine (irank_any _ _).mono ?_
    rintro e w2 ⟨rfl, k2⟩
    go_wp2_with fail
    refine (srank_any _ _).mono ?_
    rintro e w3 ⟨rfl, k3⟩
    have K := hide ((k1.trans (k2.mono k1.size)).trans (k3.mono (Nat.le_trans k1.size k2.size)))
    clear k1 k2 k3
    cases hq : knows q
    · have hq' : rkOf q = -1 := by
        rcases irq_cases q with rfl | rfl | rfl | rfl | rfl | rfl | h'
        iterate 6 cases hq
        exact (irq_none h').1
      rw [hq']
      clear hq hq'
      go_wp2
      go_ret
      exact ⟨rfl, K.out⟩
    · obtain ⟨r0, r5, t0, t1, t2, t3, t4, t5⟩ := rk_facts hq
      generalize rkOf q = r at *
      clear hq
      have T0 := hide t0
      have T1 := hide t1
      have T2 := hide t2
      have T3 := hide t3
      have T4 := hide t4
      have T5 := hide t5
      clear t0 t1 t2 t3 t4 t5
      go_wp2
      go_loopw [7] (fun i wr => ∃ k : Nat, k ≤ 6 ∧ i = .int .i64 k ∧ Bk wr w3.heap.size 3 #[.int .i64 6, .int .i64 4, .int .i64 12, .int .i64 2, .int .i64 0, .int .i64 1] ∧ Below w.heap.size w wr) (fun i _ => 6 - (intOf i).toNat)
      case atStart => exact ⟨0, by omega, rfl, Bk.new _ _ _, K.out.alloc K.out.size _⟩
      case round =>
        obtain ⟨k, hk, rfl, hb, hbel⟩ := hrel
        obtain rfl | rfl | rfl | rfl | rfl | rfl | rfl : k = 0 ∨ k = 1 ∨ k = 2 ∨ k = 3 ∨ k = 4 ∨ k = 5 ∨ k = 6 := by omega
        · have hc := hb.cell
          have t0 := T0.out
          have e0 : rkOf 6 = 0 := rfl
          go_wp2
          go_region_held3 (fun W => (∀ i, W.cell? ⟨w3.heap.size, i, none⟩ = #[Value.int .i64 6, .int .i64 4, .int .i64 12, .int .i64 2, .int .i64 0, .int .i64 1][i]?) ∧ Bk W w3.heap.size 3 #[Value.int .i64 6, .int .i64 4, .int .i64 12, .int .i64 2, .int .i64 0, .int .i64 1] ∧ Below w.heap.size w W) (first | exact ⟨b4.cell, b4, l4⟩ | exact ⟨hc, hb, hbel.drew⟩)
            (first | (go_at_call 21; refine (irank_any _ _).mono ?_; rintro e w4 ⟨rfl, k4⟩; go_split_ands; have b4 := Bk.belowAll (by assumption) k4; have l4 := Below.trans (by assumption) (k4.mono (Below.size (by assumption)))))
          clear hc
          go_wp2
          go_roundw
          case rel => exact ⟨1, by omega, rfl, b4, l4⟩
          case measure => simp [intOf]
        · have hc := hb.cell
          have t0 := T1.out
          have e0 : rkOf 4 = 1 := rfl
          go_wp2
          go_region_held3 (fun W => (∀ i, W.cell? ⟨w3.heap.size, i, none⟩ = #[Value.int .i64 6, .int .i64 4, .int .i64 12, .int .i64 2, .int .i64 0, .int .i64 1][i]?) ∧ Bk W w3.heap.size 3 #[Value.int .i64 6, .int .i64 4, .int .i64 12, .int .i64 2, .int .i64 0, .int .i64 1] ∧ Below w.heap.size w W) (first | exact ⟨b4.cell, b4, l4⟩ | exact ⟨hc, hb, hbel.drew⟩)
            (first | (go_at_call 21; refine (irank_any _ _).mono ?_; rintro e w4 ⟨rfl, k4⟩; go_split_ands; have b4 := Bk.belowAll (by assumption) k4; have l4 := Below.trans (by assumption) (k4.mono (Below.size (by assumption)))))
          clear hc
          go_wp2
          go_roundw
          case rel => exact ⟨2, by omega, rfl, b4, l4⟩
          case measure => simp [intOf]
        · have hc := hb.cell
          have t0 := T2.out
          have e0 : rkOf 12 = 2 := rfl
          go_wp2
          go_region_held3 (fun W => (∀ i, W.cell? ⟨w3.heap.size, i, none⟩ = #[Value.int .i64 6, .int .i64 4, .int .i64 12, .int .i64 2, .int .i64 0, .int .i64 1][i]?) ∧ Bk W w3.heap.size 3 #[Value.int .i64 6, .int .i64 4, .int .i64 12, .int .i64 2, .int .i64 0, .int .i64 1] ∧ Below w.heap.size w W) (first | exact ⟨b4.cell, b4, l4⟩ | exact ⟨hc, hb, hbel.drew⟩)
            (first | (go_at_call 21; refine (irank_any _ _).mono ?_; rintro e w4 ⟨rfl, k4⟩; go_split_ands; have b4 := Bk.belowAll (by assumption) k4; have l4 := Below.trans (by assumption) (k4.mono (Below.size (by assumption)))))
          clear hc
          go_wp2
          go_roundw
          case rel => exact ⟨3, by omega, rfl, b4, l4⟩
          case measure => simp [intOf]
        · have hc := hb.cell
          have t0 := T3.out
          have e0 : rkOf 2 = 3 := rfl
          go_wp2
          go_region_held3 (fun W => (∀ i, W.cell? ⟨w3.heap.size, i, none⟩ = #[Value.int .i64 6, .int .i64 4, .int .i64 12, .int .i64 2, .int .i64 0, .int .i64 1][i]?) ∧ Bk W w3.heap.size 3 #[Value.int .i64 6, .int .i64 4, .int .i64 12, .int .i64 2, .int .i64 0, .int .i64 1] ∧ Below w.heap.size w W) (first | exact ⟨b4.cell, b4, l4⟩ | exact ⟨hc, hb, hbel.drew⟩)
            (first | (go_at_call 21; refine (irank_any _ _).mono ?_; rintro e w4 ⟨rfl, k4⟩; go_split_ands; have b4 := Bk.belowAll (by assumption) k4; have l4 := Below.trans (by assumption) (k4.mono (Below.size (by assumption)))))
          clear hc
          go_wp2
          go_roundw
          case rel => exact ⟨4, by omega, rfl, b4, l4⟩
          case measure => simp [intOf]
        · have hc := hb.cell
          have t0 := T4.out
          have e0 : rkOf 0 = 4 := rfl
          go_wp2
          go_region_held3 (fun W => (∀ i, W.cell? ⟨w3.heap.size, i, none⟩ = #[Value.int .i64 6, .int .i64 4, .int .i64 12, .int .i64 2, .int .i64 0, .int .i64 1][i]?) ∧ Bk W w3.heap.size 3 #[Value.int .i64 6, .int .i64 4, .int .i64 12, .int .i64 2, .int .i64 0, .int .i64 1] ∧ Below w.heap.size w W) (first | exact ⟨b4.cell, b4, l4⟩ | exact ⟨hc, hb, hbel.drew⟩)
            (first | (go_at_call 21; refine (irank_any _ _).mono ?_; rintro e w4 ⟨rfl, k4⟩; go_split_ands; have b4 := Bk.belowAll (by assumption) k4; have l4 := Below.trans (by assumption) (k4.mono (Below.size (by assumption)))))
          clear hc
          go_wp2
          go_roundw
          case rel => exact ⟨5, by omega, rfl, b4, l4⟩
          case measure => simp [intOf]
        · have hc := hb.cell
          have t0 := T5.out
          have e0 : rkOf 1 = 5 := rfl
          go_wp2
          go_region_held3 (fun W => (∀ i, W.cell? ⟨w3.heap.size, i, none⟩ = #[Value.int .i64 6, .int .i64 4, .int .i64 12, .int .i64 2, .int .i64 0, .int .i64 1][i]?) ∧ Bk W w3.heap.size 3 #[Value.int .i64 6, .int .i64 4, .int .i64 12, .int .i64 2, .int .i64 0, .int .i64 1] ∧ Below w.heap.size w W) (first | exact ⟨b4.cell, b4, l4⟩ | exact ⟨hc, hb, hbel.drew⟩)
            (first | (go_at_call 21; refine (irank_any _ _).mono ?_; rintro e w4 ⟨rfl, k4⟩; go_split_ands; have b4 := Bk.belowAll (by assumption) k4; have l4 := Below.trans (by assumption) (k4.mono (Below.size (by assumption)))))
          clear hc
          go_wp2
          go_roundw
          case rel => exact ⟨6, by omega, rfl, b4, l4⟩
          case measure => simp [intOf]
        · go_wp2
          go_ret
          exact ⟨rfl, hbel⟩
end Go.Proofs.Ytpgbagclcapmmaa
