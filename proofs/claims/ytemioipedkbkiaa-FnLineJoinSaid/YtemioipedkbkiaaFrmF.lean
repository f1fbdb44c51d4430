/-
  Walks of the functions that read a frame. Each contract says what the function returns for what the slice reads as, and that nothing that was there has turned.
-/
import Derived.Test.YtemioipedkbkiaaFrmP
import Derived.Deep.RegionHeld3
namespace Go.Proofs.Ytemioipedkbkiaa
open Go.RowKit
set_option linter.unusedVariables false

theorem or_zero {V : Int} (h0 : 0 ≤ V) (h1 : V < 256) : bits .or .i64 V 0 = V := all256 (p := fun V => bits .or .i64 V 0 = V) (by decide +kernel) V h0 h1
theorem or_bit {V : Int} (k : Nat) (hk : k < 8) (h0 : 0 ≤ V) (h1 : V < 2 ^ k) : bits .or .i64 V (2 ^ k) = V + 2 ^ k := by
  have key : ∀ k : Fin 8, ∀ n : Fin 256, n.val < 2 ^ k.val → bits .or .i64 (n.val : Int) (2 ^ k.val) = (n.val : Int) + 2 ^ k.val := by decide +kernel
  obtain ⟨n, rfl⟩ := Int.eq_ofNat_of_zero_le h0
  have hn : n < 2 ^ k := by
    have : ((n : Nat) : Int) < ((2 ^ k : Nat) : Int) := by simpa using h1
    omega
  have h256 : n < 256 := Nat.lt_of_lt_of_le hn (Nat.le_trans (Nat.pow_le_pow_right (by omega) (show k ≤ 8 by omega)) (by decide))
  exact key ⟨k, hk⟩ ⟨n, h256⟩ hn
theorem Sl.lit {w : World} {a : Option Addr} {len cap : Nat} {zs : List Int} (h : Sl w a len cap zs) {k : Nat} (hk : k < len) (h0 : 0 < k) : ∃ x : Addr, a = some x ∧ w.cell? ⟨x.block, x.off + k, none⟩ = some (.int .i64 (zs.getD k 0)) := by
  obtain ⟨x, hx, hc⟩ := h.at_ hk
  refine ⟨x, hx, ?_⟩
  rw [Addr.add, if_neg (by omega)] at hc
  exact hc
set_option maxHeartbeats 2000000 in
theorem iff_no (a b c : Int) (p : Option Addr) (len cap : Nat) (zs : List Int) (w : World) (h : Sl w p len cap zs) (hg : gd a b c len zs = false) :
    Calls Try.prog 42 #[.agg #[.int .i64 a, .int .i64 b, .int .i64 c], .slice p len cap] w fun e w' => e = .returned (.tuple #[.int .i64 (ffv a b c len zs), .int .i64 (ffc a b c len zs)]) ∧ Below w.heap.size w w' := by
  have hlc : (len : Int) ≤ 9223372036854775807 := by have := h.2.1; have := h.2.2.1; omega
  have HZ := hide h.1
  have B := hide ((Below.refl w.heap.size w).alloc (Nat.le_refl _) (.cells #[.int .i64 a, .int .i64 b, .int .i64 c] 27))
  have f := Bk.new w 27 #[.int .i64 a, .int .i64 b, .int .i64 c]
  have s := h.alloc (.cells #[.int .i64 a, .int .i64 b, .int .i64 c] 27)
  have e1 : ffv a b c len zs = 0 := by simp [ffv, hg]
  have e2 : ffc a b c len zs = 3 := by simp [ffc, hg]
  rw [e1, e2]
  clear e1 e2
  cases hv : fv a b c
  · have HV := hide hv
    clear hg hv
    go_enter Try.func42, Try.ntmps42
    go_wp2_with fail
    refine (ifv_any _ _ _ _).mono ?_
    rintro e w1 ⟨rfl, k1⟩
    rw [HV.out]
    have K := hide (B.out.trans (k1.mono (by simp)))
    clear k1
    go_wp2
    go_ret2
    exact ⟨rfl, K.out⟩
  · have HV := hide hv
    by_cases hl : (len : Int) = flOf a b c
    · cases ha : allBt zs
      · have HA := hide ha
        have HL := hide hl
        clear hg hv ha hl
        go_enter Try.func42, Try.ntmps42
        go_wp2_with fail
        refine (ifv_any _ _ _ _).mono ?_
        rintro e w1 ⟨rfl, k1⟩
        rw [HV.out]
        have f := f.belowAll k1
        have s := s.below k1 (Nat.le_refl _)
        have K := hide (B.out.trans (k1.mono (by simp)))
        clear k1
        have q := f.cell
        go_wp2_with fail
        refine (ifl_any _ _ _ _).mono ?_
        rintro e w2 ⟨rfl, k2⟩
        rw [← HL.out]
        have s := s.below k2 (Nat.le_refl _)
        have K := hide (K.out.trans (k2.mono K.out.size))
        clear k2 q
        go_wp2_with fail
        refine (allBits_any _ _ _ zs _ s).mono ?_
        rintro e w3 ⟨rfl, rfl⟩
        rw [HA.out]
        go_wp2
        go_ret2
        exact ⟨rfl, K.out⟩
      · obtain ⟨l7, l12⟩ := fl_bd hv
        have hz0 : zs.getD 0 0 ≠ 0 := by
          intro e
          simp [gd, hv, hl, ha] at hg
          simp at e
          simp_all
        obtain ⟨y, rfl, hc⟩ := s.at_ (k := 0) (by omega)
        have HY := hide (show y.block < w.heap.size + 1 from by have := lt_of_some (by rw [hc]; rfl) (w := w.alloc (.cells #[.int .i64 a, .int .i64 b, .int .i64 c] 27)); rw [add_block] at this; simpa using this)
        have HS := hide s
        obtain ⟨z, hz⟩ : ∃ z, zs.getD 0 0 = z := ⟨_, rfl⟩
        rw [hz] at hc hz0
        have HZ0 := hide hz
        have hne : (z != 0) = true := by simpa using hz0
        have hp : (0 : Int) < (len : Int) := by omega
        have HA := hide ha
        have HL := hide hl
        clear hg hv ha hl hz hz0 hc
        go_enter Try.func42, Try.ntmps42
        go_wp2_with fail
        refine (ifv_any _ _ _ _).mono ?_
        rintro e w1 ⟨rfl, k1⟩
        rw [HV.out]
        have f := f.belowAll k1
        have s := s.below k1 (Nat.le_refl _)
        have K := hide (B.out.trans (k1.mono (by simp)))
        clear k1
        have q := f.cell
        go_wp2_with fail
        refine (ifl_any _ _ _ _).mono ?_
        rintro e w2 ⟨rfl, k2⟩
        rw [← HL.out]
        have s := s.below k2 (Nat.le_refl _)
        have K := hide (K.out.trans (k2.mono K.out.size))
        clear k2 q
        go_wp2_with fail
        refine (allBits_any _ _ _ zs _ s).mono ?_
        rintro e w3 ⟨rfl, rfl⟩
        rw [HA.out]
        obtain ⟨y', hy', hc⟩ := s.at_ (k := 0) (by omega)
        obtain rfl : y = y' := by injection hy'
        rw [HZ0.out] at hc
        have hc1 : w2.cell? y = some (.int .i64 z) := by simpa [Addr.add] using hc
        go_wp2
        go_ret2
        exact ⟨rfl, K.out⟩
    · have hne : ((len : Int) != flOf a b c) = true := by simpa using hl
      clear hg hv hl
      go_enter Try.func42, Try.ntmps42
      go_wp2_with fail
      refine (ifv_any _ _ _ _).mono ?_
      rintro e w1 ⟨rfl, k1⟩
      rw [HV.out]
      have f := f.belowAll k1
      have s := s.below k1 (Nat.le_refl _)
      have K := hide (B.out.trans (k1.mono (by simp)))
      clear k1
      have q := f.cell
      go_wp2_with fail
      refine (ifl_any _ _ _ _).mono ?_
      rintro e w2 ⟨rfl, k2⟩
      have K := hide (K.out.trans (k2.mono K.out.size))
      clear k2 q
      go_wp2
      go_ret2
      exact ⟨rfl, K.out⟩
set_option maxHeartbeats 2000000 in
theorem iff_yes (a b c : Int) (p : Option Addr) (len cap : Nat) (zs : List Int) (w : World) (h : Sl w p len cap zs) (hg : gd a b c len zs = true) :
    Calls Try.prog 42 #[.agg #[.int .i64 a, .int .i64 b, .int .i64 c], .slice p len cap] w fun e w' => e = .returned (.tuple #[.int .i64 (ffv a b c len zs), .int .i64 (ffc a b c len zs)]) ∧ Below w.heap.size w w' := by
  have hlc : (len : Int) ≤ 9223372036854775807 := by have := h.2.1; have := h.2.2.1; omega
  have HZ := hide h.1
  have B := hide ((Below.refl w.heap.size w).alloc (Nat.le_refl _) (.cells #[.int .i64 a, .int .i64 b, .int .i64 c] 27))
  have f := Bk.new w 27 #[.int .i64 a, .int .i64 b, .int .i64 c]
  have s := h.alloc (.cells #[.int .i64 a, .int .i64 b, .int .i64 c] 27)
  have hg' := hg
  simp only [gd, Bool.and_eq_true, decide_eq_true_eq, beq_iff_eq] at hg'
  obtain ⟨hv, hl, ha, hz0⟩ := hg'
  obtain ⟨l7, l12⟩ := fl_bd hv
  obtain ⟨r1, r2, r3, r4, r5, r6⟩ := fv_iff.1 hv
  have e1 : ffv a b c len zs = vs zs a.toNat := by simp [ffv, hg]
  have e2 : ffc a b c len zs = if st c len zs = true then 2 else if b ≠ 0 ∧ zs.getD (1 + a.toNat) 0 ≠ pb b (vs zs a.toNat) then 1 else 0 := by simp only [ffc, hg, if_true]
  have hla : len = 1 + a.toNat + c.toNat + (if b = 0 then 0 else 1) := by
    simp only [flOf, hv, if_true] at hl
    split at hl <;> simp_all <;> omega
  have HE1 := hide e1
  have HE2 := hide e2
  have HV := hide hv
  have HA := hide ha
  have HL := hide hl
  have HLA := hide hla
  have HZ0 := hide hz0
  have hlen7 : 7 ≤ len := by omega
  have hp : (7 : Int) ≤ (len : Int) := by omega
  clear hg hv hl ha hz0 e1 e2 hla l7 l12
  go_enter Try.func42, Try.ntmps42
  go_wp2_with fail
  refine (ifv_any _ _ _ _).mono ?_
  rintro e w1 ⟨rfl, k1⟩
  rw [HV.out]
  have f := f.belowAll k1
  have s := s.below k1 (Nat.le_refl _)
  have K := hide (B.out.trans (k1.mono (by simp)))
  clear k1
  have q := f.cell
  go_wp2_with fail
  refine (ifl_any _ _ _ _).mono ?_
  rintro e w2 ⟨rfl, k2⟩
  rw [← HL.out]
  have f := f.belowAll k2
  have s := s.below k2 (Nat.le_refl _)
  have K := hide (K.out.trans (k2.mono K.out.size))
  clear k2 q
  have q := f.cell
  go_wp2_with fail
  refine (allBits_any _ _ _ zs _ s).mono ?_
  rintro e w3 ⟨rfl, rfl⟩
  rw [HA.out]
  obtain ⟨y, rfl, hc⟩ := s.at_ (k := 0) (by omega)
  have S := hide s
  rw [HZ0.out] at hc
  have hc1 : w2.cell? y = some (.int .i64 0) := by simpa [Addr.add] using hc
  clear hc s
  go_wp2
  go_loop [6, 33] (fun q i => ∃ k : Nat, q = .int .i64 (vs zs k) ∧ i = .int .i64 k ∧ (k : Int) ≤ a) (fun _ i => a.toNat - (intOf i).toNat)
  case atStart => exact ⟨0, rfl, rfl, by omega⟩
  case round =>
    obtain ⟨k, rfl, rfl, hka⟩ := hrel
    by_cases hlt : (k : Int) < a
    · have hk8 : k < 8 := by omega
      have hlen2 : (k : Int) + 1 < (len : Int) := by have := HLA.out; omega
      obtain rfl | rfl | rfl | rfl | rfl | rfl | rfl | rfl : k = 0 ∨ k = 1 ∨ k = 2 ∨ k = 3 ∨ k = 4 ∨ k = 5 ∨ k = 6 ∨ k = 7 := by omega
      · have hV := vs_bd HA.out 0 (by rw [HZ.out]; omega)
        have o0 := or_zero hV.1 (by have := hV.2; simp at this; omega)
        have o1 := or_bit 0 (by omega) hV.1 hV.2
        simp at o1
        obtain ⟨y', hy', hc⟩ := S.out.lit (k := 1) (by omega) (by omega)
        obtain rfl : y = y' := by injection hy'
        have hb := allBt_at HA.out (j := 1) (by rw [HZ.out]; omega)
        obtain ⟨z, hz⟩ : ∃ z, zs.getD 1 0 = z := ⟨_, rfl⟩
        rw [hz] at hc hb
        have HZE := hide hz
        have hV1 : 0 ≤ vs zs 0 ∧ vs zs 0 < 256 := ⟨hV.1, by have := hV.2; simp at this; omega⟩
        obtain ⟨hV0, hV2⟩ := hV1
        clear hV hz
        obtain rfl | rfl : z = 0 ∨ z = 1 := by omega
        all_goals
          go_wp2
          go_round
          case rel => exact ⟨1, by rw [show vs zs 1 = vs zs 0 + zs.getD 1 0 * 2 ^ 0 from rfl, HZE.out]; simp, by go_num, by omega⟩
          case measure => simp [intOf]; omega
      · have hV := vs_bd HA.out 1 (by rw [HZ.out]; omega)
        have o0 := or_zero hV.1 (by have := hV.2; simp at this; omega)
        have o1 := or_bit 1 (by omega) hV.1 hV.2
        simp at o1
        obtain ⟨y', hy', hc⟩ := S.out.lit (k := 2) (by omega) (by omega)
        obtain rfl : y = y' := by injection hy'
        have hb := allBt_at HA.out (j := 2) (by rw [HZ.out]; omega)
        obtain ⟨z, hz⟩ : ∃ z, zs.getD 2 0 = z := ⟨_, rfl⟩
        rw [hz] at hc hb
        have HZE := hide hz
        have hV1 : 0 ≤ vs zs 1 ∧ vs zs 1 < 256 := ⟨hV.1, by have := hV.2; simp at this; omega⟩
        obtain ⟨hV0, hV2⟩ := hV1
        clear hV hz
        obtain rfl | rfl : z = 0 ∨ z = 1 := by omega
        all_goals
          go_wp2
          go_round
          case rel => exact ⟨2, by rw [show vs zs 2 = vs zs 1 + zs.getD 2 0 * 2 ^ 1 from rfl, HZE.out]; simp, by go_num, by omega⟩
          case measure => simp [intOf]; omega
      · have hV := vs_bd HA.out 2 (by rw [HZ.out]; omega)
        have o0 := or_zero hV.1 (by have := hV.2; simp at this; omega)
        have o1 := or_bit 2 (by omega) hV.1 hV.2
        simp at o1
        obtain ⟨y', hy', hc⟩ := S.out.lit (k := 3) (by omega) (by omega)
        obtain rfl : y = y' := by injection hy'
        have hb := allBt_at HA.out (j := 3) (by rw [HZ.out]; omega)
        obtain ⟨z, hz⟩ : ∃ z, zs.getD 3 0 = z := ⟨_, rfl⟩
        rw [hz] at hc hb
        have HZE := hide hz
        have hV1 : 0 ≤ vs zs 2 ∧ vs zs 2 < 256 := ⟨hV.1, by have := hV.2; simp at this; omega⟩
        obtain ⟨hV0, hV2⟩ := hV1
        clear hV hz
        obtain rfl | rfl : z = 0 ∨ z = 1 := by omega
        all_goals
          go_wp2
          go_round
          case rel => exact ⟨3, by rw [show vs zs 3 = vs zs 2 + zs.getD 3 0 * 2 ^ 2 from rfl, HZE.out]; simp, by go_num, by omega⟩
          case measure => simp [intOf]; omega
      · have hV := vs_bd HA.out 3 (by rw [HZ.out]; omega)
        have o0 := or_zero hV.1 (by have := hV.2; simp at this; omega)
        have o1 := or_bit 3 (by omega) hV.1 hV.2
        simp at o1
        obtain ⟨y', hy', hc⟩ := S.out.lit (k := 4) (by omega) (by omega)
        obtain rfl : y = y' := by injection hy'
        have hb := allBt_at HA.out (j := 4) (by rw [HZ.out]; omega)
        obtain ⟨z, hz⟩ : ∃ z, zs.getD 4 0 = z := ⟨_, rfl⟩
        rw [hz] at hc hb
        have HZE := hide hz
        have hV1 : 0 ≤ vs zs 3 ∧ vs zs 3 < 256 := ⟨hV.1, by have := hV.2; simp at this; omega⟩
        obtain ⟨hV0, hV2⟩ := hV1
        clear hV hz
        obtain rfl | rfl : z = 0 ∨ z = 1 := by omega
        all_goals
          go_wp2
          go_round
          case rel => exact ⟨4, by rw [show vs zs 4 = vs zs 3 + zs.getD 4 0 * 2 ^ 3 from rfl, HZE.out]; simp, by go_num, by omega⟩
          case measure => simp [intOf]; omega
      · have hV := vs_bd HA.out 4 (by rw [HZ.out]; omega)
        have o0 := or_zero hV.1 (by have := hV.2; simp at this; omega)
        have o1 := or_bit 4 (by omega) hV.1 hV.2
        simp at o1
        obtain ⟨y', hy', hc⟩ := S.out.lit (k := 5) (by omega) (by omega)
        obtain rfl : y = y' := by injection hy'
        have hb := allBt_at HA.out (j := 5) (by rw [HZ.out]; omega)
        obtain ⟨z, hz⟩ : ∃ z, zs.getD 5 0 = z := ⟨_, rfl⟩
        rw [hz] at hc hb
        have HZE := hide hz
        have hV1 : 0 ≤ vs zs 4 ∧ vs zs 4 < 256 := ⟨hV.1, by have := hV.2; simp at this; omega⟩
        obtain ⟨hV0, hV2⟩ := hV1
        clear hV hz
        obtain rfl | rfl : z = 0 ∨ z = 1 := by omega
        all_goals
          go_wp2
          go_round
          case rel => exact ⟨5, by rw [show vs zs 5 = vs zs 4 + zs.getD 5 0 * 2 ^ 4 from rfl, HZE.out]; simp, by go_num, by omega⟩
          case measure => simp [intOf]; omega
      · have hV := vs_bd HA.out 5 (by rw [HZ.out]; omega)
        have o0 := or_zero hV.1 (by have := hV.2; simp at this; omega)
        have o1 := or_bit 5 (by omega) hV.1 hV.2
        simp at o1
        obtain ⟨y', hy', hc⟩ := S.out.lit (k := 6) (by omega) (by omega)
        obtain rfl : y = y' := by injection hy'
        have hb := allBt_at HA.out (j := 6) (by rw [HZ.out]; omega)
        obtain ⟨z, hz⟩ : ∃ z, zs.getD 6 0 = z := ⟨_, rfl⟩
        rw [hz] at hc hb
        have HZE := hide hz
        have hV1 : 0 ≤ vs zs 5 ∧ vs zs 5 < 256 := ⟨hV.1, by have := hV.2; simp at this; omega⟩
        obtain ⟨hV0, hV2⟩ := hV1
        clear hV hz
        obtain rfl | rfl : z = 0 ∨ z = 1 := by omega
        all_goals
          go_wp2
          go_round
          case rel => exact ⟨6, by rw [show vs zs 6 = vs zs 5 + zs.getD 6 0 * 2 ^ 5 from rfl, HZE.out]; simp, by go_num, by omega⟩
          case measure => simp [intOf]; omega
      · have hV := vs_bd HA.out 6 (by rw [HZ.out]; omega)
        have o0 := or_zero hV.1 (by have := hV.2; simp at this; omega)
        have o1 := or_bit 6 (by omega) hV.1 hV.2
        simp at o1
        obtain ⟨y', hy', hc⟩ := S.out.lit (k := 7) (by omega) (by omega)
        obtain rfl : y = y' := by injection hy'
        have hb := allBt_at HA.out (j := 7) (by rw [HZ.out]; omega)
        obtain ⟨z, hz⟩ : ∃ z, zs.getD 7 0 = z := ⟨_, rfl⟩
        rw [hz] at hc hb
        have HZE := hide hz
        have hV1 : 0 ≤ vs zs 6 ∧ vs zs 6 < 256 := ⟨hV.1, by have := hV.2; simp at this; omega⟩
        obtain ⟨hV0, hV2⟩ := hV1
        clear hV hz
        obtain rfl | rfl : z = 0 ∨ z = 1 := by omega
        all_goals
          go_wp2
          go_round
          case rel => exact ⟨7, by rw [show vs zs 7 = vs zs 6 + zs.getD 7 0 * 2 ^ 6 from rfl, HZE.out]; simp, by go_num, by omega⟩
          case measure => simp [intOf]; omega
      · have hV := vs_bd HA.out 7 (by rw [HZ.out]; omega)
        have o0 := or_zero hV.1 (by have := hV.2; simp at this; omega)
        have o1 := or_bit 7 (by omega) hV.1 hV.2
        simp at o1
        obtain ⟨y', hy', hc⟩ := S.out.lit (k := 8) (by omega) (by omega)
        obtain rfl : y = y' := by injection hy'
        have hb := allBt_at HA.out (j := 8) (by rw [HZ.out]; omega)
        obtain ⟨z, hz⟩ : ∃ z, zs.getD 8 0 = z := ⟨_, rfl⟩
        rw [hz] at hc hb
        have HZE := hide hz
        have hV1 : 0 ≤ vs zs 7 ∧ vs zs 7 < 256 := ⟨hV.1, by have := hV.2; simp at this; omega⟩
        obtain ⟨hV0, hV2⟩ := hV1
        clear hV hz
        obtain rfl | rfl : z = 0 ∨ z = 1 := by omega
        all_goals
          go_wp2
          go_round
          case rel => exact ⟨8, by rw [show vs zs 8 = vs zs 7 + zs.getD 8 0 * 2 ^ 7 from rfl, HZE.out]; simp, by go_num, by omega⟩
          case measure => simp [intOf]; omega
    · obtain rfl : (k : Int) = a := by omega
      have hV := vs_bd HA.out k (by rw [HZ.out]; have := HLA.out; omega)
      have h256 : vs zs k < 256 := by
        obtain rfl | rfl | rfl | rfl : k = 5 ∨ k = 6 ∨ k = 7 ∨ k = 8 := by omega
        all_goals (have := hV.2; simp at this; omega)
      have HE1' : Hid (ffv (k : Int) b c len zs = vs zs k) := hide (by rw [HE1.out, Int.toNat_natCast])
      have HE2' : Hid (ffc (k : Int) b c len zs = if st c len zs = true then 2 else if b ≠ 0 ∧ zs.getD (1 + k) 0 ≠ pb b (vs zs k) then 1 else 0) := hide (by rw [HE2.out, Int.toNat_natCast])
      obtain ⟨V, hVe⟩ : ∃ V, vs zs k = V := ⟨_, rfl⟩
      rw [hVe] at hV h256 HE1' HE2' ⊢
      have hlcap : (len : Int) ≤ (cap : Int) := by have := S.out.2.1; omega
      have hlcap2 : len ≤ cap := S.out.2.1
      obtain rfl | rfl : c = 1 ∨ c = 2 := by omega
      · have e1 : len - (len - 1) = 1 := by omega
        obtain ⟨y', hy', hc⟩ := S.out.at_ (k := len - 1) (by omega)
        obtain rfl : y = y' := by injection hy'
        have hb := allBt_at HA.out (j := len - 1) (by rw [HZ.out]; omega)
        obtain ⟨z, hz⟩ : ∃ z, zs.getD (len - 1) 0 = z := ⟨_, rfl⟩
        rw [hz] at hc hb
        have HZE := hide hz
        clear hz
        have hlt1 : len - 1 < len := by omega
        go_wp2
        have hV0 := hV.1
        clear hV hVe
        refine wp_loop_rounds 2 ?_
        rw [rounds_succ]
        obtain rfl | rfl : z = 0 ∨ z = 1 := by omega
        · have HS1 : Hid (st 1 len zs = true) := hide (by unfold st; rw [HZE.out]; simp)
          go_wp2
          go_ret2
          exact ⟨by rw [HE1'.out, HE2'.out, HS1.out]; simp, K.out⟩
        · have HS1 : Hid (st 1 len zs = false) := hide (by unfold st; rw [HZE.out]; simp)
          go_wp2
          rw [rounds_succ]
          go_wp2
          clear hc hb hlt1 e1
          by_cases hb0 : b = 0
          · subst hb0
            go_quiet (fail)
            go_wp2
            go_ret2
            exact ⟨by rw [HE1'.out, HE2'.out, HS1.out]; simp, below_drewN K.out _⟩
          · have hbn : (b != 0) = true := by simpa using hb0
            obtain ⟨y2, hy2, hcp⟩ := S.out.at_ (k := 1 + k) (by have := HLA.out; split at this <;> omega)
            obtain rfl : y = y2 := by injection hy2
            have hix : (k : Int) + 1 < (len : Int) := by have := HLA.out; split at this <;> omega
            obtain ⟨u, hu⟩ : ∃ u, zs.getD (1 + k) 0 = u := ⟨_, rfl⟩
            rw [hu] at hcp HE2'
            have KB := K.out
            have HN := hide hb0
            clear hb0 hu
            by_cases hun : u = pb b V
            · have ht : (u != pb b V) = false := by simpa using hun
              have HU := hide hun
              clear hun
              have x1 : IntKind.i64.wrap (1 + (k : Int)) = 1 + (k : Int) := IntWalk.i64_in _ (by omega)
              have x2 : (0 : Int) ≤ 1 + (k : Int) := by omega
              have x3 : 1 + (k : Int) < (len : Int) := by omega
              have x4 : (1 + (k : Int)).toNat = 1 + k := by omega
              go_region_held3 (fun W => (∀ i, W.cell? ⟨w.heap.size, i, none⟩ = #[Value.int .i64 k, .int .i64 b, .int .i64 1][i]?) ∧ W.cell? (y.add (1 + k)) = some (.int .i64 u) ∧ Bk W w.heap.size 27 #[Value.int .i64 k, .int .i64 b, .int .i64 1] ∧ Below w.heap.size w W)
                (first | exact ⟨f6.cell, c6, f6, l6⟩ | exact ⟨q, hcp, f, KB.drew⟩)
                (first | (go_at_call 43; refine (ipar_any _ _ _ _ _ hV0 h256).mono ?_; rintro e w6 ⟨rfl, k6⟩; go_split_ands; have f6 := Bk.belowAll (by assumption) k6; have c6 := (k6.cell (block_lt_of_cell (by assumption))).trans (by assumption); have l6 := Below.trans (by assumption) (k6.mono (Below.size (by assumption)))))
              go_wp2
              go_ret2
              exact ⟨by rw [HE1'.out, HE2'.out, HS1.out]; simp [HU.out], l6⟩
            · have ht : (u != pb b V) = true := by simpa using hun
              have HU := hide hun
              clear hun
              have x1 : IntKind.i64.wrap (1 + (k : Int)) = 1 + (k : Int) := IntWalk.i64_in _ (by omega)
              have x2 : (0 : Int) ≤ 1 + (k : Int) := by omega
              have x3 : 1 + (k : Int) < (len : Int) := by omega
              have x4 : (1 + (k : Int)).toNat = 1 + k := by omega
              go_region_held3 (fun W => (∀ i, W.cell? ⟨w.heap.size, i, none⟩ = #[Value.int .i64 k, .int .i64 b, .int .i64 1][i]?) ∧ W.cell? (y.add (1 + k)) = some (.int .i64 u) ∧ Bk W w.heap.size 27 #[Value.int .i64 k, .int .i64 b, .int .i64 1] ∧ Below w.heap.size w W)
                (first | exact ⟨f6.cell, c6, f6, l6⟩ | exact ⟨q, hcp, f, KB.drew⟩)
                (first | (go_at_call 43; refine (ipar_any _ _ _ _ _ hV0 h256).mono ?_; rintro e w6 ⟨rfl, k6⟩; go_split_ands; have f6 := Bk.belowAll (by assumption) k6; have c6 := (k6.cell (block_lt_of_cell (by assumption))).trans (by assumption); have l6 := Below.trans (by assumption) (k6.mono (Below.size (by assumption)))))
              go_wp2
              go_ret2
              exact ⟨by rw [HE1'.out, HE2'.out, HS1.out]; simp [HU.out, HN.out], l6⟩
      · have e1 : len - (len - 2) = 2 := by omega
        obtain ⟨y', hy', hc⟩ := S.out.lit (k := len - 2) (by omega) (by omega)
        obtain rfl : y = y' := by injection hy'
        obtain ⟨y', hy', hd⟩ := S.out.lit (k := len - 2 + 1) (by omega) (by omega)
        obtain rfl : y = y' := by injection hy'
        have hb := allBt_at HA.out (j := len - 2) (by rw [HZ.out]; omega)
        have hb2 := allBt_at HA.out (j := len - 2 + 1) (by rw [HZ.out]; omega)
        obtain ⟨z, hz⟩ : ∃ z, zs.getD (len - 2) 0 = z := ⟨_, rfl⟩
        obtain ⟨z2, hz2⟩ : ∃ z2, zs.getD (len - 2 + 1) 0 = z2 := ⟨_, rfl⟩
        rw [hz] at hc hb
        rw [hz2, ← Nat.add_assoc] at hd
        rw [hz2] at hb2
        have HZE := hide hz
        have HZE2 : Hid (zs.getD (len - 1) 0 = z2) := hide (by rw [← hz2]; congr 1; omega)
        clear hz hz2
        have hya : y.add (len - 2) = ⟨y.block, y.off + (len - 2), none⟩ := by rw [Addr.add, if_neg (by omega)]
        have hlt1 : len - 2 < len := by omega
        go_wp2
        have hV0 := hV.1
        clear hV hVe
        refine wp_loop_rounds 3 ?_
        rw [rounds_succ]
        obtain rfl | rfl : z = 0 ∨ z = 1 := by omega
        · have HS1 : Hid (st 2 len zs = true) := hide (by unfold st; rw [HZE.out]; simp)
          go_wp2
          go_ret2
          exact ⟨by rw [HE1'.out, HE2'.out, HS1.out]; simp, K.out⟩
        · obtain rfl | rfl : z2 = 0 ∨ z2 = 1 := by omega
          · have HS1 : Hid (st 2 len zs = true) := hide (by unfold st; rw [HZE2.out]; simp)
            go_wp2
            rw [rounds_succ]
            go_wp2
            go_ret2
            exact ⟨by rw [HE1'.out, HE2'.out, HS1.out]; simp, K.out⟩
          · have HS1 : Hid (st 2 len zs = false) := hide (by unfold st; rw [HZE.out, HZE2.out]; simp)
            go_wp2
            rw [rounds_succ]
            go_wp2
            rw [rounds_succ]
            go_wp2
            clear hc hd hb hb2 hlt1 e1 hya
            by_cases hb0 : b = 0
            · subst hb0
              go_quiet (fail)
              go_wp2
              go_ret2
              exact ⟨by rw [HE1'.out, HE2'.out, HS1.out]; simp, below_drewN K.out _⟩
            · have hbn : (b != 0) = true := by simpa using hb0
              obtain ⟨y2, hy2, hcp⟩ := S.out.at_ (k := 1 + k) (by have := HLA.out; split at this <;> omega)
              obtain rfl : y = y2 := by injection hy2
              have hix : (k : Int) + 1 < (len : Int) := by have := HLA.out; split at this <;> omega
              obtain ⟨u, hu⟩ : ∃ u, zs.getD (1 + k) 0 = u := ⟨_, rfl⟩
              rw [hu] at hcp HE2'
              have KB := K.out
              have HN := hide hb0
              clear hb0 hu
              by_cases hun : u = pb b V
              · have ht : (u != pb b V) = false := by simpa using hun
                have HU := hide hun
                clear hun
                have x1 : IntKind.i64.wrap (1 + (k : Int)) = 1 + (k : Int) := IntWalk.i64_in _ (by omega)
                have x2 : (0 : Int) ≤ 1 + (k : Int) := by omega
                have x3 : 1 + (k : Int) < (len : Int) := by omega
                have x4 : (1 + (k : Int)).toNat = 1 + k := by omega
                go_region_held3 (fun W => (∀ i, W.cell? ⟨w.heap.size, i, none⟩ = #[Value.int .i64 k, .int .i64 b, .int .i64 2][i]?) ∧ W.cell? (y.add (1 + k)) = some (.int .i64 u) ∧ Bk W w.heap.size 27 #[Value.int .i64 k, .int .i64 b, .int .i64 2] ∧ Below w.heap.size w W)
                  (first | exact ⟨f6.cell, c6, f6, l6⟩ | exact ⟨q, hcp, f, KB.drew⟩)
                  (first | (go_at_call 43; refine (ipar_any _ _ _ _ _ hV0 h256).mono ?_; rintro e w6 ⟨rfl, k6⟩; go_split_ands; have f6 := Bk.belowAll (by assumption) k6; have c6 := (k6.cell (block_lt_of_cell (by assumption))).trans (by assumption); have l6 := Below.trans (by assumption) (k6.mono (Below.size (by assumption)))))
                go_wp2
                go_ret2
                exact ⟨by rw [HE1'.out, HE2'.out, HS1.out]; simp [HU.out], l6⟩
              · have ht : (u != pb b V) = true := by simpa using hun
                have HU := hide hun
                clear hun
                have x1 : IntKind.i64.wrap (1 + (k : Int)) = 1 + (k : Int) := IntWalk.i64_in _ (by omega)
                have x2 : (0 : Int) ≤ 1 + (k : Int) := by omega
                have x3 : 1 + (k : Int) < (len : Int) := by omega
                have x4 : (1 + (k : Int)).toNat = 1 + k := by omega
                go_region_held3 (fun W => (∀ i, W.cell? ⟨w.heap.size, i, none⟩ = #[Value.int .i64 k, .int .i64 b, .int .i64 2][i]?) ∧ W.cell? (y.add (1 + k)) = some (.int .i64 u) ∧ Bk W w.heap.size 27 #[Value.int .i64 k, .int .i64 b, .int .i64 2] ∧ Below w.heap.size w W)
                  (first | exact ⟨f6.cell, c6, f6, l6⟩ | exact ⟨q, hcp, f, KB.drew⟩)
                  (first | (go_at_call 43; refine (ipar_any _ _ _ _ _ hV0 h256).mono ?_; rintro e w6 ⟨rfl, k6⟩; go_split_ands; have f6 := Bk.belowAll (by assumption) k6; have c6 := (k6.cell (block_lt_of_cell (by assumption))).trans (by assumption); have l6 := Below.trans (by assumption) (k6.mono (Below.size (by assumption)))))
                go_wp2
                go_ret2
                exact ⟨by rw [HE1'.out, HE2'.out, HS1.out]; simp [HU.out, HN.out], l6⟩
theorem iff_any (a b c : Int) (p : Option Addr) (len cap : Nat) (zs : List Int) (w : World) (h : Sl w p len cap zs) :
    Calls Try.prog 42 #[.agg #[.int .i64 a, .int .i64 b, .int .i64 c], .slice p len cap] w fun e w' => e = .returned (.tuple #[.int .i64 (ffv a b c len zs), .int .i64 (ffc a b c len zs)]) ∧ Below w.heap.size w w' := by
  cases hg : gd a b c len zs
  · exact iff_no a b c p len cap zs w h hg
  · exact iff_yes a b c p len cap zs w h hg
end Go.Proofs.Ytemioipedkbkiaa
