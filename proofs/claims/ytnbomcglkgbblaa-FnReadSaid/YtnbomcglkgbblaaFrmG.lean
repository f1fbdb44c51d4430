/-
  Walks of the reference's functions that read a frame; both contracts joined.
-/
import Derived.Test.YtnbomcglkgbblaaFrmF
import Derived.Test.YtnbomcglkgbblaaFrmS
import Derived.Deep.RegionHeld3
namespace Go.Proofs.Ytnbomcglkgbblaa
open Go.RowKit
set_option linter.unusedVariables false

theorem hi_step {zs : List Int} {j : Nat} {H V : Int} (h : vs zs (j + 1) + 2 ^ (j + 1) * H = V) : vs zs j + 2 ^ j * (2 * H + zs.getD (1 + j) 0) = V := by
  rw [← h]
  simp only [vs]
  rw [Int.pow_succ, Int.mul_add, Int.mul_comm (zs.getD (1 + j) 0), Int.mul_assoc, Int.add_assoc, Int.add_comm (2 ^ j * (2 * H))]
theorem hi_bd {zs : List Int} {j : Nat} {H V : Int} (h : vs zs j + 2 ^ j * H = V) (h0 : 0 ≤ vs zs j) (hH : 0 ≤ H) : H ≤ V := by
  have hp : (1 : Int) ≤ 2 ^ j := by have : (0 : Int) < 2 ^ j := Int.pow_pos (by omega); omega
  have : 1 * H ≤ 2 ^ j * H := Int.mul_le_mul_of_nonneg_right hp hH
  omega
set_option maxHeartbeats 2000000 in
theorem sl1f_any (a b c : Int) (p : Option Addr) (len cap : Nat) (zs : List Int) (w : World) (h : Sl w p len cap zs) (hg : gd a b c len zs = true) :
    Calls Try.prog 57 #[.agg #[.int .i64 a, .int .i64 b, .int .i64 c], .slice p len cap] w fun e w' => e = .returned (.tuple #[.int .i64 (ffv a b c len zs), .int .i64 (ffc a b c len zs)]) ∧ Below w.heap.size w w' := by
  have hlc : (len : Int) ≤ 9223372036854775807 := by have := h.2.1; have := h.2.2.1; omega
  have HZ := hide h.1
  have B := hide ((Below.refl w.heap.size w).alloc (Nat.le_refl _) (.cells #[.int .i64 a, .int .i64 b, .int .i64 c] 36))
  have f := Bk.new w 36 #[.int .i64 a, .int .i64 b, .int .i64 c]
  have s := h.alloc (.cells #[.int .i64 a, .int .i64 b, .int .i64 c] 36)
  obtain ⟨hv, hl, ha, hz0⟩ := gd_parts hg
  obtain ⟨l7, l12⟩ := fl_bd hv
  obtain ⟨r1, r2, r3, r4, r5, r6⟩ := fv_iff.1 hv
  have e1 : ffv a b c len zs = vs zs a.toNat := by simp [ffv, hg]
  have e2 : ffc a b c len zs = if st c len zs = true then 2 else if b ≠ 0 ∧ zs.getD (1 + a.toNat) 0 ≠ pb b (vs zs a.toNat) then 1 else 0 := by simp only [ffc, hg, if_true]
  have hla : len = 1 + a.toNat + c.toNat + (if b = 0 then 0 else 1) := by
    simp only [flOf, hv, if_true] at hl
    split at hl <;> simp_all <;> omega
  obtain ⟨A, rfl⟩ := Int.eq_ofNat_of_zero_le (show 0 ≤ a by omega)
  simp only [Int.toNat_natCast] at hla e1 e2
  have HA := hide ha
  have HLA := hide hla
  have hlen7 : 7 ≤ len := by omega
  have hp : (7 : Int) ≤ (len : Int) := by omega
  have hV := vs_bd ha A (by rw [HZ.out]; omega)
  have h256 : vs zs A < 256 := by
    obtain rfl | rfl | rfl | rfl : A = 5 ∨ A = 6 ∨ A = 7 ∨ A = 8 := by omega
    all_goals (have := hV.2; simp at this; omega)
  have hV0 := hV.1
  obtain ⟨V, hVe⟩ : ∃ V, vs zs A = V := ⟨_, rfl⟩
  have HVE := hide hVe
  obtain ⟨R, hR⟩ : ∃ R, ffc (A : Int) b c len zs = R := ⟨_, rfl⟩
  have HE : Hid (R = if st c len zs = true then (2 : Int) else if b ≠ 0 ∧ zs.getD (1 + A) 0 ≠ pb b V then 1 else 0) := hide (by rw [← hVe, ← e2, hR])
  rw [hVe] at h256 hV0
  rw [e1, hVe, hR]
  clear hg hv hl ha hz0 e1 e2 hla l7 l12 hV hVe hR
  obtain ⟨y, hy, _⟩ := s.at_ (k := 0) (by omega)
  subst hy
  have q := f.cell
  have S := hide s
  clear s h
  go_enter Try.func57, Try.ntmps57
  go_wp2
  go_loop [6, 7] (fun q i => ∃ (j : Nat) (H : Int), q = .int .i64 H ∧ i = .int .i64 j ∧ j ≤ A ∧ 0 ≤ H ∧ vs zs j + 2 ^ j * H = V) (fun _ i => (intOf i).toNat)
  case atStart => exact ⟨A, 0, rfl, rfl, Nat.le_refl _, by omega, by have := HVE.out; simpa using this⟩
  case round =>
    obtain ⟨j, H, rfl, rfl, hjA, hH0, hH⟩ := hrel
    have hHV := hi_bd hH (vs_bd HA.out j (by rw [HZ.out]; have := HLA.out; split at this <;> omega)).1 hH0
    have HH := hide hH
    clear hH
    by_cases hj0 : 0 < j
    · obtain ⟨m, rfl⟩ : ∃ m, j = m + 1 := ⟨j - 1, by omega⟩
      have hj0' : (0 : Int) < ((m + 1 : Nat) : Int) := by omega
      obtain ⟨y', hy', hc⟩ := S.out.lit (k := m + 1) (by have := HLA.out; split at this <;> omega) (by omega)
      obtain rfl : y = y' := by injection hy'
      have hb := allBt_at HA.out (j := m + 1) (by rw [HZ.out]; have := HLA.out; split at this <;> omega)
      obtain ⟨z, hz⟩ : ∃ z, zs.getD (m + 1) 0 = z := ⟨_, rfl⟩
      rw [hz] at hc hb
      have HZE : Hid (zs.getD (1 + m) 0 = z) := hide (by rw [Nat.add_comm]; exact hz)
      have hml : ((m : Int) + 1) < (len : Int) := by have := HLA.out; split at this <;> omega
      clear hz hy'
      go_wp2
      go_round
      case rel => exact ⟨m, 2 * H + z, rfl, by go_num, by omega, by omega, by have := hi_step HH.out; rw [HZE.out] at this; exact this⟩
      case measure => simp [intOf]
    · obtain rfl : j = 0 := by omega
      obtain rfl : V = H := by have := HH.out; simp [vs] at this; omega
      clear hHV hH0 HH hjA
      obtain rfl | rfl : c = 1 ∨ c = 2 := by omega
      · obtain ⟨y', hy', hc⟩ := S.out.at_ (k := len - 1) (by omega)
        obtain rfl : y = y' := by injection hy'
        have hb := allBt_at HA.out (j := len - 1) (by rw [HZ.out]; omega)
        obtain ⟨z, hz⟩ : ∃ z, zs.getD (len - 1) 0 = z := ⟨_, rfl⟩
        rw [hz] at hc hb
        have HZE := hide hz
        have hn : ((len : Int) - 1).toNat = len - 1 := by omega
        clear hz
        go_wp2
        refine wp_loop_rounds 2 ?_
        rw [rounds_succ]
        obtain rfl | rfl : z = 0 ∨ z = 1 := by omega
        · have HS1 : Hid (st 1 len zs = true) := hide (by unfold st; rw [HZE.out]; simp)
          go_wp2
          go_ret2
          exact ⟨by rw [HE.out, HS1.out]; simp, B.out⟩
        · have HS1 : Hid (st 1 len zs = false) := hide (by unfold st; rw [HZE.out]; simp)
          go_wp2
          rw [rounds_succ]
          go_wp2
          clear hc hb hn
          by_cases hb0 : b = 0
          · subst hb0
            go_quiet (fail)
            go_wp2
            go_ret2
            exact ⟨by rw [HE.out, HS1.out]; simp, below_drewN B.out _⟩
          · have hbn : (b != 0) = true := by simpa using hb0
            obtain ⟨y2, hy2, hcp⟩ := S.out.lit (k := A + 1) (by have := HLA.out; split at this <;> omega) (by omega)
            obtain rfl : y = y2 := by injection hy2
            have hix : (A : Int) + 1 < (len : Int) := by have := HLA.out; split at this <;> omega
            obtain ⟨u, hu⟩ : ∃ u, zs.getD (1 + A) 0 = u := ⟨_, rfl⟩
            rw [Nat.add_comm A 1, hu, Nat.add_comm 1 A] at hcp
            rw [hu] at HE
            have KB := B.out
            have HN := hide hb0
            clear hb0 hu
            by_cases hun : u = pb b V
            · have ht : (u != pb b V) = false := by simpa using hun
              have HU := hide hun
              clear hun
              have x1 : IntKind.i64.wrap ((A : Int) + 1) = (A : Int) + 1 := IntWalk.i64_in _ (by omega)
              have x2 : (0 : Int) ≤ (A : Int) + 1 := by omega
              have x4 : ((A : Int) + 1).toNat = A + 1 := by omega
              go_region_held3 (fun W => (∀ i, W.cell? ⟨w.heap.size, i, none⟩ = #[Value.int .i64 A, .int .i64 b, .int .i64 1][i]?) ∧ W.cell? ⟨y.block, y.off + (A + 1), none⟩ = some (.int .i64 u) ∧ Bk W w.heap.size 36 #[Value.int .i64 A, .int .i64 b, .int .i64 1] ∧ Below w.heap.size w W)
                (first | exact ⟨f6.cell, c6, f6, l6⟩ | exact ⟨q, hcp, f, KB.drew⟩)
                (first | (go_at_call 60; refine (spar_any _ _ _ _ _ hV0 h256).mono ?_; rintro e w6 ⟨rfl, k6⟩; go_split_ands; have f6 := Bk.belowAll (by assumption) k6; have c6 := (k6.cell (block_lt_of_cell (by assumption))).trans (by assumption); have l6 := Below.trans (by assumption) (k6.mono (Below.size (by assumption)))))
              go_wp2
              go_ret2
              exact ⟨by rw [HE.out, HS1.out]; simp [HU.out], l6⟩
            · have ht : (u != pb b V) = true := by simpa using hun
              have HU := hide hun
              clear hun
              have x1 : IntKind.i64.wrap ((A : Int) + 1) = (A : Int) + 1 := IntWalk.i64_in _ (by omega)
              have x2 : (0 : Int) ≤ (A : Int) + 1 := by omega
              have x4 : ((A : Int) + 1).toNat = A + 1 := by omega
              go_region_held3 (fun W => (∀ i, W.cell? ⟨w.heap.size, i, none⟩ = #[Value.int .i64 A, .int .i64 b, .int .i64 1][i]?) ∧ W.cell? ⟨y.block, y.off + (A + 1), none⟩ = some (.int .i64 u) ∧ Bk W w.heap.size 36 #[Value.int .i64 A, .int .i64 b, .int .i64 1] ∧ Below w.heap.size w W)
                (first | exact ⟨f6.cell, c6, f6, l6⟩ | exact ⟨q, hcp, f, KB.drew⟩)
                (first | (go_at_call 60; refine (spar_any _ _ _ _ _ hV0 h256).mono ?_; rintro e w6 ⟨rfl, k6⟩; go_split_ands; have f6 := Bk.belowAll (by assumption) k6; have c6 := (k6.cell (block_lt_of_cell (by assumption))).trans (by assumption); have l6 := Below.trans (by assumption) (k6.mono (Below.size (by assumption)))))
              go_wp2
              go_ret2
              exact ⟨by rw [HE.out, HS1.out]; simp [HU.out, HN.out], l6⟩
      · obtain ⟨y', hy', hc⟩ := S.out.at_ (k := len - 1) (by omega)
        obtain rfl : y = y' := by injection hy'
        obtain ⟨y', hy', hd⟩ := S.out.at_ (k := len - 2) (by omega)
        obtain rfl : y = y' := by injection hy'
        have hb := allBt_at HA.out (j := len - 1) (by rw [HZ.out]; omega)
        have hb2 := allBt_at HA.out (j := len - 2) (by rw [HZ.out]; omega)
        obtain ⟨z, hz⟩ : ∃ z, zs.getD (len - 1) 0 = z := ⟨_, rfl⟩
        obtain ⟨z2, hz2⟩ : ∃ z2, zs.getD (len - 2) 0 = z2 := ⟨_, rfl⟩
        rw [hz] at hc hb
        rw [hz2] at hd hb2
        have HZE := hide hz
        have HZE2 := hide hz2
        have hn : ((len : Int) - 1).toNat = len - 1 := by omega
        have hn2 : ((len : Int) - 1 - 1).toNat = len - 2 := by omega
        have hn3 : ((len : Int) - 2).toNat = len - 2 := by omega
        clear hz hz2
        go_wp2
        refine wp_loop_rounds 3 ?_
        rw [rounds_succ]
        obtain rfl | rfl : z = 0 ∨ z = 1 := by omega
        · have HS1 : Hid (st 2 len zs = true) := hide (by unfold st; rw [HZE.out]; simp)
          go_wp2
          go_ret2
          exact ⟨by rw [HE.out, HS1.out]; simp, B.out⟩
        · obtain rfl | rfl : z2 = 0 ∨ z2 = 1 := by omega
          · have HS1 : Hid (st 2 len zs = true) := hide (by unfold st; rw [HZE2.out]; simp)
            go_wp2
            rw [rounds_succ]
            go_wp2
            go_ret2
            exact ⟨by rw [HE.out, HS1.out]; simp, B.out⟩
          · have HS1 : Hid (st 2 len zs = false) := hide (by unfold st; rw [HZE.out, HZE2.out]; simp)
            go_wp2
            rw [rounds_succ]
            go_wp2
            rw [rounds_succ]
            go_wp2
            clear hc hd hb hb2 hn hn2 hn3
            by_cases hb0 : b = 0
            · subst hb0
              go_quiet (fail)
              go_wp2
              go_ret2
              exact ⟨by rw [HE.out, HS1.out]; simp, below_drewN B.out _⟩
            · have hbn : (b != 0) = true := by simpa using hb0
              obtain ⟨y2, hy2, hcp⟩ := S.out.lit (k := A + 1) (by have := HLA.out; split at this <;> omega) (by omega)
              obtain rfl : y = y2 := by injection hy2
              have hix : (A : Int) + 1 < (len : Int) := by have := HLA.out; split at this <;> omega
              obtain ⟨u, hu⟩ : ∃ u, zs.getD (1 + A) 0 = u := ⟨_, rfl⟩
              rw [Nat.add_comm A 1, hu, Nat.add_comm 1 A] at hcp
              rw [hu] at HE
              have KB := B.out
              have HN := hide hb0
              clear hb0 hu
              by_cases hun : u = pb b V
              · have ht : (u != pb b V) = false := by simpa using hun
                have HU := hide hun
                clear hun
                have x1 : IntKind.i64.wrap ((A : Int) + 1) = (A : Int) + 1 := IntWalk.i64_in _ (by omega)
                have x2 : (0 : Int) ≤ (A : Int) + 1 := by omega
                have x4 : ((A : Int) + 1).toNat = A + 1 := by omega
                go_region_held3 (fun W => (∀ i, W.cell? ⟨w.heap.size, i, none⟩ = #[Value.int .i64 A, .int .i64 b, .int .i64 2][i]?) ∧ W.cell? ⟨y.block, y.off + (A + 1), none⟩ = some (.int .i64 u) ∧ Bk W w.heap.size 36 #[Value.int .i64 A, .int .i64 b, .int .i64 2] ∧ Below w.heap.size w W)
                  (first | exact ⟨f6.cell, c6, f6, l6⟩ | exact ⟨q, hcp, f, KB.drew⟩)
                  (first | (go_at_call 60; refine (spar_any _ _ _ _ _ hV0 h256).mono ?_; rintro e w6 ⟨rfl, k6⟩; go_split_ands; have f6 := Bk.belowAll (by assumption) k6; have c6 := (k6.cell (block_lt_of_cell (by assumption))).trans (by assumption); have l6 := Below.trans (by assumption) (k6.mono (Below.size (by assumption)))))
                go_wp2
                go_ret2
                exact ⟨by rw [HE.out, HS1.out]; simp [HU.out], l6⟩
              · have ht : (u != pb b V) = true := by simpa using hun
                have HU := hide hun
                clear hun
                have x1 : IntKind.i64.wrap ((A : Int) + 1) = (A : Int) + 1 := IntWalk.i64_in _ (by omega)
                have x2 : (0 : Int) ≤ (A : Int) + 1 := by omega
                have x4 : ((A : Int) + 1).toNat = A + 1 := by omega
                go_region_held3 (fun W => (∀ i, W.cell? ⟨w.heap.size, i, none⟩ = #[Value.int .i64 A, .int .i64 b, .int .i64 2][i]?) ∧ W.cell? ⟨y.block, y.off + (A + 1), none⟩ = some (.int .i64 u) ∧ Bk W w.heap.size 36 #[Value.int .i64 A, .int .i64 b, .int .i64 2] ∧ Below w.heap.size w W)
                  (first | exact ⟨f6.cell, c6, f6, l6⟩ | exact ⟨q, hcp, f, KB.drew⟩)
                  (first | (go_at_call 60; refine (spar_any _ _ _ _ _ hV0 h256).mono ?_; rintro e w6 ⟨rfl, k6⟩; go_split_ands; have f6 := Bk.belowAll (by assumption) k6; have c6 := (k6.cell (block_lt_of_cell (by assumption))).trans (by assumption); have l6 := Below.trans (by assumption) (k6.mono (Below.size (by assumption)))))
                go_wp2
                go_ret2
                exact ⟨by rw [HE.out, HS1.out]; simp [HU.out, HN.out], l6⟩
set_option maxHeartbeats 1000000 in
theorem sff_any (a b c : Int) (p : Option Addr) (len cap : Nat) (zs : List Int) (w : World) (h : Sl w p len cap zs) :
    Calls Try.prog 50 #[.agg #[.int .i64 a, .int .i64 b, .int .i64 c], .slice p len cap] w fun e w' => e = .returned (.tuple #[.int .i64 (ffv a b c len zs), .int .i64 (ffc a b c len zs)]) ∧ Below w.heap.size w w' := by
  have hlc : (len : Int) ≤ 9223372036854775807 := by have := h.2.1; have := h.2.2.1; omega
  have HZ := hide h.1
  have B := hide ((Below.refl w.heap.size w).alloc (Nat.le_refl _) (.cells #[.int .i64 a, .int .i64 b, .int .i64 c] 36))
  have f := Bk.new w 36 #[.int .i64 a, .int .i64 b, .int .i64 c]
  have s := h.alloc (.cells #[.int .i64 a, .int .i64 b, .int .i64 c] 36)
  by_cases hl : (len : Int) = flOf a b c
  · have hv : fv a b c = true := by
      cases hv : fv a b c
      · rw [fl_no hv] at hl; omega
      · rfl
    obtain ⟨l7, l12⟩ := fl_bd hv
    by_cases hz0 : zs.getD 0 0 = 0
    · have HB : allBt zs = false → Hid (ffv a b c len zs = 0 ∧ ffc a b c len zs = 3) := fun ha => hide (by simp [ffv, ffc, gd, ha])
      have HG : allBt zs = true → Hid (gd a b c len zs = true) := fun ha => hide (by simp only [gd, hv, ha, hz0, hl]; simp)
      have HL := hide hl
      have HLC := hide hlc
      have hlp : (0 : Int) < (len : Int) := by omega
      obtain ⟨y, hy, hc⟩ := s.at_ (k := 0) (by omega)
      subst hy
      rw [hz0] at hc
      have HH := hide hc
      clear hz0 hv hl l7 l12 hc
      go_enter Try.func50, Try.ntmps50
      go_wp2_with fail
      refine (sfl_any _ _ _ _).mono ?_
      rintro e w1 ⟨rfl, k1⟩
      rw [← HL.out]
      have f := f.belowAll k1
      have s := s.below k1 (Nat.le_refl _)
      have hc1 : w1.cell? y = some (.int .i64 0) := by
        obtain ⟨y', hy', hc⟩ := s.at_ (k := 0) (by omega)
        obtain rfl : y = y' := by injection hy'
        have e := HH.out
        have hlt := block_lt_of_cell e
        have := (k1.cell hlt).trans e
        simpa [Addr.add] using this
      have K := hide (B.out.trans (k1.mono (by simp)))
      have q := f.cell
      have S := hide s
      clear k1 s HH
      go_wp2
      go_loop [6] (fun i => ∃ k : Nat, k ≤ len ∧ i = .int .i64 k ∧ ∀ j, j < k → isBt (zs.getD j 0) = true) (fun i => len - (intOf i).toNat)
      case atStart => exact ⟨0, by omega, rfl, fun j hj => absurd hj (by omega)⟩
      case round =>
        obtain ⟨k, hk, rfl, hall⟩ := hrel
        have HA := hide hall
        clear hall
        by_cases hlt : k < len
        · obtain ⟨y', hy', hc⟩ := S.out.at_ hlt
          obtain rfl : y = y' := by injection hy'
          have hlt' : (k : Int) < (len : Int) := by omega
          obtain ⟨z, hz⟩ : ∃ z, zs.getD k 0 = z := ⟨_, rfl⟩
          rw [hz] at hc
          have HK := hide hz
          clear hz hy'
          cases hb : isBt z
          · have hb' : (decide (0 ≤ z) && decide (z ≤ 1)) = false := hb
            have HE := HB (allBt_no (k := k) (by rw [HZ.out]; exact hlt) (by rw [HK.out]; exact hb))
            clear hb HB HG
            go_wp2_with (go_at_call 39; refine (l6In_any _ _ _ _).mono ?_; rintro e w' ⟨rfl, rfl⟩; rw [hb'])
            go_ret2
            exact ⟨by rw [HE.out.1, HE.out.2]; rfl, K.out⟩
          · have hb' : (decide (0 ≤ z) && decide (z ≤ 1)) = true := hb
            have HBB := hide hb
            clear hb HB HG
            go_wp2_with (go_at_call 39; refine (l6In_any _ _ _ _).mono ?_; rintro e w' ⟨rfl, rfl⟩; rw [hb'])
            go_round
            case rel => exact ⟨k + 1, by omega, by go_num, fun j hj => by
              by_cases e : j = k
              · subst e; rw [HK.out]; exact HBB.out
              · exact HA.out j (by omega)⟩
            case measure => simp [intOf]; omega
        · have hge : ¬ (k : Int) < (len : Int) := by omega
          have HG2 := HG (allBt_yes fun j hj => HA.out j (by have := HZ.out; omega))
          have S2 := S.out
          clear HG HB
          go_wp2_with fail
          refine (sl1f_any _ _ _ _ _ _ zs _ S2 HG2.out).mono ?_
          rintro e w2 ⟨rfl, k2⟩
          have K := hide (K.out.trans (k2.mono K.out.size))
          clear k2
          go_wp2
          go_ret2
          exact ⟨rfl, K.out⟩
    · have e1 : ffv a b c len zs = 0 := by simp only [ffv, gd]; simp; intros; simp_all
      have e2 : ffc a b c len zs = 3 := by simp only [ffc, gd]; simp; intros; simp_all
      rw [e1, e2]
      have HL := hide hl
      have hlp : (0 : Int) < (len : Int) := by omega
      obtain ⟨y, hy, hc⟩ := s.at_ (k := 0) (by omega)
      subst hy
      obtain ⟨z, hz⟩ : ∃ z, zs.getD 0 0 = z := ⟨_, rfl⟩
      rw [hz] at hc hz0
      have hne : (z != 0) = true := by simpa using hz0
      have HH := hide hc
      clear hz0 hv hl l7 l12 hc hz e1 e2
      go_enter Try.func50, Try.ntmps50
      go_wp2_with fail
      refine (sfl_any _ _ _ _).mono ?_
      rintro e w1 ⟨rfl, k1⟩
      rw [← HL.out]
      have hc1 : w1.cell? y = some (.int .i64 z) := by
        have e := HH.out
        have hlt := block_lt_of_cell e
        have := (k1.cell hlt).trans e
        simpa [Addr.add] using this
      have K := hide (B.out.trans (k1.mono (by simp)))
      clear k1 HH s
      go_wp2
      go_ret2
      exact ⟨rfl, K.out⟩
  · have e1 : ffv a b c len zs = 0 := by simp [ffv, gd, hl]
    have e2 : ffc a b c len zs = 3 := by simp [ffc, gd, hl]
    rw [e1, e2]
    have hne : ((len : Int) != flOf a b c) = true := by simpa using hl
    clear hl e1 e2
    go_enter Try.func50, Try.ntmps50
    go_wp2_with fail
    refine (sfl_any _ _ _ _).mono ?_
    rintro e w1 ⟨rfl, k1⟩
    have K := hide (B.out.trans (k1.mono (by simp)))
    clear k1 s
    go_wp2
    go_ret2
    exact ⟨rfl, K.out⟩
end Go.Proofs.Ytnbomcglkgbblaa
