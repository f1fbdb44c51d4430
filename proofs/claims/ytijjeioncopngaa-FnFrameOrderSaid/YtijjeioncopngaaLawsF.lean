/-
  The walks of the drawn laws on the bits of a frame: each law returns true for every code and turns nothing that was there.
-/
import Derived.Test.YtijjeioncopngaaDrawB
import Derived.Test.YtijjeioncopngaaFrmG
import Derived.Test.YtijjeioncopngaaOwnB
namespace Go.Proofs.Ytijjeioncopngaa
open Go.RowKit
set_option linter.unusedVariables false

set_option maxHeartbeats 2000000 in
theorem fnFrameEnds_walk (a : Option Addr) (len cap : Nat) (zs : List Int) (w : World) (h : IsRow .u8 w a len cap zs) :
    Calls Try.prog 5 #[.slice a len cap] w fun e w' => e = .returned (.bool true) ∧ Below w.heap.size w w' := by
  by_cases hbig : (1048576 : Int) < (len : Int)
  · go_enter Try.func5, Try.ntmps5
    go_wp2
    go_ret
    exact ⟨rfl, Below.refl _ _⟩
  · have hsm : ¬ (1048576 : Int) < (len : Int) := hbig
    go_enter Try.func5, Try.ntmps5
    go_wp2_with fail
    refine (dDrawFrameBits_any a len cap zs _ h).mono ?_
    rintro e w1 ⟨x, y, z, b, rfl, hx, k1⟩
    have f := Bk.new w1 27 #[.int .i64 x, .int .i64 y, .int .i64 z]
    have K := hide (k1.alloc k1.size (.cells #[.int .i64 x, .int .i64 y, .int .i64 z] 27))
    have F0 := hide k1.size
    clear k1
    have q := f.cell
    obtain ⟨hx0, hx1, hy0, hy1, hz0, hz1, hb0, hb1⟩ := hx
    obtain ⟨F, hF⟩ : ∃ F, w1.heap.size = F := ⟨_, rfl⟩
    rw [hF] at f q
    have HF := hide hF
    go_wp2_with fail
    clear hF
    cases hv : fok x y z b
    · have HV := hide hv
      clear hv
      refine (ifb_no _ _ _ _ _ HV.out).mono ?_
      rintro e w' ⟨rfl, k⟩
      clear q
      have f := f.belowAll k
      have K := hide (K.out.trans (k.mono (by have := K.out.size; first | exact this | simpa using this)))
      clear k
      have q := f.cell
      go_wp2_with fail
      refine (sfb_no _ _ _ _ _ HV.out).mono ?_
      rintro e w' ⟨h2, rfl, o, k⟩
      clear q
      have f := f.belowAll k
      have K := hide (K.out.trans (k.mono (by have := K.out.size; first | exact this | simpa using this)))
      clear k
      have q := f.cell
      go_wp2_with fail
      refine (sameInts_any _ _ _ _ _ _ [] [] _ (Sl.nil_ _ _ _ (by omega)) o.sl).mono ?_
      rintro e w' ⟨rfl, qq, hw⟩
      simp only [decide_true]
      clear q
      have K := hide (show Below w.heap.size w w' from hw ▸ below_drewN K.out qq)
      have f : Bk w' _ _ _ := hw ▸ f.drewN qq
      have o : Own w' _ _ _ _ _ := hw ▸ Own.drewN o qq
      clear hw
      have q := f.cell
      go_wp2_with fail
      refine (sameInts_any _ _ _ _ _ _ [] [] _ (Sl.nil_ _ _ _ (by omega)) o.sl).mono ?_
      rintro e w' ⟨rfl, qq, hw⟩
      simp only [decide_true]
      clear q
      have K := hide (show Below w.heap.size w w' from hw ▸ below_drewN K.out qq)
      have f : Bk w' _ _ _ := hw ▸ f.drewN qq
      have o : Own w' _ _ _ _ _ := hw ▸ Own.drewN o qq
      clear hw
      have q := f.cell
      go_wp2
      go_ret
      exact ⟨rfl, K.out⟩
    · have HV := hide hv
      have HL := hide (frm_len hv)
      obtain ⟨r1, r2, r3, r4, r5, r6⟩ := fv_iff.1 (fok_parts hv).1
      have HFL := hide (frm_length (x := b) (fok_parts hv).1)
      clear hv
      refine (ifb_yes _ _ _ _ _ HV.out).mono ?_
      rintro e w' ⟨h4, n4, c4, rfl, o, k⟩
      clear q
      have f := f.belowAll k
      have K := hide (K.out.trans (k.mono (by have := K.out.size; first | exact this | simpa using this)))
      clear k
      have q := f.cell
      have HN := hide o.len
      have hn7 : 7 ≤ n4 := by have := HN.out; have := HL.out; omega
      have hn12 : n4 ≤ 12 := by have := HN.out; have := HL.out; omega
      have HFG := hide (show F < h4 by have := o.lt; simp at this; have := HF.out; omega)
      go_wp2_with fail
      refine (sfb_yes _ _ _ _ _ HV.out).mono ?_
      rintro e w' ⟨h5, n5, c5, rfl, g, k⟩
      clear q
      have o := o.belowAll k
      have f := f.belowAll k
      have K := hide (K.out.trans (k.mono (by have := K.out.size; first | exact this | simpa using this)))
      clear k
      have q := f.cell
      have hn5 : n5 = n4 := by have := g.len; have := HN.out; omega
      subst hn5
      go_wp2_with fail
      refine (sameInts_any _ _ _ _ _ _ (frm x y z b) (frm x y z b) _ o.sl g.sl).mono ?_
      rintro e w' ⟨rfl, qq, hw⟩
      simp only [decide_true]
      clear q
      have K := hide (show Below w.heap.size w w' from hw ▸ below_drewN K.out qq)
      have f : Bk w' _ _ _ := hw ▸ f.drewN qq
      have o : Own w' _ _ _ _ _ := hw ▸ Own.drewN o qq
      have g : Own w' _ _ _ _ _ := hw ▸ Own.drewN g qq
      clear hw
      have q := f.cell
      go_wp2_with fail
      refine (ifl_any _ _ _ _).mono ?_
      rintro e w' ⟨rfl, k⟩
      rw [← HFL.out, HN.out]
      clear q
      have o := o.belowAll k
      have K := hide (K.out.trans (k.mono K.out.size))
      clear k g f
      have hc0 := o.cellAt (j := 0) (by omega)
      have hc1 := o.cellAt (j := n5 - 1) (by omega)
      rw [frm_zero] at hc0
      rw [frm_one (fok_parts HV.out).1 (by have := HFL.out; have := HN.out; omega) (by have := HFL.out; have := HN.out; omega)] at hc1
      go_wp2
      go_ret
      exact ⟨rfl, K.out⟩
set_option maxHeartbeats 2000000 in
theorem fnFrameOrder_walk (a : Option Addr) (len cap : Nat) (zs : List Int) (w : World) (h : IsRow .u8 w a len cap zs) :
    Calls Try.prog 6 #[.slice a len cap] w fun e w' => e = .returned (.bool true) ∧ Below w.heap.size w w' := by
  by_cases hbig : (1048576 : Int) < (len : Int)
  · go_enter Try.func6, Try.ntmps6
    go_wp2
    go_ret
    exact ⟨rfl, Below.refl _ _⟩
  · have hsm : ¬ (1048576 : Int) < (len : Int) := hbig
    go_enter Try.func6, Try.ntmps6
    go_wp2_with fail
    refine (dDrawFrameBits_any a len cap zs _ h).mono ?_
    rintro e w1 ⟨x, y, z, b, rfl, hx, k1⟩
    have f := Bk.new w1 27 #[.int .i64 x, .int .i64 y, .int .i64 z]
    have K := hide (k1.alloc k1.size (.cells #[.int .i64 x, .int .i64 y, .int .i64 z] 27))
    have F0 := hide k1.size
    clear k1
    have q := f.cell
    obtain ⟨hx0, hx1, hy0, hy1, hz0, hz1, hb0, hb1⟩ := hx
    obtain ⟨F, hF⟩ : ∃ F, w1.heap.size = F := ⟨_, rfl⟩
    rw [hF] at f q
    have HF := hide hF
    go_wp2_with fail
    clear hF
    cases hv : fok x y z b
    · have HV := hide hv
      clear hv
      refine (ifb_no _ _ _ _ _ HV.out).mono ?_
      rintro e w' ⟨rfl, k⟩
      clear q
      have f := f.belowAll k
      have K := hide (K.out.trans (k.mono (by have := K.out.size; first | exact this | simpa using this)))
      clear k
      have q := f.cell
      go_wp2_with fail
      refine (sfb_no _ _ _ _ _ HV.out).mono ?_
      rintro e w' ⟨h2, rfl, o, k⟩
      clear q
      have f := f.belowAll k
      have K := hide (K.out.trans (k.mono (by have := K.out.size; first | exact this | simpa using this)))
      clear k
      have q := f.cell
      go_wp2_with fail
      refine (sameInts_any _ _ _ _ _ _ [] [] _ (Sl.nil_ _ _ _ (by omega)) o.sl).mono ?_
      rintro e w' ⟨rfl, qq, hw⟩
      simp only [decide_true]
      clear q
      have K := hide (show Below w.heap.size w w' from hw ▸ below_drewN K.out qq)
      have f : Bk w' _ _ _ := hw ▸ f.drewN qq
      have o : Own w' _ _ _ _ _ := hw ▸ Own.drewN o qq
      clear hw
      have q := f.cell
      go_wp2_with fail
      refine (sameInts_any _ _ _ _ _ _ [] [] _ (Sl.nil_ _ _ _ (by omega)) o.sl).mono ?_
      rintro e w' ⟨rfl, qq, hw⟩
      simp only [decide_true]
      clear q
      have K := hide (show Below w.heap.size w w' from hw ▸ below_drewN K.out qq)
      have f : Bk w' _ _ _ := hw ▸ f.drewN qq
      have o : Own w' _ _ _ _ _ := hw ▸ Own.drewN o qq
      clear hw
      have q := f.cell
      go_wp2
      go_ret
      exact ⟨rfl, K.out⟩
    · have HV := hide hv
      have HL := hide (frm_len hv)
      obtain ⟨r1, r2, r3, r4, r5, r6⟩ := fv_iff.1 (fok_parts hv).1
      have HFL := hide (frm_length (x := b) (fok_parts hv).1)
      clear hv
      refine (ifb_yes _ _ _ _ _ HV.out).mono ?_
      rintro e w' ⟨h4, n4, c4, rfl, o, k⟩
      clear q
      have f := f.belowAll k
      have K := hide (K.out.trans (k.mono (by have := K.out.size; first | exact this | simpa using this)))
      clear k
      have q := f.cell
      have HN := hide o.len
      have hn7 : 7 ≤ n4 := by have := HN.out; have := HL.out; omega
      have hn12 : n4 ≤ 12 := by have := HN.out; have := HL.out; omega
      have HFG := hide (show F < h4 by have := o.lt; simp at this; have := HF.out; omega)
      go_wp2_with fail
      refine (sfb_yes _ _ _ _ _ HV.out).mono ?_
      rintro e w' ⟨h5, n5, c5, rfl, g, k⟩
      clear q
      have o := o.belowAll k
      have f := f.belowAll k
      have K := hide (K.out.trans (k.mono (by have := K.out.size; first | exact this | simpa using this)))
      clear k
      have q := f.cell
      have hn5 : n5 = n4 := by have := g.len; have := HN.out; omega
      subst hn5
      go_wp2_with fail
      refine (sameInts_any _ _ _ _ _ _ (frm x y z b) (frm x y z b) _ o.sl g.sl).mono ?_
      rintro e w' ⟨rfl, qq, hw⟩
      simp only [decide_true]
      clear q
      have K := hide (show Below w.heap.size w w' from hw ▸ below_drewN K.out qq)
      have f : Bk w' _ _ _ := hw ▸ f.drewN qq
      have o : Own w' _ _ _ _ _ := hw ▸ Own.drewN o qq
      have g : Own w' _ _ _ _ _ := hw ▸ Own.drewN g qq
      clear hw
      have q := f.cell
      clear g
      have HB := hide (frm_bits x y z b)
      have HO := hide o
      clear q
      have q := f.cell
      go_wp2
      go_loop [9, 10, 11] (fun n p i => ∃ k : Nat, n = .int .i64 (vs (frm x y z b) k) ∧ p = .int .i64 (2 ^ k) ∧ i = .int .i64 k ∧ (k : Int) ≤ x) (fun _ _ i => x.toNat - (intOf i).toNat)
      case atStart => exact ⟨0, rfl, rfl, rfl, by omega⟩
      case round =>
        obtain ⟨k, rfl, rfl, rfl, hkx⟩ := hrel
        have hk8 : k ≤ 8 := by omega
        have hkn : k + 2 ≤ n5 := by have := HN.out; have := HFL.out; have : x + 2 ≤ flOf x y z := by { simp only [flOf, (fok_parts HV.out).1, if_true]; split <;> omega }; omega
        have hV := vs_bd HB.out k (by rw [HN.out]; omega)
        obtain ⟨hp0, hp1⟩ : (1 : Int) ≤ 2 ^ k ∧ (2 : Int) ^ k ≤ 256 := by
          obtain rfl | rfl | rfl | rfl | rfl | rfl | rfl | rfl | rfl : k = 0 ∨ k = 1 ∨ k = 2 ∨ k = 3 ∨ k = 4 ∨ k = 5 ∨ k = 6 ∨ k = 7 ∨ k = 8 := by omega
          all_goals decide
        obtain ⟨P, hP⟩ : ∃ P : Int, 2 ^ k = P := ⟨_, rfl⟩
        obtain ⟨V, hVe⟩ : ∃ V, vs (frm x y z b) k = V := ⟨_, rfl⟩
        rw [hP] at hp0 hp1 hV
        rw [hVe] at hV
        rw [hP, hVe]
        have HP := hide hP
        have HVE := hide hVe
        obtain ⟨hV0, hV1⟩ := hV
        clear hP hVe
        by_cases hlt : (k : Int) < x
        · have hc := HO.out.cellAt (j := 1 + k) (by omega)
          have hb := allBt_at HB.out (j := 1 + k) (by rw [HN.out]; omega)
          obtain ⟨u, hu⟩ : ∃ u, (frm x y z b).getD (1 + k) 0 = u := ⟨_, rfl⟩
          rw [hu] at hc hb
          have HU := hide hu
          have hkn' : (k : Int) + 2 ≤ (n5 : Int) := by omega
          clear hu
          obtain rfl | rfl : u = 0 ∨ u = 1 := by omega
          all_goals
            go_wp2
            go_round
            case rel => exact ⟨k + 1, by congr 1; rw [show vs (frm x y z b) (k + 1) = vs (frm x y z b) k + (frm x y z b).getD (1 + k) 0 * 2 ^ k from rfl, HVE.out, HU.out, HP.out]; omega, by congr 1; rw [Int.pow_succ, HP.out]; omega, by go_num, by omega⟩
            case measure => simp [intOf]; omega
        · have e : V = b := by
            have := vs_frm_all HV.out
            rw [show x.toNat = k by omega, HVE.out] at this
            exact this
          subst e
          go_wp2
          go_ret
          exact ⟨rfl, K.out⟩
set_option maxHeartbeats 2000000 in
theorem fnFrameParity_walk (a : Option Addr) (len cap : Nat) (zs : List Int) (w : World) (h : IsRow .u8 w a len cap zs) :
    Calls Try.prog 7 #[.slice a len cap] w fun e w' => e = .returned (.bool true) ∧ Below w.heap.size w w' := by
  by_cases hbig : (1048576 : Int) < (len : Int)
  · go_enter Try.func7, Try.ntmps7
    go_wp2
    go_ret
    exact ⟨rfl, Below.refl _ _⟩
  · have hsm : ¬ (1048576 : Int) < (len : Int) := hbig
    go_enter Try.func7, Try.ntmps7
    go_wp2_with fail
    refine (dDrawFrameBits_any a len cap zs _ h).mono ?_
    rintro e w1 ⟨x, y, z, b, rfl, hx, k1⟩
    have f := Bk.new w1 27 #[.int .i64 x, .int .i64 y, .int .i64 z]
    have K := hide (k1.alloc k1.size (.cells #[.int .i64 x, .int .i64 y, .int .i64 z] 27))
    have F0 := hide k1.size
    clear k1
    have q := f.cell
    obtain ⟨hx0, hx1, hy0, hy1, hz0, hz1, hb0, hb1⟩ := hx
    obtain ⟨F, hF⟩ : ∃ F, w1.heap.size = F := ⟨_, rfl⟩
    rw [hF] at f q
    have HF := hide hF
    go_wp2_with fail
    clear hF
    cases hv : fok x y z b
    · have HV := hide hv
      clear hv
      refine (ifb_no _ _ _ _ _ HV.out).mono ?_
      rintro e w' ⟨rfl, k⟩
      clear q
      have f := f.belowAll k
      have K := hide (K.out.trans (k.mono (by have := K.out.size; first | exact this | simpa using this)))
      clear k
      have q := f.cell
      go_wp2_with fail
      refine (sfb_no _ _ _ _ _ HV.out).mono ?_
      rintro e w' ⟨h2, rfl, o, k⟩
      clear q
      have f := f.belowAll k
      have K := hide (K.out.trans (k.mono (by have := K.out.size; first | exact this | simpa using this)))
      clear k
      have q := f.cell
      go_wp2_with fail
      refine (sameInts_any _ _ _ _ _ _ [] [] _ (Sl.nil_ _ _ _ (by omega)) o.sl).mono ?_
      rintro e w' ⟨rfl, qq, hw⟩
      simp only [decide_true]
      clear q
      have K := hide (show Below w.heap.size w w' from hw ▸ below_drewN K.out qq)
      have f : Bk w' _ _ _ := hw ▸ f.drewN qq
      have o : Own w' _ _ _ _ _ := hw ▸ Own.drewN o qq
      clear hw
      have q := f.cell
      go_wp2_with fail
      refine (sameInts_any _ _ _ _ _ _ [] [] _ (Sl.nil_ _ _ _ (by omega)) o.sl).mono ?_
      rintro e w' ⟨rfl, qq, hw⟩
      simp only [decide_true]
      clear q
      have K := hide (show Below w.heap.size w w' from hw ▸ below_drewN K.out qq)
      have f : Bk w' _ _ _ := hw ▸ f.drewN qq
      have o : Own w' _ _ _ _ _ := hw ▸ Own.drewN o qq
      clear hw
      have q := f.cell
      go_wp2
      go_ret
      exact ⟨rfl, K.out⟩
    · have HV := hide hv
      have HL := hide (frm_len hv)
      obtain ⟨r1, r2, r3, r4, r5, r6⟩ := fv_iff.1 (fok_parts hv).1
      have HFL := hide (frm_length (x := b) (fok_parts hv).1)
      clear hv
      refine (ifb_yes _ _ _ _ _ HV.out).mono ?_
      rintro e w' ⟨h4, n4, c4, rfl, o, k⟩
      clear q
      have f := f.belowAll k
      have K := hide (K.out.trans (k.mono (by have := K.out.size; first | exact this | simpa using this)))
      clear k
      have q := f.cell
      have HN := hide o.len
      have hn7 : 7 ≤ n4 := by have := HN.out; have := HL.out; omega
      have hn12 : n4 ≤ 12 := by have := HN.out; have := HL.out; omega
      have HFG := hide (show F < h4 by have := o.lt; simp at this; have := HF.out; omega)
      go_wp2_with fail
      refine (sfb_yes _ _ _ _ _ HV.out).mono ?_
      rintro e w' ⟨h5, n5, c5, rfl, g, k⟩
      clear q
      have o := o.belowAll k
      have f := f.belowAll k
      have K := hide (K.out.trans (k.mono (by have := K.out.size; first | exact this | simpa using this)))
      clear k
      have q := f.cell
      have hn5 : n5 = n4 := by have := g.len; have := HN.out; omega
      subst hn5
      go_wp2_with fail
      refine (sameInts_any _ _ _ _ _ _ (frm x y z b) (frm x y z b) _ o.sl g.sl).mono ?_
      rintro e w' ⟨rfl, qq, hw⟩
      simp only [decide_true]
      clear q
      have K := hide (show Below w.heap.size w w' from hw ▸ below_drewN K.out qq)
      have f : Bk w' _ _ _ := hw ▸ f.drewN qq
      have o : Own w' _ _ _ _ _ := hw ▸ Own.drewN o qq
      have g : Own w' _ _ _ _ _ := hw ▸ Own.drewN g qq
      clear hw
      have q := f.cell
      by_cases hy : y = 0
      · have hy1 : (y == 0) = true := by simpa using hy
        clear hy
        go_wp2_with fail
        refine (sameInts_any _ _ _ _ _ _ (frm x y z b) (frm x y z b) _ o.sl g.sl).mono ?_
        rintro e w' ⟨rfl, qq, hw⟩
        simp only [decide_true]
        clear q
        have K := hide (show Below w.heap.size w w' from hw ▸ below_drewN K.out qq)
        have f : Bk w' _ _ _ := hw ▸ f.drewN qq
        have o : Own w' _ _ _ _ _ := hw ▸ Own.drewN o qq
        have g : Own w' _ _ _ _ _ := hw ▸ Own.drewN g qq
        clear hw
        have q := f.cell
        go_wp2
        go_ret
        exact ⟨rfl, K.out⟩
      · have hyn : (y == 0) = false := by simpa using hy
        have HY := hide hy
        clear g hy
        have HB := hide (frm_bits x y z b)
        have HO := hide o
        go_wp2
        go_loop [9, 10] (fun n i => ∃ k : Nat, n = .int .i64 (sm (frm x y z b) k) ∧ i = .int .i64 (1 + k) ∧ (k : Int) ≤ x + 1 ∧ 0 ≤ sm (frm x y z b) k ∧ sm (frm x y z b) k ≤ k) (fun _ i => x.toNat + 2 - (intOf i).toNat)
        case atStart => exact ⟨0, rfl, rfl, by omega, by simp [sm], by simp [sm]⟩
        case round =>
          obtain ⟨k, rfl, rfl, hkx, hs0, hs1⟩ := hrel
          obtain ⟨V, hVe⟩ : ∃ V, sm (frm x y z b) k = V := ⟨_, rfl⟩
          rw [hVe] at hs0 hs1 ⊢
          have HVE := hide hVe
          clear hVe
          by_cases hlt : (k : Int) < x + 1
          · have hkn : k + 1 < n5 := by have := HN.out; have := HFL.out; have := fl_some (fok_parts HV.out).1 HY.out; omega
            have hc := HO.out.cellAt (j := 1 + k) (by omega)
            have hb := allBt_at HB.out (j := 1 + k) (by rw [HN.out]; omega)
            obtain ⟨u, hu⟩ : ∃ u, (frm x y z b).getD (1 + k) 0 = u := ⟨_, rfl⟩
            rw [hu] at hc hb
            have HU := hide hu
            have hkn' : (k : Int) + 1 < (n5 : Int) := by omega
            clear hu
            go_wp2
            go_round
            case rel => exact ⟨k + 1, by congr 1; rw [show sm (frm x y z b) (k + 1) = sm (frm x y z b) k + (frm x y z b).getD (1 + k) 0 from rfl, HVE.out, HU.out], by go_num, by omega, by rw [show sm (frm x y z b) (k + 1) = sm (frm x y z b) k + (frm x y z b).getD (1 + k) 0 from rfl, HVE.out, HU.out]; omega, by rw [show sm (frm x y z b) (k + 1) = sm (frm x y z b) k + (frm x y z b).getD (1 + k) 0 from rfl, HVE.out, HU.out]; omega⟩
            case measure => simp [intOf]; omega
          · have hk : k = x.toNat + 1 := by omega
            have e := sm_par HV.out HY.out
            rw [← hk, HVE.out] at e
            clear hk
            go_wp2
            go_ret
            exact ⟨rfl, K.out⟩
set_option maxHeartbeats 2000000 in
theorem fnFrame_walk (a : Option Addr) (len cap : Nat) (zs : List Int) (w : World) (h : IsRow .u8 w a len cap zs) :
    Calls Try.prog 8 #[.slice a len cap] w fun e w' => e = .returned (.bool true) ∧ Below w.heap.size w w' := by
  by_cases hbig : (1048576 : Int) < (len : Int)
  · go_enter Try.func8, Try.ntmps8
    go_wp2
    go_ret
    exact ⟨rfl, Below.refl _ _⟩
  · have hsm : ¬ (1048576 : Int) < (len : Int) := hbig
    go_enter Try.func8, Try.ntmps8
    go_wp2_with fail
    refine (dDrawFrameBits_any a len cap zs _ h).mono ?_
    rintro e w1 ⟨x, y, z, b, rfl, hx, k1⟩
    have f := Bk.new w1 27 #[.int .i64 x, .int .i64 y, .int .i64 z]
    have K := hide (k1.alloc k1.size (.cells #[.int .i64 x, .int .i64 y, .int .i64 z] 27))
    have F0 := hide k1.size
    clear k1
    have q := f.cell
    obtain ⟨hx0, hx1, hy0, hy1, hz0, hz1, hb0, hb1⟩ := hx
    obtain ⟨F, hF⟩ : ∃ F, w1.heap.size = F := ⟨_, rfl⟩
    rw [hF] at f q
    have HF := hide hF
    go_wp2_with fail
    clear hF
    cases hv : fok x y z b
    · have HV := hide hv
      clear hv
      refine (ifb_no _ _ _ _ _ HV.out).mono ?_
      rintro e w' ⟨rfl, k⟩
      clear q
      have f := f.belowAll k
      have K := hide (K.out.trans (k.mono (by have := K.out.size; first | exact this | simpa using this)))
      clear k
      have q := f.cell
      go_wp2_with fail
      refine (sfb_no _ _ _ _ _ HV.out).mono ?_
      rintro e w' ⟨h2, rfl, o, k⟩
      clear q
      have f := f.belowAll k
      have K := hide (K.out.trans (k.mono (by have := K.out.size; first | exact this | simpa using this)))
      clear k
      have q := f.cell
      go_wp2_with fail
      refine (sameInts_any _ _ _ _ _ _ [] [] _ (Sl.nil_ _ _ _ (by omega)) o.sl).mono ?_
      rintro e w' ⟨rfl, qq, hw⟩
      simp only [decide_true]
      clear q
      have K := hide (show Below w.heap.size w w' from hw ▸ below_drewN K.out qq)
      have f : Bk w' _ _ _ := hw ▸ f.drewN qq
      have o : Own w' _ _ _ _ _ := hw ▸ Own.drewN o qq
      clear hw
      have q := f.cell
      go_wp2_with fail
      refine (sameInts_any _ _ _ _ _ _ [] [] _ (Sl.nil_ _ _ _ (by omega)) o.sl).mono ?_
      rintro e w' ⟨rfl, qq, hw⟩
      simp only [decide_true]
      clear q
      have K := hide (show Below w.heap.size w w' from hw ▸ below_drewN K.out qq)
      have f : Bk w' _ _ _ := hw ▸ f.drewN qq
      have o : Own w' _ _ _ _ _ := hw ▸ Own.drewN o qq
      clear hw
      have q := f.cell
      go_wp2
      go_ret
      exact ⟨rfl, K.out⟩
    · have HV := hide hv
      have HL := hide (frm_len hv)
      obtain ⟨r1, r2, r3, r4, r5, r6⟩ := fv_iff.1 (fok_parts hv).1
      have HFL := hide (frm_length (x := b) (fok_parts hv).1)
      clear hv
      refine (ifb_yes _ _ _ _ _ HV.out).mono ?_
      rintro e w' ⟨h4, n4, c4, rfl, o, k⟩
      clear q
      have f := f.belowAll k
      have K := hide (K.out.trans (k.mono (by have := K.out.size; first | exact this | simpa using this)))
      clear k
      have q := f.cell
      have HN := hide o.len
      have hn7 : 7 ≤ n4 := by have := HN.out; have := HL.out; omega
      have hn12 : n4 ≤ 12 := by have := HN.out; have := HL.out; omega
      have HFG := hide (show F < h4 by have := o.lt; simp at this; have := HF.out; omega)
      go_wp2_with fail
      refine (sfb_yes _ _ _ _ _ HV.out).mono ?_
      rintro e w' ⟨h5, n5, c5, rfl, g, k⟩
      clear q
      have o := o.belowAll k
      have f := f.belowAll k
      have K := hide (K.out.trans (k.mono (by have := K.out.size; first | exact this | simpa using this)))
      clear k
      have q := f.cell
      have hn5 : n5 = n4 := by have := g.len; have := HN.out; omega
      subst hn5
      go_wp2_with fail
      refine (sameInts_any _ _ _ _ _ _ (frm x y z b) (frm x y z b) _ o.sl g.sl).mono ?_
      rintro e w' ⟨rfl, qq, hw⟩
      simp only [decide_true]
      clear q
      have K := hide (show Below w.heap.size w w' from hw ▸ below_drewN K.out qq)
      have f : Bk w' _ _ _ := hw ▸ f.drewN qq
      have o : Own w' _ _ _ _ _ := hw ▸ Own.drewN o qq
      have g : Own w' _ _ _ _ _ := hw ▸ Own.drewN g qq
      clear hw
      have q := f.cell
      clear g
      go_wp2_with fail
      refine (iff_any _ _ _ _ _ _ (frm x y z b) _ o.sl).mono ?_
      rintro e w' ⟨rfl, k⟩
      have K := hide (K.out.trans (k.mono K.out.size))
      clear k
      have e1 := ffv_frm HV.out
      have e2 := ffc_frm HV.out
      rw [HN.out] at e1 e2
      rw [e1, e2]
      clear e1 e2
      go_wp2
      go_ret
      exact ⟨rfl, K.out⟩
set_option maxHeartbeats 2000000 in
theorem fnFrameFlip_walk (a : Option Addr) (len cap : Nat) (zs : List Int) (a2 : Option Addr) (len2 cap2 : Nat) (zs2 : List Int) (w : World) (h : IsRow .u8 w a len cap zs) (h2 : IsRow .u8 w a2 len2 cap2 zs2) :
    Calls Try.prog 9 #[.slice a len cap, .slice a2 len2 cap2] w fun e w' => e = .returned (.bool true) ∧ Below w.heap.size w w' := by
  clear h2
  by_cases hbig : (1048576 : Int) < (len : Int)
  · go_enter Try.func9, Try.ntmps9
    go_wp2
    go_ret
    exact ⟨rfl, Below.refl _ _⟩
  by_cases hbig2 : (1048576 : Int) < (len2 : Int)
  · go_enter Try.func9, Try.ntmps9
    go_wp2
    go_ret
    exact ⟨rfl, Below.refl _ _⟩
  · have hsm : ¬ (1048576 : Int) < (len : Int) := hbig
    go_enter Try.func9, Try.ntmps9
    go_wp2_with fail
    refine (dDrawFrameBits_any a len cap zs _ h).mono ?_
    rintro e w1 ⟨x, y, z, b, rfl, hx, k1⟩
    have f := Bk.new w1 27 #[.int .i64 x, .int .i64 y, .int .i64 z]
    have K := hide (k1.alloc k1.size (.cells #[.int .i64 x, .int .i64 y, .int .i64 z] 27))
    have F0 := hide k1.size
    clear k1
    have q := f.cell
    obtain ⟨hx0, hx1, hy0, hy1, hz0, hz1, hb0, hb1⟩ := hx
    obtain ⟨F, hF⟩ : ∃ F, w1.heap.size = F := ⟨_, rfl⟩
    rw [hF] at f q
    have HF := hide hF
    go_wp2_with fail
    clear hF
    cases hv : fok x y z b
    · have HV := hide hv
      clear hv
      refine (ifb_no _ _ _ _ _ HV.out).mono ?_
      rintro e w' ⟨rfl, k⟩
      clear q
      have f := f.belowAll k
      have K := hide (K.out.trans (k.mono (by have := K.out.size; first | exact this | simpa using this)))
      clear k
      have q := f.cell
      go_wp2_with fail
      refine (sfb_no _ _ _ _ _ HV.out).mono ?_
      rintro e w' ⟨h2, rfl, o, k⟩
      clear q
      have f := f.belowAll k
      have K := hide (K.out.trans (k.mono (by have := K.out.size; first | exact this | simpa using this)))
      clear k
      have q := f.cell
      go_wp2_with fail
      refine (sameInts_any _ _ _ _ _ _ [] [] _ (Sl.nil_ _ _ _ (by omega)) o.sl).mono ?_
      rintro e w' ⟨rfl, qq, hw⟩
      simp only [decide_true]
      clear q
      have K := hide (show Below w.heap.size w w' from hw ▸ below_drewN K.out qq)
      have f : Bk w' _ _ _ := hw ▸ f.drewN qq
      have o : Own w' _ _ _ _ _ := hw ▸ Own.drewN o qq
      clear hw
      have q := f.cell
      go_wp2_with fail
      refine (sameInts_any _ _ _ _ _ _ [] [] _ (Sl.nil_ _ _ _ (by omega)) o.sl).mono ?_
      rintro e w' ⟨rfl, qq, hw⟩
      simp only [decide_true]
      clear q
      have K := hide (show Below w.heap.size w w' from hw ▸ below_drewN K.out qq)
      have f : Bk w' _ _ _ := hw ▸ f.drewN qq
      have o : Own w' _ _ _ _ _ := hw ▸ Own.drewN o qq
      clear hw
      have q := f.cell
      go_wp2
      go_ret
      exact ⟨rfl, K.out⟩
    · have HV := hide hv
      have HL := hide (frm_len hv)
      obtain ⟨r1, r2, r3, r4, r5, r6⟩ := fv_iff.1 (fok_parts hv).1
      have HFL := hide (frm_length (x := b) (fok_parts hv).1)
      clear hv
      refine (ifb_yes _ _ _ _ _ HV.out).mono ?_
      rintro e w' ⟨h4, n4, c4, rfl, o, k⟩
      clear q
      have f := f.belowAll k
      have K := hide (K.out.trans (k.mono (by have := K.out.size; first | exact this | simpa using this)))
      clear k
      have q := f.cell
      have HN := hide o.len
      have hn7 : 7 ≤ n4 := by have := HN.out; have := HL.out; omega
      have hn12 : n4 ≤ 12 := by have := HN.out; have := HL.out; omega
      have HFG := hide (show F < h4 by have := o.lt; simp at this; have := HF.out; omega)
      go_wp2_with fail
      refine (sfb_yes _ _ _ _ _ HV.out).mono ?_
      rintro e w' ⟨h5, n5, c5, rfl, g, k⟩
      clear q
      have o := o.belowAll k
      have f := f.belowAll k
      have K := hide (K.out.trans (k.mono (by have := K.out.size; first | exact this | simpa using this)))
      clear k
      have q := f.cell
      have hn5 : n5 = n4 := by have := g.len; have := HN.out; omega
      subst hn5
      go_wp2_with fail
      refine (sameInts_any _ _ _ _ _ _ (frm x y z b) (frm x y z b) _ o.sl g.sl).mono ?_
      rintro e w' ⟨rfl, qq, hw⟩
      simp only [decide_true]
      clear q
      have K := hide (show Below w.heap.size w w' from hw ▸ below_drewN K.out qq)
      have f : Bk w' _ _ _ := hw ▸ f.drewN qq
      have o : Own w' _ _ _ _ _ := hw ▸ Own.drewN o qq
      have g : Own w' _ _ _ _ _ := hw ▸ Own.drewN g qq
      clear hw
      have q := f.cell
      by_cases hy : y = 0
      · have hy1 : (y == 0) = true := by simpa using hy
        clear hy
        go_wp2_with fail
        refine (sameInts_any _ _ _ _ _ _ (frm x y z b) (frm x y z b) _ o.sl g.sl).mono ?_
        rintro e w' ⟨rfl, qq, hw⟩
        simp only [decide_true]
        clear q
        have K := hide (show Below w.heap.size w w' from hw ▸ below_drewN K.out qq)
        have f : Bk w' _ _ _ := hw ▸ f.drewN qq
        have o : Own w' _ _ _ _ _ := hw ▸ Own.drewN o qq
        have g : Own w' _ _ _ _ _ := hw ▸ Own.drewN g qq
        clear hw
        have q := f.cell
        go_wp2
        go_ret
        exact ⟨rfl, K.out⟩
      · have hyn : (y == 0) = false := by simpa using hy
        have HY := hide hy
        obtain ⟨M, hM⟩ : ∃ M : Nat, (len2 : Int) % (x + 1) = (M : Int) := ⟨((len2 : Int) % (x + 1)).toNat, by have := Int.emod_nonneg (len2 : Int) (show x + 1 ≠ 0 by omega); omega⟩
        have hMx : (M : Int) ≤ x := by have := Int.emod_lt_of_pos (len2 : Int) (show 0 < x + 1 by omega); omega
        have hMn : 1 + M < n5 := by have := HN.out; have := HFL.out; have := fl_some (fok_parts HV.out).1 hy; omega
        have hMn' : 1 + (M : Int) < (n5 : Int) := by omega
        have HB := hide (allBt_at (frm_bits x y z b) (j := 1 + M) (by rw [HN.out]; exact hMn))
        have hfc := ffc_flip HV.out hy (m := M) (by omega)
        rw [HN.out] at hfc
        have HFC := hide hfc
        clear g hy hfc
        have HWF := hide (show w.heap.size ≤ F by have := F0.out; have := HF.out; omega)
        go_wp2_with (first | (refine app_ints rfl (.tmp 66) (.tmp 67) rfl rfl rfl (Own.new (base := F + 1) (h := w'.heap.size) (by have := f.lt; omega) (Bk.new _ _ _)) (o.sl.alloc _) (by omega) (by omega) (by have := f.lt; simp; omega) ?_; intro g6 cap6 w6 o6 k6; have f6 := Bk.grow (f.alloc _) k6 (by have := f.lt; simp; omega); have KK := hide ((K.out.alloc K.out.size _).trans (grown_below k6 (K.out.size) (by have := K.out.size; simp; omega))); clear k6 q; have q6 := f6.cell; have nF : ¬ F = g6 := (by have := o6.lt; omega); have nF2 : ¬ g6 = F := fun e => nF e.symm; simp only [List.nil_append, Nat.zero_add] at o6; have c6 := o6.cellAt (j := 1 + M) hMn; have fr6 := o6.free (1 + M); obtain ⟨u, hu⟩ : ∃ u, (frm x y z b).getD (1 + M) 0 = u := ⟨_, rfl⟩; rw [hu] at c6 HFC HB; have HU := hide hu; clear hu; obtain ⟨hu0, hu1⟩ := HB.out) | (go_at_call 21; refine (iff_any _ _ _ _ _ _ ((frm x y z b).set (1 + M) (1 - u)) _ (o6.put (j := 1 + M) hMn (1 - u)).sl).mono ?_; rintro e w8 ⟨rfl, k8⟩; rw [HFC.out]))
        have K9 := (KK.out.setCell (p := ⟨g6, 1 + M, none⟩) (by have := o6.lt; have := HWF.out; simp; omega) (.int .i64 (1 - u)))
        have K9 := K9.trans (k8.mono K9.size)
        go_ret
        exact ⟨rfl, K9⟩
end Go.Proofs.Ytijjeioncopngaa
