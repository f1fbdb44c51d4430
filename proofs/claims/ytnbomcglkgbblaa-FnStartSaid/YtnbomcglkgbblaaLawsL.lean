/-
  The walks of the laws on the first start bit and on the byte at a place: each law returns true for every input and turns nothing that was there.
-/
import Derived.Test.YtnbomcglkgbblaaLinY
import Derived.Test.YtnbomcglkgbblaaLinW
import Derived.Test.YtnbomcglkgbblaaGotE
import Derived.Deep.RegionLaw
namespace Go.Proofs.Ytnbomcglkgbblaa
open Go.RowKit
set_option linter.unusedVariables false

theorem ls_at {n : Nat} {ys : List Int} {x A : Int} (hl : ys.length = n) (h : ls n ys x = A) (h0 : 0 ≤ A) : ∃ q p : Nat, x = q ∧ A = p ∧ q ≤ p ∧ p < n ∧ ys.getD p 0 = 0 ∧ ∀ j, q ≤ j → j < p → ys.getD j 0 ≠ 0 := by
  unfold ls at h
  split at h
  · rename_i hh
    obtain ⟨q, rfl⟩ := Int.eq_ofNat_of_zero_le hh.2
    rw [Int.toNat_natCast] at h
    rcases sf_cases ys q with ⟨e, _⟩ | ⟨p, e, h1, h2, h3, h4⟩
    · omega
    · exact ⟨q, p, rfl, by rw [← h, e], h1, by omega, h3, h4⟩
  · omega
set_option maxHeartbeats 1000000 in
theorem fnStart_walk (a : Option Addr) (len cap : Nat) (zs0 : List Int) (w : World) (h : IsRow .u8 w a len cap zs0) :
    Calls Try.prog 4 #[.slice a len cap] w fun e w' => e = .returned (.bool true) ∧ Below w.heap.size w w' := by
  by_cases hbig : (1048576 : Int) < (len : Int)
  · go_enter Try.func4, Try.ntmps4
    go_wp2
    go_ret
    exact ⟨rfl, Below.refl _ _⟩
  · have hsm : ¬ (1048576 : Int) < (len : Int) := hbig
    go_enter Try.func4, Try.ntmps4
    go_wp2_with fail
    refine (dDrawLineStart_any a len cap zs0 _ h).mono ?_
    rintro e w1 ⟨hb, n, cp, ys, x, rfl, o, hn, hx0, hx1, k1⟩
    have hs := o.sl
    have HK := hide k1
    have HL := hide o.len
    have hn' : (n : Int) ≤ 500 := by omega
    clear k1
    go_wp2_with fail
    refine (impl_ls _ _ _ ys x _ hs (by omega)).mono ?_
    rintro e w2 ⟨rfl, hw2⟩
    subst hw2
    go_wp2_with fail
    refine (spec_ls _ _ _ ys x _ hs (by omega)).mono ?_
    rintro e w2 ⟨rfl, hw2⟩
    subst hw2
    obtain ⟨A, hA⟩ : ∃ A, ls n ys x = A := ⟨_, rfl⟩
    rw [hA]
    by_cases hneg : A < 0
    · clear hA
      go_wp2
      go_ret
      exact ⟨rfl, HK.out⟩
    · obtain ⟨q, p, rfl, rfl, hqp, hpn, hz, hall⟩ := ls_at HL.out hA (by omega)
      have HA := hide hall
      have c := o.cellAt (j := p) hpn
      rw [hz] at c
      have hpn' : (p : Int) < (n : Int) := by omega
      have hqp' : (q : Int) ≤ (p : Int) := by omega
      clear hA hz hall hneg
      go_wp2
      go_loop [7] (fun i => ∃ k : Nat, i = .int .i64 k ∧ q ≤ k ∧ k ≤ p) (fun i => p - (intOf i).toNat)
      case atStart => exact ⟨q, rfl, by omega, by omega⟩
      case round =>
        obtain ⟨k, rfl, hqk, hkp⟩ := hrel
        by_cases hlt : k < p
        · have hlt' : (k : Int) < (p : Int) := by omega
          have c2 := o.cellAt (j := k) (by omega)
          have hne := HA.out k hqk hlt
          obtain ⟨u, hu⟩ : ∃ u, ys.getD k 0 = u := ⟨_, rfl⟩
          rw [hu] at c2 hne
          have hne' : (u == 0) = false := by simpa using hne
          have hkn : (k : Int) < (n : Int) := by omega
          clear hu hne
          go_wp2
          go_round
          case rel => exact ⟨k + 1, by go_num, by omega, by omega⟩
          case measure => simp [intOf]; omega
        · obtain rfl : p = k := by omega
          have hge : ¬ (p : Int) < (p : Int) := by omega
          go_wp2
          go_ret
          exact ⟨rfl, HK.out⟩
set_option maxHeartbeats 2000000 in
theorem fnExactLineByte_walk (a b c : Int) (wa : (Lit.int .i64 a).wf = true) (wb : (Lit.int .i64 b).wf = true) (wc : (Lit.int .i64 c).wf = true) (p : Option Addr) (len cap : Nat) (zs : List Int) (x : Int) (wx : (Lit.int .i64 x).wf = true) (w : World) (h : IsRow .i64 w p len cap zs) :
    Calls Try.prog 5 #[.agg #[.int .i64 a, .int .i64 b, .int .i64 c], .slice p len cap, .int .i64 x] w fun e w' => e = .returned (.bool true) ∧ Below w.heap.size w w' := by
  have hs := h.sl
  generalize zs.take len = xs at hs
  have hl : (len : Int) ≤ 9223372036854775807 := by have := hs.2.1; have := hs.2.2.1; omega
  clear h wa wb wc wx
  have K := hide ((Below.refl w.heap.size w).alloc (Nat.le_refl _) (.cells #[.int .i64 a, .int .i64 b, .int .i64 c] 32))
  have f := Bk.new w 32 #[.int .i64 a, .int .i64 b, .int .i64 c]
  have hs := hs.alloc (.cells #[.int .i64 a, .int .i64 b, .int .i64 c] 32)
  have HL := hide hs.1
  by_cases hbig : (1048576 : Int) < (len : Int)
  · clear f hs
    go_enter Try.func5, Try.ntmps5
    go_wp2
    go_ret
    exact ⟨rfl, K.out⟩
  · have hsm : len ≤ 1048576 := by omega
    have HSM := hide hsm
    have q := f.cell
    clear hsm
    go_enter Try.func5, Try.ntmps5
    go_wp2_with fail
    refine (toFormat_any _ _ _ _).mono ?_
    rintro e w' ⟨rfl, k⟩
    clear q
    have f := f.belowAll k
    have hs := hs.below k (Nat.le_refl _)
    have K := hide (K.out.trans (k.mono (by have := K.out.size; first | exact this | simpa using this)))
    clear k
    go_wp2_with fail
    refine (toIntS_any _ _ _ xs _ hs HSM.out).mono ?_
    rintro e w' ⟨rfl, d, -, k⟩
    have f := f.belowAll k
    have hs := hs.below k (Nat.le_refl _)
    have t := sl_new d HL.out HSM.out
    have K := hide (K.out.trans (k.mono K.out.size))
    clear k d
    go_wp2_with fail
    refine (sLb_any _ _ _ _ _ _ xs _ _ t).mono ?_
    rintro e w7 ⟨rfl, k⟩
    obtain ⟨V, hV⟩ : ∃ V, lbv a b c len xs x = V := ⟨_, rfl⟩
    obtain ⟨C, hC⟩ : ∃ C, lbc a b c len xs x = C := ⟨_, rfl⟩
    rw [hV, hC]
    have f := (f.belowAll k).alloc (.cells #[.int .i64 V, .int .i64 C] 34)
    have hs := (hs.below k (Nat.le_refl _)).alloc (.cells #[.int .i64 V, .int .i64 C] 34)
    have g7 := Bk.new w7 34 #[.int .i64 V, .int .i64 C]
    have K := hide (K.out.trans (k.mono K.out.size))
    have K := hide (K.out.alloc K.out.size (.cells #[.int .i64 V, .int .i64 C] 34))
    have HV := hide hV
    have HC := hide hC
    clear k t hV hC
    go_wp2_with fail
    refine (toIntS_any _ _ _ xs _ hs HSM.out).mono ?_
    rintro e w' ⟨rfl, d, -, k⟩
    have f := f.belowAll k
    have g7 := g7.belowAll k
    have hs := hs.below k (Nat.le_refl _)
    have t := sl_new d HL.out HSM.out
    have t : Sl w' (some ⟨w7.heap.size + 1, 0, none⟩) len len xs := by simpa using t
    have K := hide (K.out.trans (k.mono K.out.size))
    clear k d
    have q := f.cell
    go_wp2_with fail
    refine (toFormat_any _ _ _ _).mono ?_
    rintro e w' ⟨rfl, k⟩
    clear q
    have g7 := g7.belowAll k
    have hs := hs.below k (Nat.le_refl _)
    have t := t.below k (Nat.le_refl _)
    have K := hide (K.out.trans (k.mono K.out.size))
    clear k
    go_wp2_with fail
    refine (iLb_any _ _ _ _ _ _ xs _ _ t).mono ?_
    rintro e w9 ⟨rfl, k⟩
    rw [HV.out, HC.out]
    have g7 := g7.belowAll k
    have lg7 := g7.lt
    have q7 := g7.cell
    have hs := (hs.below k (Nat.le_refl _)).alloc (.cells #[.int .i64 V, .int .i64 C] 34)
    have t := (t.below k (Nat.le_refl _)).alloc (.cells #[.int .i64 V, .int .i64 C] 34)
    have K := hide (K.out.trans (k.mono K.out.size))
    have K := hide (K.out.alloc K.out.size (.cells #[.int .i64 V, .int .i64 C] 34))
    clear k
    go_wp2_with fail
    refine (eqGot_same _ _ _).mono ?_
    rintro e w' ⟨rfl, k⟩
    clear q7
    have hs := hs.below k (Nat.le_refl _)
    have t := t.below k (Nat.le_refl _)
    have K := hide (K.out.trans (k.mono K.out.size))
    clear k
    go_wp2_with fail
    refine (toIntS_any _ _ _ xs _ hs HSM.out).mono ?_
    rintro e w' ⟨rfl, d, -, k⟩
    have t := t.below k (Nat.le_refl _)
    have u := sl_new d HL.out HSM.out
    have K := hide (K.out.trans (k.mono K.out.size))
    clear k d
    go_wp2_with fail
    refine (eqIntS_any _ _ _ _ _ _ xs xs _ t u).mono ?_
    rintro e w6 ⟨rfl, q, rfl⟩
    simp only [decide_true]
    go_wp2
    go_ret
    exact ⟨rfl, below_drewN K.out q⟩
set_option maxHeartbeats 2000000 in
theorem fnByteFrame_walk (a : Option Addr) (len cap : Nat) (zs0 : List Int) (w : World) (h : IsRow .u8 w a len cap zs0) :
    Calls Try.prog 6 #[.slice a len cap] w fun e w' => e = .returned (.bool true) ∧ Below w.heap.size w w' := by
  by_cases hbig : (1048576 : Int) < (len : Int)
  · go_enter Try.func6, Try.ntmps6
    go_wp2
    go_ret
    exact ⟨rfl, Below.refl _ _⟩
  · have hsm : ¬ (1048576 : Int) < (len : Int) := hbig
    go_enter Try.func6, Try.ntmps6
    go_wp2_with fail
    refine (dDrawLineByte_any a len cap zs0 _ h).mono ?_
    rintro e w1 ⟨x, y, z, hb, n, cp, ys, at_, rfl, o, hn, hx0, hx1, k1⟩
    have f := Bk.new w1 36 #[.int .i64 x, .int .i64 y, .int .i64 z]
    have hs := o.sl.alloc (.cells #[.int .i64 x, .int .i64 y, .int .i64 z] 36)
    have K := hide (k1.alloc k1.size (.cells #[.int .i64 x, .int .i64 y, .int .i64 z] 36))
    have HL := hide o.len
    obtain ⟨F, hF⟩ : ∃ F, w1.heap.size = F := ⟨_, rfl⟩
    rw [hF] at f
    have q := f.cell
    clear k1
    go_wp2_with fail
    clear hF
    refine (iLb_any _ _ _ _ _ _ ys _ _ hs).mono ?_
    rintro e w6 ⟨rfl, k⟩
    obtain ⟨V, hV⟩ : ∃ V, lbv x y z n ys at_ = V := ⟨_, rfl⟩
    obtain ⟨C, hC⟩ : ∃ C, lbc x y z n ys at_ = C := ⟨_, rfl⟩
    rw [hV, hC]
    clear q
    have lFG := (f.belowAll k).lt
    have f := (f.belowAll k).alloc (.cells #[.int .i64 V, .int .i64 C] 34)
    have hs := (hs.below k (Nat.le_refl _)).alloc (.cells #[.int .i64 V, .int .i64 C] 34)
    have g6 := Bk.new w6 34 #[.int .i64 V, .int .i64 C]
    have K := hide (K.out.trans (k.mono (by have := K.out.size; first | exact this | simpa using this)))
    have K := hide (K.out.alloc K.out.size (.cells #[.int .i64 V, .int .i64 C] 34))
    obtain ⟨G, hG⟩ : ∃ G, w6.heap.size = G := ⟨_, rfl⟩
    rw [hG] at g6 lFG
    have HV := hide hV
    have HC := hide hC
    have q := f.cell
    clear k hV hC
    go_wp2_with fail
    clear hG
    refine (sLb_any _ _ _ _ _ _ ys _ _ hs).mono ?_
    rintro e w7 ⟨rfl, k⟩
    rw [HV.out, HC.out]
    clear q
    have f := (f.belowAll k).alloc (.cells #[.int .i64 V, .int .i64 C] 34)
    have hs := (hs.below k (Nat.le_refl _)).alloc (.cells #[.int .i64 V, .int .i64 C] 34)
    have g6 := g6.belowAll k
    have lg := g6.lt
    have g6 := g6.alloc (.cells #[.int .i64 V, .int .i64 C] 34)
    have K := hide (K.out.trans (k.mono K.out.size))
    have K := hide (K.out.alloc K.out.size (.cells #[.int .i64 V, .int .i64 C] 34))
    clear k
    obtain ⟨w8, hw8⟩ : ∃ w8, w7.alloc (.cells #[.int .i64 V, .int .i64 C] 34) = w8 := ⟨_, rfl⟩
    have q6 := g6.cell
    have q := f.cell
    by_cases h3 : C = 3
    · subst h3
      clear hw8
      go_wp2
      go_ret
      exact ⟨rfl, K.out⟩
    · have h3' : (C == 3) = false := by simpa using h3
      have hok : lbOk x y z n ys at_ := by
        refine Decidable.byContradiction fun hn => h3 ?_
        rw [← HC.out]; exact (lb_out hn).2
      obtain ⟨hv, hsm2, h0, h1⟩ := hok
      obtain ⟨p, rfl⟩ := Int.eq_ofNat_of_zero_le h0
      obtain ⟨L, hL, h7, h12⟩ : ∃ L : Nat, flOf x y z = (L : Int) ∧ 7 ≤ L ∧ L ≤ 12 := ⟨(flOf x y z).toNat, by have := fl_bd hv; omega, by have := fl_bd hv; omega, by have := fl_bd hv; omega⟩
      obtain ⟨e1, e2⟩ := lb_in (c := z) hv hsm2 h0 h1
      rw [HV.out, Int.toNat_natCast] at e1
      rw [HC.out, Int.toNat_natCast] at e2
      have hin : p + 4 * (L - 1) + 2 < n := by
        refine Decidable.byContradiction fun hn => h3 ?_
        rw [e2]; exact (by_end (by rw [HL.out, hL, Int.toNat_natCast]; exact hn)).2
      obtain ⟨e3, e4⟩ := by_in (p := p) (zs := ys) hL (by rw [HL.out]; exact hin)
      rw [e3] at e1
      rw [e4] at e2
      have E1 := hide e1
      have E2 := hide e2
      have HFL := hide hL
      have hn' : (n : Int) ≤ 500 := by omega
      have HS := hide hs
      have HW8 := hide hw8
      rw [hw8] at f g6 K HS
      have HF8 := hide f
      have HG8 := hide g6
      clear h3 hv hsm2 e1 e2 e3 e4 hL f g6 hs HV HC hw8
      go_wp2
      clear q6 q
      have hw8 := HW8.out
      rw [hw8]
      clear hw8
      go_loopw [8, 9] (fun v i wr => ∃ k g cp2 : Nat, v = .slice (some ⟨g, 0, none⟩) k cp2 ∧ i = .int .i64 k ∧ k ≤ L ∧ Own wr w8.heap.size g k cp2 (pk ys p k) ∧ Below w8.heap.size w8 wr) (fun _ i _ => L - (intOf i).toNat)
      case atStart => exact ⟨0, _, _, rfl, rfl, by omega, Own.new (by rw [← HW8.out]; simp) (by have := Bk.new w8 3 #[]; rw [← HW8.out] at this ⊢; simpa using this), (Below.refl _ _).alloc (Nat.le_refl _) _⟩
      case round =>
        obtain ⟨k, g, cp2, rfl, rfl, hk, o2, K2⟩ := hrel
        have HK2 := hide K2
        have f := HF8.out.belowAll K2
        have g6 := HG8.out.belowAll K2
        have q := f.cell
        clear K2
        by_cases hlt : k < L
        · have hlt' : (k : Int) < (L : Int) := by omega
          go_wp2_with fail
          refine (ifl_any _ _ _ _).mono ?_
          rintro e w9 ⟨rfl, k9⟩
          rw [HFL.out]
          have o2 := o2.belowAll k9
          have HK2 := hide (HK2.out.trans (k9.mono HK2.out.size))
          have hs := HS.out.below HK2.out (Nat.le_refl _)
          obtain ⟨y', hy', hc⟩ := hs.lit (k := p + 4 * k + 2) (by omega) (by omega)
          injection hy' with hy'
          subst hy'
          simp only [Nat.zero_add] at hc
          have hx4 : (p : Int) + 4 * (k : Int) + 2 < (n : Int) := by omega
          obtain ⟨u, hu⟩ : ∃ u, ys.getD (p + 4 * k + 2) 0 = u := ⟨_, rfl⟩
          rw [hu] at hc
          have HU := hide hu
          clear hu hs q k9 f g6
          go_wp2_with (refine app_int2 rfl (.tmp 47) (.tmp 56) rfl rfl rfl (Own.alloc o2 _) (Bk.new _ _ _) (by omega) (by have := HK2.out.size; simp; omega) ?_; intro g9 cp9 w10 o9 k9 hg9; have K9 := (HK2.out.alloc HK2.out.size _).trans (grown_below k9 o2.lt.1 (by have := HK2.out.size; simp; omega)); clear k9 hg9)
          go_roundw
          case rel => exact ⟨k + 1, g9, cp9, by rfl, by go_num, by omega, by rw [← HU.out, pk_snoc] at o9; exact o9, K9⟩
          case measure => simp [intOf]; omega
        · obtain rfl : L = k := by omega
          go_wp2_with fail
          refine (ifl_any _ _ _ _).mono ?_
          rintro e w9 ⟨rfl, k9⟩
          rw [HFL.out]
          have o2 := o2.belowAll k9
          have f := f.belowAll k9
          have g6 := g6.belowAll k9
          have HK2 := hide (HK2.out.trans (k9.mono HK2.out.size))
          clear q k9
          have q := f.cell
          go_wp2_with fail
          refine (iff_any _ _ _ _ _ _ (pk ys p L) _ o2.sl).mono ?_
          rintro e w11 ⟨rfl, k11⟩
          rw [← E1.out, ← E2.out]
          have g6 := g6.belowAll k11
          have HK2 := hide (HK2.out.trans (k11.mono HK2.out.size))
          clear q k11
          have q6 := g6.cell
          go_wp2
          go_ret
          exact ⟨rfl, K.out.trans (HK2.out.mono K.out.size)⟩
end Go.Proofs.Ytnbomcglkgbblaa
