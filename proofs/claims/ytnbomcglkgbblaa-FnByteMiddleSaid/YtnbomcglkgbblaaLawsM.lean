/-
  The walk of the law that only the middle of a bit counts: it returns true for every input and turns nothing that was there.
-/
import Derived.Test.YtnbomcglkgbblaaLinY
import Derived.Test.YtnbomcglkgbblaaLinW
import Derived.Test.YtnbomcglkgbblaaGotE
import Derived.Test.YtnbomcglkgbblaaOwnB
import Derived.Deep.RegionLaw
namespace Go.Proofs.Ytnbomcglkgbblaa
open Go.RowKit
set_option linter.unusedVariables false

theorem lb_set {a b c : Int} {n p k : Nat} {zs : List Int} {v : Int} (hm : smp n zs = true) (hv : isBt v = true) (h : k < p ∨ (k - p) % 4 ≠ 2) : lbv a b c n (zs.set k v) p = lbv a b c n zs p ∧ lbc a b c n (zs.set k v) p = lbc a b c n zs p := by
  have hm2 : smp n (zs.set k v) = true := by
    simp only [smp, Bool.and_eq_true] at hm ⊢
    exact ⟨hm.1, allBt_set hm.2 hv⟩
  have hiff : lbOk a b c n (zs.set k v) p ↔ lbOk a b c n zs p := by unfold lbOk; rw [hm, hm2]
  unfold lbv lbc
  by_cases hh : lbOk a b c n zs p
  · rw [if_pos hh, if_pos hh, if_pos (hiff.2 hh), if_pos (hiff.2 hh), Int.toNat_natCast, byv_set h, byc_set h]; exact ⟨rfl, rfl⟩
  · rw [if_neg hh, if_neg hh, if_neg (fun h => hh (hiff.1 h)), if_neg (fun h => hh (hiff.1 h))]; exact ⟨rfl, rfl⟩
set_option maxHeartbeats 4000000 in
theorem fnByteMiddle_walk (a : Option Addr) (len cap : Nat) (zs0 : List Int) (a2 : Option Addr) (len2 cap2 : Nat) (zs2 : List Int) (w : World) (h : IsRow .u8 w a len cap zs0) (h2 : IsRow .u8 w a2 len2 cap2 zs2) :
    Calls Try.prog 7 #[.slice a len cap, .slice a2 len2 cap2] w fun e w' => e = .returned (.bool true) ∧ Below w.heap.size w w' := by
  clear h2
  by_cases hbig : (1048576 : Int) < (len : Int)
  · go_enter Try.func7, Try.ntmps7
    go_wp2
    go_ret
    exact ⟨rfl, Below.refl _ _⟩
  by_cases hbig2 : (1048576 : Int) < (len2 : Int)
  · go_enter Try.func7, Try.ntmps7
    go_wp2
    go_ret
    exact ⟨rfl, Below.refl _ _⟩
  · have hsm : ¬ (1048576 : Int) < (len : Int) := hbig
    go_enter Try.func7, Try.ntmps7
    go_wp2_with fail
    refine (dDrawLineByte_any a len cap zs0 _ h).mono ?_
    rintro e w1 ⟨x, y, z, hb, n, cp, ys, at_, rfl, o, hn, hx0, hx1, k1⟩
    have f := Bk.new w1 36 #[.int .i64 x, .int .i64 y, .int .i64 z]
    have hs := o.sl.alloc (.cells #[.int .i64 x, .int .i64 y, .int .i64 z] 36)
    have K := hide (k1.alloc k1.size (.cells #[.int .i64 x, .int .i64 y, .int .i64 z] 36))
    have HL := hide o.len
    obtain ⟨F, hF⟩ : ∃ F, w1.heap.size = F := ⟨_, rfl⟩
    rw [hF] at f
    have q := f.cell
    clear k1
    go_wp2_with fail
    clear hF
    refine (iLb_any _ _ _ _ _ _ ys _ _ hs).mono ?_
    rintro e w6 ⟨rfl, k⟩
    obtain ⟨V, hV⟩ : ∃ V, lbv x y z n ys at_ = V := ⟨_, rfl⟩
    obtain ⟨C, hC⟩ : ∃ C, lbc x y z n ys at_ = C := ⟨_, rfl⟩
    rw [hV, hC]
    clear q
    have lFG := (f.belowAll k).lt
    have f := (f.belowAll k).alloc (.cells #[.int .i64 V, .int .i64 C] 34)
    have hs := (hs.below k (Nat.le_refl _)).alloc (.cells #[.int .i64 V, .int .i64 C] 34)
    have g6 := Bk.new w6 34 #[.int .i64 V, .int .i64 C]
    have K := hide (K.out.trans (k.mono (by have := K.out.size; first | exact this | simpa using this)))
    have K := hide (K.out.alloc K.out.size (.cells #[.int .i64 V, .int .i64 C] 34))
    obtain ⟨G, hG⟩ : ∃ G, w6.heap.size = G := ⟨_, rfl⟩
    rw [hG] at g6 lFG
    have HV := hide hV
    have HC := hide hC
    have q := f.cell
    clear k hV hC
    go_wp2_with fail
    clear hG
    refine (sLb_any _ _ _ _ _ _ ys _ _ hs).mono ?_
    rintro e w7 ⟨rfl, k⟩
    rw [HV.out, HC.out]
    clear q
    have f := (f.belowAll k).alloc (.cells #[.int .i64 V, .int .i64 C] 34)
    have hs := (hs.below k (Nat.le_refl _)).alloc (.cells #[.int .i64 V, .int .i64 C] 34)
    have g6 := g6.belowAll k
    have lg := g6.lt
    have g6 := g6.alloc (.cells #[.int .i64 V, .int .i64 C] 34)
    have K := hide (K.out.trans (k.mono K.out.size))
    have K := hide (K.out.alloc K.out.size (.cells #[.int .i64 V, .int .i64 C] 34))
    clear k
    obtain ⟨w8, hw8⟩ : ∃ w8, w7.alloc (.cells #[.int .i64 V, .int .i64 C] 34) = w8 := ⟨_, rfl⟩
    have q6 := g6.cell
    have q := f.cell
    by_cases h3 : C = 3
    · subst h3
      clear hw8
      go_wp2
      go_ret
      exact ⟨rfl, K.out⟩
    · have h3' : (C == 3) = false := by simpa using h3
      have hok : lbOk x y z n ys at_ := by
        refine Decidable.byContradiction fun hn => h3 ?_
        rw [← HC.out]; exact (lb_out hn).2
      obtain ⟨hv, hsm2, h0, h1⟩ := hok
      obtain ⟨p, rfl⟩ := Int.eq_ofNat_of_zero_le h0
      have hA : allBt ys = true := by simp only [smp, Bool.and_eq_true] at hsm2; exact hsm2.2
      have hn0 : 0 < n := by omega
      have hn0' : (0 : Int) < (n : Int) := by omega
      obtain ⟨M, hM⟩ : ∃ M : Nat, (len2 : Int) % (n : Int) = (M : Int) := ⟨((len2 : Int) % (n : Int)).toNat, by have := Int.emod_nonneg (len2 : Int) (show (n : Int) ≠ 0 by omega); omega⟩
      have hMn : M < n := by have := Int.emod_lt_of_pos (len2 : Int) hn0'; omega
      have hMn' : (M : Int) < (n : Int) := by omega
      have HB := hide (allBt_at hA (j := M) (by rw [HL.out]; exact hMn))
      have HSM := hide hsm2
      have HW8 := hide hw8
      have HS := hide hs
      have hn' : (n : Int) ≤ 500 := by omega
      have hp' : (p : Int) < (n : Int) := by omega
      have lFw : F < w7.heap.size := by omega
      clear h3 hv hsm2 hA hs hw8
      have lGw : G < w7.heap.size := lg
      by_cases hlt : M < p
      · have HCOND := hide (show M < p ∨ (M - p) % 4 ≠ 2 from .inl hlt)
        have hlt' : (M : Int) < (p : Int) := by omega
        clear hlt
        go_wp2_with (refine app_ints rfl (.tmp 50) (.tmp 51) rfl rfl rfl (Own.new (base := w7.heap.size + 1) (h := w7.heap.size + 1) (Nat.le_refl _) (by have := Bk.new (w7.alloc (.cells #[.int .i64 V, .int .i64 C] 34)) 3 #[]; simpa using this)) (HS.out.alloc _) hn0 (by omega) (by simp) ?_; intro g9 cp9 w9 o9 k9; have f9 := Bk.grow (f.alloc (.cells #[] 3)) k9 (by simp; omega); have r9 := Bk.grow (g6.alloc (.cells #[] 3)) k9 (by simp; omega); have K9 := hide ((K.out.alloc K.out.size (.cells #[] 3)).trans (grown_below k9 (by have := K.out.size; simp at this; omega) (by have := K.out.size; simp at this ⊢; omega))); clear k9; simp only [List.nil_append, Nat.zero_add] at o9; clear q q6; have c9 := o9.cellAt (j := M) hMn; have fr9 := o9.free M; obtain ⟨u, hu⟩ : ∃ u, ys.getD M 0 = u := ⟨_, rfl⟩; rw [hu] at c9 HB; have HU := hide hu; clear hu; obtain ⟨hu0, hu1⟩ := HB.out; have q9 := f9.cell; have q9' := r9.cell; have nF9 : ¬ F = g9 := (by have := o9.lt; omega); have nF9' : ¬ g9 = F := fun e => nF9 e.symm; have nG9 : ¬ G = g9 := (by have := o9.lt; omega); have nG9' : ¬ g9 = G := fun e => nG9 e.symm; have lF9 := f9.lt; have lG9 := r9.lt)
        have o10 := o9.put (j := M) hMn (1 - u)
        have f10 := f9.far (p := ⟨g9, M, none⟩) (by simpa using nF9) (.int .i64 (1 - u))
        have r10 := r9.far (p := ⟨g9, M, none⟩) (by simpa using nG9) (.int .i64 (1 - u))
        have K10 := hide (K9.out.setCell (p := ⟨g9, M, none⟩) (by have := o9.lt; have := K.out.size; simp at this ⊢; omega) (.int .i64 (1 - u)))
        have hlb := lb_set (a := x) (b := y) (c := z) (n := n) (p := p) (k := M) (v := 1 - u) HSM.out (isBt_iff.2 (by omega)) HCOND.out
        obtain ⟨e1, e2⟩ := hlb
        rw [HV.out] at e1
        rw [HC.out] at e2
        have E1 := hide e1
        have E2 := hide e2
        clear e1 e2 c9 fr9 hu0 hu1
        have q10 := f10.cell
        have q10' := r10.cell
        have od : Own (w9.setCell ⟨g9, M, none⟩ (.int .i64 (1 - u))).drew (w7.heap.size + 1) g9 n cp9 (ys.set M (1 - u)) := o10
        go_region_law (first | (go_simp; go_at_call 18; refine (iLb_any _ _ _ _ _ _ (ys.set M (1 - u)) _ _ od.sl).mono ?_; rintro e w12 ⟨rfl, k12⟩; rw [E1.out, E2.out]; have r12 := Bk.belowAll (w := (w9.setCell ⟨g9, M, none⟩ (.int .i64 (1 - u))).drew) r10 k12; have q12 := r12.cell))
        all_goals
          have K12 := K10.out.drew.trans (k12.mono K10.out.drew.size)
          go_wp2
          go_ret
          exact ⟨rfl, K12⟩
      · have hge' : ¬ (M : Int) < (p : Int) := by omega
        by_cases h2 : (M - p) % 4 = 2
        · have hm4 : (((M : Int) - (p : Int)) % 4 != 2) = false := by
            have : ((M : Int) - (p : Int)) % 4 = 2 := by omega
            simp [this]
          clear hlt h2
          go_wp2_with (refine app_ints rfl (.tmp 50) (.tmp 51) rfl rfl rfl (Own.new (base := w7.heap.size + 1) (h := w7.heap.size + 1) (Nat.le_refl _) (by have := Bk.new (w7.alloc (.cells #[.int .i64 V, .int .i64 C] 34)) 3 #[]; simpa using this)) (HS.out.alloc _) hn0 (by omega) (by simp) ?_; intro g9 cp9 w9 o9 k9; have f9 := Bk.grow (f.alloc (.cells #[] 3)) k9 (by simp; omega); have r9 := Bk.grow (g6.alloc (.cells #[] 3)) k9 (by simp; omega); have K9 := hide ((K.out.alloc K.out.size (.cells #[] 3)).trans (grown_below k9 (by have := K.out.size; simp at this; omega) (by have := K.out.size; simp at this ⊢; omega))); clear k9; simp only [List.nil_append, Nat.zero_add] at o9; clear q q6; have c9 := o9.cellAt (j := M) hMn; have fr9 := o9.free M; obtain ⟨u, hu⟩ : ∃ u, ys.getD M 0 = u := ⟨_, rfl⟩; rw [hu] at c9 HB; have HU := hide hu; clear hu; obtain ⟨hu0, hu1⟩ := HB.out; have q9 := f9.cell; have q9' := r9.cell; have nF9 : ¬ F = g9 := (by have := o9.lt; omega); have nF9' : ¬ g9 = F := fun e => nF9 e.symm; have nG9 : ¬ G = g9 := (by have := o9.lt; omega); have nG9' : ¬ g9 = G := fun e => nG9 e.symm; have lF9 := f9.lt; have lG9 := r9.lt)
          have o10 := o9
          have f10 := f9
          have r10 := r9
          have K10 := K9
          have e1 := HV.out
          have e2 := HC.out
          have E1 := hide e1
          have E2 := hide e2
          clear e1 e2 c9 fr9 hu0 hu1
          have q10 := f10.cell
          have q10' := r10.cell
          have od : Own w9.drew (w7.heap.size + 1) g9 n cp9 ys := o10
          go_region_law (first | (go_simp; go_at_call 18; refine (iLb_any _ _ _ _ _ _ ys _ _ od.sl).mono ?_; rintro e w12 ⟨rfl, k12⟩; rw [E1.out, E2.out]; have r12 := Bk.belowAll (w := w9.drew) r10 k12; have q12 := r12.cell))
          all_goals
            have K12 := K10.out.drew.trans (k12.mono K10.out.drew.size)
            go_wp2
            go_ret
            exact ⟨rfl, K12⟩
        · have HCOND := hide (show M < p ∨ (M - p) % 4 ≠ 2 from .inr h2)
          have hm4 : (((M : Int) - (p : Int)) % 4 != 2) = true := by simp; omega
          clear hlt h2
          go_wp2_with (refine app_ints rfl (.tmp 50) (.tmp 51) rfl rfl rfl (Own.new (base := w7.heap.size + 1) (h := w7.heap.size + 1) (Nat.le_refl _) (by have := Bk.new (w7.alloc (.cells #[.int .i64 V, .int .i64 C] 34)) 3 #[]; simpa using this)) (HS.out.alloc _) hn0 (by omega) (by simp) ?_; intro g9 cp9 w9 o9 k9; have f9 := Bk.grow (f.alloc (.cells #[] 3)) k9 (by simp; omega); have r9 := Bk.grow (g6.alloc (.cells #[] 3)) k9 (by simp; omega); have K9 := hide ((K.out.alloc K.out.size (.cells #[] 3)).trans (grown_below k9 (by have := K.out.size; simp at this; omega) (by have := K.out.size; simp at this ⊢; omega))); clear k9; simp only [List.nil_append, Nat.zero_add] at o9; clear q q6; have c9 := o9.cellAt (j := M) hMn; have fr9 := o9.free M; obtain ⟨u, hu⟩ : ∃ u, ys.getD M 0 = u := ⟨_, rfl⟩; rw [hu] at c9 HB; have HU := hide hu; clear hu; obtain ⟨hu0, hu1⟩ := HB.out; have q9 := f9.cell; have q9' := r9.cell; have nF9 : ¬ F = g9 := (by have := o9.lt; omega); have nF9' : ¬ g9 = F := fun e => nF9 e.symm; have nG9 : ¬ G = g9 := (by have := o9.lt; omega); have nG9' : ¬ g9 = G := fun e => nG9 e.symm; have lF9 := f9.lt; have lG9 := r9.lt)
          have o10 := o9.put (j := M) hMn (1 - u)
          have f10 := f9.far (p := ⟨g9, M, none⟩) (by simpa using nF9) (.int .i64 (1 - u))
          have r10 := r9.far (p := ⟨g9, M, none⟩) (by simpa using nG9) (.int .i64 (1 - u))
          have K10 := hide (K9.out.setCell (p := ⟨g9, M, none⟩) (by have := o9.lt; have := K.out.size; simp at this ⊢; omega) (.int .i64 (1 - u)))
          have hlb := lb_set (a := x) (b := y) (c := z) (n := n) (p := p) (k := M) (v := 1 - u) HSM.out (isBt_iff.2 (by omega)) HCOND.out
          obtain ⟨e1, e2⟩ := hlb
          rw [HV.out] at e1
          rw [HC.out] at e2
          have E1 := hide e1
          have E2 := hide e2
          clear e1 e2 c9 fr9 hu0 hu1
          have q10 := f10.cell
          have q10' := r10.cell
          have od : Own (w9.setCell ⟨g9, M, none⟩ (.int .i64 (1 - u))).drew (w7.heap.size + 1) g9 n cp9 (ys.set M (1 - u)) := o10
          go_region_law (first | (go_simp; go_at_call 18; refine (iLb_any _ _ _ _ _ _ (ys.set M (1 - u)) _ _ od.sl).mono ?_; rintro e w12 ⟨rfl, k12⟩; rw [E1.out, E2.out]; have r12 := Bk.belowAll (w := (w9.setCell ⟨g9, M, none⟩ (.int .i64 (1 - u))).drew) r10 k12; have q12 := r12.cell))
          all_goals
            have K12 := K10.out.drew.trans (k12.mono K10.out.drew.size)
            go_wp2
            go_ret
            exact ⟨rfl, K12⟩
end Go.Proofs.Ytnbomcglkgbblaa
