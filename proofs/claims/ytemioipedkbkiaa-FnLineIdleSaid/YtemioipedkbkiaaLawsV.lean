/-
  The walks of two more laws on the samples of bytes: each law returns true for every input and turns nothing that was there.
-/
import Derived.Test.YtemioipedkbkiaaLawsU
import Derived.Test.YtemioipedkbkiaaSameG
namespace Go.Proofs.Ytemioipedkbkiaa
open Go.RowKit
set_option linter.unusedVariables false

theorem ls_lin {a b c : Int} {I n : Nat} {xs : List Int} (h : lok a b c I xs = true) (hn : n ≤ 500) : ls n (lin a b c I xs) 0 = if xs.length = 0 then -1 else (I : Int) := by
  have hs : smp n (lin a b c I xs) = true := by simp [smp, hn, lin_bits]
  have e : ls n (lin a b c I xs) 0 = sf (lin a b c I xs) 0 := by unfold ls; rw [if_pos ⟨hs, by omega⟩]; rfl
  rw [e]
  cases xs with
  | nil => simpa using sf_lin_nil
  | cons x xs => simpa using sf_lin (xs := xs) (idle := I) (lok_all h x (by simp))

set_option maxRecDepth 100000 in
set_option maxHeartbeats 4000000 in
theorem fnLineIdle_walk (a : Option Addr) (len cap : Nat) (zs0 : List Int) (w : World) (h : IsRow .u8 w a len cap zs0) :
    Calls Try.prog 6 #[.slice a len cap] w fun e w' => e = .returned (.bool true) ∧ Below w.heap.size w w' := by
  by_cases hbig : (1048576 : Int) < (len : Int)
  · skip
    go_enter Try.func6, Try.ntmps6
    go_wp2
    go_ret
    exact ⟨rfl, Below.refl _ _⟩
  · have hsm : ¬ (1048576 : Int) < (len : Int) := hbig
    go_enter Try.func6, Try.ntmps6
    go_wp2_with fail
    refine (dDrawLineOf_any a len cap zs0 _ h).mono ?_
    rintro e w1 ⟨x, y, z, hb, n, cp, ys, idle, rfl, o, hn, hi0, hi1, k1⟩
    obtain ⟨I, rfl⟩ := Int.eq_ofNat_of_zero_le hi0
    have f := Bk.new w1 27 #[.int .i64 x, .int .i64 y, .int .i64 z]
    have K := hide (k1.alloc k1.size (.cells #[.int .i64 x, .int .i64 y, .int .i64 z] 27))
    have o := o.alloc (.cells #[.int .i64 x, .int .i64 y, .int .i64 z] 27)
    have HL := hide o.len
    have hn' : (n : Int) ≤ 9 := by omega
    obtain ⟨F, hF⟩ : ∃ F, w1.heap.size = F := ⟨_, rfl⟩
    rw [hF] at f
    have q := f.cell
    clear k1 hi0
    go_wp2_with fail
    clear hF
    cases hlok : lok x y z I ys
    · have HLOK := hide hlok
      clear hlok
      refine (iline_no _ _ _ _ _ _ _ ys _ o.sl HLOK.out).mono ?_
      rintro e w' ⟨rfl, k⟩
      clear q
      have o := o.belowAll k
      have f := f.belowAll k
      have K := hide (K.out.trans (k.mono K.out.size))
      clear k
      have q := f.cell
      go_wp2_with fail
      refine (slf_any _ _ _ _ _ _ _ ys _ o.sl).mono ?_
      rintro e w' ⟨h6, n6, c6, z6, rfl, o6, e6, k⟩
      clear q
      rw [HLOK.out]
      rw [HLOK.out, if_neg (by simp)] at e6
      subst e6
      obtain rfl : n6 = 0 := o6.len.symm
      have f := f.belowAll k
      have o := o.belowAll k
      have K := hide (K.out.trans (k.mono K.out.size))
      clear k
      have q := f.cell
      go_wp2_with fail
      refine (sameInts_any _ _ _ _ _ _ [] [] _ (Sl.nil_ _ _ _ (by omega)) o6.sl).mono ?_
      rintro e w' ⟨rfl, qq, hw⟩
      simp only [decide_true]
      clear q
      have K := hide (show Below w.heap.size w w' from hw ▸ below_drewN K.out qq)
      have f : Bk w' _ _ _ := hw ▸ f.drewN qq
      have o : Own w' _ _ _ _ _ := hw ▸ Own.drewN o qq
      have o6 : Own w' _ _ _ _ _ := hw ▸ Own.drewN o6 qq
      clear hw
      have q := f.cell
      go_wp2_with fail
      refine (sameInts_any _ _ _ _ _ _ [] [] _ (Sl.nil_ _ _ _ (by omega)) o6.sl).mono ?_
      rintro e w' ⟨rfl, qq, hw⟩
      simp only [decide_true]
      clear q
      have K := hide (show Below w.heap.size w w' from hw ▸ below_drewN K.out qq)
      have f : Bk w' _ _ _ := hw ▸ f.drewN qq
      have o : Own w' _ _ _ _ _ := hw ▸ Own.drewN o qq
      have o6 : Own w' _ _ _ _ _ := hw ▸ Own.drewN o6 qq
      clear hw
      have q := f.cell
      go_wp2
      go_ret
      exact ⟨rfl, K.out⟩
    · have HLOK := hide hlok
      have HFV := hide (lok_len hlok).1
      have HLN := hide (lok_len hlok).2
      clear hlok
      refine (iline_yes _ _ _ _ _ _ _ ys _ o.sl HLOK.out).mono ?_
      rintro e w' ⟨h5, n5, c5, rfl, o5, k⟩
      clear q
      have HOH := hide (show _ < h5 from Nat.lt_of_lt_of_le o.lt.2 o5.lt.1)
      have HFH := hide (show _ < h5 from Nat.lt_of_lt_of_le f.lt o5.lt.1)
      have o := o.belowAll k
      have f := f.belowAll k
      have K := hide (K.out.trans (k.mono K.out.size))
      clear k
      have q := f.cell
      go_wp2_with fail
      refine (slf_any _ _ _ _ _ _ _ ys _ o.sl).mono ?_
      rintro e w' ⟨h6, n6, c6, z6, rfl, o6, e6, k⟩
      clear q
      rw [HLOK.out]
      rw [HLOK.out, if_pos rfl] at e6
      subst e6
      obtain rfl : n6 = n5 := by rw [← o6.len, ← o5.len]
      have f := f.belowAll k
      have o := o.belowAll k
      have o5 := o5.belowAll k
      have K := hide (K.out.trans (k.mono K.out.size))
      clear k
      have q := f.cell
      simp only [Int.toNat_natCast] at o5 o6
      have hn5 : n6 ≤ 500 := by have := HLN.out; have := o5.len; simp only [Int.toNat_natCast] at *; omega
      have hn5' : (n6 : Int) ≤ 500 := by omega
      go_wp2_with fail
      refine (sameInts_any _ _ _ _ _ _ (lin x y z I ys) (lin x y z I ys) _ o5.sl o6.sl).mono ?_
      rintro e w' ⟨rfl, qq, hw⟩
      simp only [decide_true]
      clear q
      have K := hide (show Below w.heap.size w w' from hw ▸ below_drewN K.out qq)
      have f : Bk w' _ _ _ := hw ▸ f.drewN qq
      have o : Own w' _ _ _ _ _ := hw ▸ Own.drewN o qq
      have o5 : Own w' _ _ _ _ _ := hw ▸ Own.drewN o5 qq
      have o6 : Own w' _ _ _ _ _ := hw ▸ Own.drewN o6 qq
      clear hw
      have q := f.cell
      have HLR := hide (lrd_lin HLOK.out hn5)
      have HYS := hide (show (ys.map fun x => ((x, 0) : Int × Int)).length = n by rw [List.length_map, HL.out])
      have HLS := hide (ls_lin HLOK.out hn5)
      obtain ⟨Z, hZ⟩ : ∃ Z, lin x y z I ys = Z := ⟨_, rfl⟩
      have HZ := hide hZ
      rw [hZ] at o5 o6 HLR HLS
      clear hZ o6
      have HB7 := hide (Bk.new w' 3 #[.int .i64 1])
      have HFX := hide (show F < w'.heap.size from f.lt)
      have HHX := hide (show h5 < w'.heap.size from o5.lt.2)
      by_cases h5b : (500 : Int) < 1 + (n6 : Int)
      · go_wp2_with (refine app_any rfl (.tmp 56) (.tmp 57) rfl rfl rfl (Own.one (Nat.le_refl _) HB7.out) (o5.alloc _).sl (by omega) (by simp) ?_; intro g7 cp7 w7 o7 k7; have K7 := (K.out.alloc K.out.size _).trans (grown_below k7 K.out.size (by have := K.out.size; simp; omega)); clear k7)
        go_ret
        exact ⟨rfl, K7⟩
      · have HLR1 := hide (lrd_lin1 (n := 1 + n6) HLOK.out (by omega))
        rw [HZ.out] at HLR1
        have z1n : (1 : Int) + (n6 : Int) ≤ 500 := by omega
        by_cases hn0 : n = 0
        · have t0 : ((n : Int) == 0) = true := by simpa using hn0
          have t1 : decide ((0 : Int) < (n : Int)) = false := by simp; omega
          have HN0 := hide hn0
          clear hn0
          go_wp2_with (first | (refine app_any rfl (.tmp 56) (.tmp 57) rfl rfl rfl (Own.one (Nat.le_refl _) HB7.out) (o5.alloc _).sl (by omega) (by simp) ?_; intro g7 cp7 w7 o7 k7; have K7 := (K.out.alloc K.out.size _).trans (grown_below k7 K.out.size (by have := K.out.size; simp; omega)); have f7 := Bk.grow (f.alloc _) k7 (by have := HFX.out; simp; omega); have o57 := Own.grow (o5.alloc _) k7 (by have := HHX.out; omega); have q7 := f7.cell; clear k7 q) | (go_at_call 18; refine (impl_ls _ _ _ Z 0 _ o57.sl (by omega)).mono ?_; rintro e w8 ⟨rfl, hw8⟩; subst hw8; rw [HLS.out, HL.out]; rw [if_pos HN0.out]))
          have fD : Bk w7.drew F 27 #[.int .i64 x, .int .i64 y, .int .i64 z] := f7
          have oD : Own w7.drew _ h5 n6 c5 Z := o57
          have oxD : Own w7.drew w'.heap.size g7 (1 + n6) cp7 (1 :: Z) := o7
          have KD : Below w.heap.size w w7.drew := K7.drew
          clear f7 o57 o7 K7 HB7 HFX HHX HLS HZ HLN HFV HL HLOK HN0 HOH HFH f o o5 K
          have oD := Own.le_ oD (base' := 0) (Nat.zero_le _)
          have oxD := Own.le_ oxD (base' := 0) (Nat.zero_le _)
          have qD := fD.cell
          have hud : undef = Value.tuple #[] := rfl
          first
            | (go_region_held3 (fun W => (∀ i, W.cell? ⟨F, i, none⟩ = #[Value.int .i64 x, .int .i64 y, .int .i64 z][i]?) ∧ Bk W F 27 #[Value.int .i64 x, .int .i64 y, .int .i64 z] ∧ Own W 0 g7 (1 + n6) cp7 (1 :: Z) ∧ Own W 0 h5 n6 c5 Z ∧ Below w.heap.size w W)
                        (first | exact ⟨q10, f10, ox10, o10, K10⟩ | exact ⟨q9, f9, ox9, o9, K9⟩ | exact ⟨qA, fA, oxA, oA, KA⟩ | exact ⟨qD, fD, oxD, oD, KD⟩)
                        (first | (go_at_call 20; go_split_ands; with_reducible refine (iLr_at _ _ _ _ _ _ n _ _ _ (Own.sl (zs := 1 :: Z) (by assumption)) HLR1.out HYS.out).mono ?_; rintro e wA ⟨aA, cA, rfl, gA, kA⟩; have fA := Bk.belowAll (g := F) (by assumption) kA; have oxA := Own.belowAll (zs := 1 :: Z) (by assumption) kA; have oA := Own.belowAll (zs := Z) (by assumption) kA; have qA := fA.cell; have KA := Below.trans (a := w) (by assumption) (kA.mono (Below.size (by assumption)))) | (go_at_call 20; go_split_ands; with_reducible refine (iLr_at _ _ _ _ _ _ n _ _ _ (Own.sl (zs := Z) (by assumption)) HLR.out HYS.out).mono ?_; rintro e wB ⟨aB, cB, rfl, gB, kB⟩; have gA := gA.belowAll kB; have f9 := Bk.belowAll (g := F) (by assumption) kB; have ox9 := Own.belowAll (zs := 1 :: Z) (by assumption) kB; have o9 := Own.belowAll (zs := Z) (by assumption) kB; have q9 := f9.cell; have K9 := Below.trans (a := w) (by assumption) (kB.mono (Below.size (by assumption)))) | (go_at_call 19; go_split_ands; refine (sameGot_same _ _ _ _ _ _ _ gA.sg gB.sg).mono ?_; rintro e wC ⟨rfl, qq, rfl⟩; have f10 := f9.drewN qq; have ox10 := Own.drewN ox9 qq; have o10 := Own.drewN o9 qq; have q10 := f10.cell; have K10 := below_drewN K9 qq)))
            | fail
          all_goals
            go_wp2
            go_ret
            exact ⟨by simp, K10⟩
        · have t0 : ((n : Int) == 0) = false := by simpa using hn0
          have t1 : decide ((0 : Int) < (n : Int)) = true := by simp; omega
          have t2 : 0 < n := by omega
          have t3 : decide (0 < n) = true := by simp; omega
          have t4 : (0 : Int) < (n : Int) := by omega
          have HN0 := hide hn0
          clear hn0
          go_wp2_with (first | (refine app_any rfl (.tmp 56) (.tmp 57) rfl rfl rfl (Own.one (Nat.le_refl _) HB7.out) (o5.alloc _).sl (by omega) (by simp) ?_; intro g7 cp7 w7 o7 k7; have K7 := (K.out.alloc K.out.size _).trans (grown_below k7 K.out.size (by have := K.out.size; simp; omega)); have f7 := Bk.grow (f.alloc _) k7 (by have := HFX.out; simp; omega); have o57 := Own.grow (o5.alloc _) k7 (by have := HHX.out; omega); have q7 := f7.cell; clear k7 q) | (go_at_call 18; refine (impl_ls _ _ _ Z 0 _ o57.sl (by omega)).mono ?_; rintro e w8 ⟨rfl, hw8⟩; subst hw8; rw [HLS.out, HL.out]; rw [if_neg HN0.out]))
          have fD : Bk w7.drew F 27 #[.int .i64 x, .int .i64 y, .int .i64 z] := f7
          have oD : Own w7.drew _ h5 n6 c5 Z := o57
          have oxD : Own w7.drew w'.heap.size g7 (1 + n6) cp7 (1 :: Z) := o7
          have KD : Below w.heap.size w w7.drew := K7.drew
          clear f7 o57 o7 K7 HB7 HFX HHX HLS HZ HLN HFV HL HLOK HN0 HOH HFH f o o5 K
          have oD := Own.le_ oD (base' := 0) (Nat.zero_le _)
          have oxD := Own.le_ oxD (base' := 0) (Nat.zero_le _)
          have qD := fD.cell
          have hud : undef = Value.tuple #[] := rfl
          first
            | (go_region_held3 (fun W => (∀ i, W.cell? ⟨F, i, none⟩ = #[Value.int .i64 x, .int .i64 y, .int .i64 z][i]?) ∧ Bk W F 27 #[Value.int .i64 x, .int .i64 y, .int .i64 z] ∧ Own W 0 g7 (1 + n6) cp7 (1 :: Z) ∧ Own W 0 h5 n6 c5 Z ∧ Below w.heap.size w W)
                        (first | exact ⟨q10, f10, ox10, o10, K10⟩ | exact ⟨q9, f9, ox9, o9, K9⟩ | exact ⟨qA, fA, oxA, oA, KA⟩ | exact ⟨qD, fD, oxD, oD, KD⟩)
                        (first | (go_at_call 20; go_split_ands; with_reducible refine (iLr_at _ _ _ _ _ _ n _ _ _ (Own.sl (zs := 1 :: Z) (by assumption)) HLR1.out HYS.out).mono ?_; rintro e wA ⟨aA, cA, rfl, gA, kA⟩; have fA := Bk.belowAll (g := F) (by assumption) kA; have oxA := Own.belowAll (zs := 1 :: Z) (by assumption) kA; have oA := Own.belowAll (zs := Z) (by assumption) kA; have qA := fA.cell; have KA := Below.trans (a := w) (by assumption) (kA.mono (Below.size (by assumption)))) | (go_at_call 20; go_split_ands; with_reducible refine (iLr_at _ _ _ _ _ _ n _ _ _ (Own.sl (zs := Z) (by assumption)) HLR.out HYS.out).mono ?_; rintro e wB ⟨aB, cB, rfl, gB, kB⟩; have gA := gA.belowAll kB; have f9 := Bk.belowAll (g := F) (by assumption) kB; have ox9 := Own.belowAll (zs := 1 :: Z) (by assumption) kB; have o9 := Own.belowAll (zs := Z) (by assumption) kB; have q9 := f9.cell; have K9 := Below.trans (a := w) (by assumption) (kB.mono (Below.size (by assumption)))) | (go_at_call 19; go_split_ands; refine (sameGot_same _ _ _ _ _ _ _ gA.sg gB.sg).mono ?_; rintro e wC ⟨rfl, qq, rfl⟩; have f10 := f9.drewN qq; have ox10 := Own.drewN ox9 qq; have o10 := Own.drewN o9 qq; have q10 := f10.cell; have K10 := below_drewN K9 qq)))
            | fail
          all_goals
            go_wp2
            go_ret
            exact ⟨by simp, K10⟩
end Go.Proofs.Ytemioipedkbkiaa
