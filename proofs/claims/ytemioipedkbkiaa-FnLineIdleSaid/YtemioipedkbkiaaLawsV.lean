/-
  The walks of two more laws on the samples of bytes: each law returns true for every input and turns nothing that was there.
-/
import Derived.Test.YtemioipedkbkiaaLawsU
import Derived.Test.YtemioipedkbkiaaSameG
namespace Go.Proofs.Ytemioipedkbkiaa
open Go.RowKit
set_option linter.unusedVariables false

/-- An operation of a drawn region taken first, the slot that it writes written out. -/
theorem take_at {P : Program} {ops : Array Oper} {Q : Exit → Act → World → Prop} {md : Region.Mode} {S : World → Prop} {i : Nat} {oi : Oper} {v : Value} {fuel : Nat} {listed : Array Bool} {a : Act} {w : World} (d : Option Tmp) (hi : ops[i]? = some oi) (hd : oi.dst = d)
    (hs : Region.noSelect ops = true) (hf : Region.free md ops listed i = true) (hr : (Region.ready md ops listed).contains i = true)
    (hQ : ∀ c a w, Q (.panic c) (a.put oi.dst v) w → Q (.panic c) a w) (hy : YieldsIf P ops S oi v a) (hS : S w)
    (h : wpAnyH P md ops Q S fuel (listed.setIfInBounds i true) (a.put d v) w) : wpAnyH P md ops Q S (fuel + 1) listed a w := by
  subst hd
  exact wpAnyH_take hi hs hf hr hQ hy hS h
theorem ls_lin {a b c : Int} {I n : Nat} {xs : List Int} (h : lok a b c I xs = true) (hn : n ≤ 500) : ls n (lin a b c I xs) 0 = if xs.length = 0 then -1 else (I : Int) := by
  have hs : smp n (lin a b c I xs) = true := by simp [smp, hn, lin_bits]
  have e : ls n (lin a b c I xs) 0 = sf (lin a b c I xs) 0 := by unfold ls; rw [if_pos ⟨hs, by omega⟩]; rfl
  rw [e]
  cases xs with
  | nil => simpa using sf_lin_nil
  | cons x xs => simpa using sf_lin (xs := xs) (idle := I) (lok_all h x (by simp))

set_option maxRecDepth 100000 in
set_option maxHeartbeats 4000000 in
theorem fnLineIdle_walk (a : Option Addr) (len cap : Nat) (zs0 : List Int) (w : World) (h : IsRow .u8 w a len cap zs0) :
    Calls Try.prog 6 #[.slice a len cap] w fun e w' => e = .returned (.bool true) ∧ Below w.heap.size w w' := by
  by_cases hbig : (1048576 : Int) < (len : Int)
  · skip
    go_enter Try.func6, Try.ntmps6
    go_wp2
    go_ret
    exact ⟨rfl, Below.refl _ _⟩
  · have hsm : ¬ (1048576 : Int) < (len : Int) := hbig
    go_enter Try.func6, Try.ntmps6
    go_wp2_with fail
    refine (dDrawLineOf_any a len cap zs0 _ h).mono ?_
    rintro e w1 ⟨x, y, z, hb, n, cp, ys, idle, rfl, o, hn, hi0, hi1, k1⟩
    obtain ⟨I, rfl⟩ := Int.eq_ofNat_of_zero_le hi0
    have f := Bk.new w1 27 #[.int .i64 x, .int .i64 y, .int .i64 z]
    have K := hide (k1.alloc k1.size (.cells #[.int .i64 x, .int .i64 y, .int .i64 z] 27))
    have o := o.alloc (.cells #[.int .i64 x, .int .i64 y, .int .i64 z] 27)
    have HL := hide o.len
    have hn' : (n : Int) ≤ 9 := by omega
    obtain ⟨F, hF⟩ : ∃ F, w1.heap.size = F := ⟨_, rfl⟩
    rw [hF] at f
    have q := f.cell
    clear k1 hi0
    go_wp2_with fail
    clear hF
    cases hlok : lok x y z I ys
    · have HLOK := hide hlok
      clear hlok
      refine (iline_no _ _ _ _ _ _ _ ys _ o.sl HLOK.out).mono ?_
      rintro e w' ⟨rfl, k⟩
      clear q
      have o := o.belowAll k
      have f := f.belowAll k
      have K := hide (K.out.trans (k.mono K.out.size))
      clear k
      have q := f.cell
      go_wp2_with fail
      refine (slf_any _ _ _ _ _ _ _ ys _ o.sl).mono ?_
      rintro e w' ⟨h6, n6, c6, z6, rfl, o6, e6, k⟩
      clear q
      rw [HLOK.out]
      rw [HLOK.out, if_neg (by simp)] at e6
      subst e6
      obtain rfl : n6 = 0 := o6.len.symm
      have f := f.belowAll k
      have o := o.belowAll k
      have K := hide (K.out.trans (k.mono K.out.size))
      clear k
      have q := f.cell
      go_wp2_with fail
      refine (sameInts_any _ _ _ _ _ _ [] [] _ (Sl.nil_ _ _ _ (by omega)) o6.sl).mono ?_
      rintro e w' ⟨rfl, qq, hw⟩
      simp only [decide_true]
      clear q
      have K := hide (show Below w.heap.size w w' from hw ▸ below_drewN K.out qq)
      have f : Bk w' _ _ _ := hw ▸ f.drewN qq
      have o : Own w' _ _ _ _ _ := hw ▸ Own.drewN o qq
      have o6 : Own w' _ _ _ _ _ := hw ▸ Own.drewN o6 qq
      clear hw
      have q := f.cell
      go_wp2_with fail
      refine (sameInts_any _ _ _ _ _ _ [] [] _ (Sl.nil_ _ _ _ (by omega)) o6.sl).mono ?_
      rintro e w' ⟨rfl, qq, hw⟩
      simp only [decide_true]
      clear q
      have K := hide (show Below w.heap.size w w' from hw ▸ below_drewN K.out qq)
      have f : Bk w' _ _ _ := hw ▸ f.drewN qq
      have o : Own w' _ _ _ _ _ := hw ▸ Own.drewN o qq
      have o6 : Own w' _ _ _ _ _ := hw ▸ Own.drewN o6 qq
      clear hw
      have q := f.cell
      go_wp2
      go_ret
      exact ⟨rfl, K.out⟩
    · have HLOK := hide hlok
      have HFV := hide (lok_len hlok).1
      have HLN := hide (lok_len hlok).2
      clear hlok
      refine (iline_yes _ _ _ _ _ _ _ ys _ o.sl HLOK.out).mono ?_
      rintro e w' ⟨h5, n5, c5, rfl, o5, k⟩
      clear q
      have HOH := hide (show _ < h5 from Nat.lt_of_lt_of_le o.lt.2 o5.lt.1)
      have HFH := hide (show _ < h5 from Nat.lt_of_lt_of_le f.lt o5.lt.1)
      have o := o.belowAll k
      have f := f.belowAll k
      have K := hide (K.out.trans (k.mono K.out.size))
      clear k
      have q := f.cell
      go_wp2_with fail
      refine (slf_any _ _ _ _ _ _ _ ys _ o.sl).mono ?_
      rintro e w' ⟨h6, n6, c6, z6, rfl, o6, e6, k⟩
      clear q
      rw [HLOK.out]
      rw [HLOK.out, if_pos rfl] at e6
      subst e6
      obtain rfl : n6 = n5 := by rw [← o6.len, ← o5.len]
      have f := f.belowAll k
      have o := o.belowAll k
      have o5 := o5.belowAll k
      have K := hide (K.out.trans (k.mono K.out.size))
      clear k
      have q := f.cell
      simp only [Int.toNat_natCast] at o5 o6
      have hn5 : n6 ≤ 500 := by have := HLN.out; have := o5.len; simp only [Int.toNat_natCast] at *; omega
      have hn5' : (n6 : Int) ≤ 500 := by omega
      go_wp2_with fail
      refine (sameInts_any _ _ _ _ _ _ (lin x y z I ys) (lin x y z I ys) _ o5.sl o6.sl).mono ?_
      rintro e w' ⟨rfl, qq, hw⟩
      simp only [decide_true]
      clear q
      have K := hide (show Below w.heap.size w w' from hw ▸ below_drewN K.out qq)
      have f : Bk w' _ _ _ := hw ▸ f.drewN qq
      have o : Own w' _ _ _ _ _ := hw ▸ Own.drewN o qq
      have o5 : Own w' _ _ _ _ _ := hw ▸ Own.drewN o5 qq
      have o6 : Own w' _ _ _ _ _ := hw ▸ Own.drewN o6 qq
      clear hw
      have q := f.cell
      have HLR := hide (lrd_lin HLOK.out hn5)
      have HYS := hide (show (ys.map fun x => ((x, 0) : Int × Int)).length = n by rw [List.length_map, HL.out])
      have HLS := hide (ls_lin HLOK.out hn5)
      obtain ⟨Z, hZ⟩ : ∃ Z, lin x y z I ys = Z := ⟨_, rfl⟩
      have HZ := hide hZ
      rw [hZ] at o5 o6 HLR HLS
      clear hZ o6
      have HB7 := hide (Bk.new w' 3 #[.int .i64 1])
      have HFX := hide (show F < w'.heap.size from f.lt)
      have HHX := hide (show h5 < w'.heap.size from o5.lt.2)
      by_cases h5b : (500 : Int) < 1 + (n6 : Int)
      · go_wp2_with (refine app_any rfl (.tmp 56) (.tmp 57) rfl rfl rfl (Own.one (Nat.le_refl _) HB7.out) (o5.alloc _).sl (by omega) (by simp) ?_; intro g7 cp7 w7 o7 k7; have K7 := (K.out.alloc K.out.size _).trans (grown_below k7 K.out.size (by have := K.out.size; simp; omega)); clear k7)
        go_ret
        exact ⟨rfl, K7⟩
      · have HLR1 := hide (lrd_lin1 (n := 1 + n6) HLOK.out (by omega))
        rw [HZ.out] at HLR1
        have z1n : (1 : Int) + (n6 : Int) ≤ 500 := by omega
        by_cases hn0 : n = 0
        · have t0 : ((n : Int) == 0) = true := by simpa using hn0
          have t1 : decide ((0 : Int) < (n : Int)) = false := by simp; omega
          have HN0 := hide hn0
          clear hn0
          go_wp2_with (first | (refine app_any rfl (.tmp 56) (.tmp 57) rfl rfl rfl (Own.one (Nat.le_refl _) HB7.out) (o5.alloc _).sl (by omega) (by simp) ?_; intro g7 cp7 w7 o7 k7; have K7 := (K.out.alloc K.out.size _).trans (grown_below k7 K.out.size (by have := K.out.size; simp; omega)); have f7 := Bk.grow (f.alloc _) k7 (by have := HFX.out; simp; omega); have o57 := Own.grow (o5.alloc _) k7 (by have := HHX.out; omega); have q7 := f7.cell; clear k7 q) | (go_at_call 18; refine (impl_ls _ _ _ Z 0 _ o57.sl (by omega)).mono ?_; rintro e w8 ⟨rfl, hw8⟩; subst hw8; rw [HLS.out, HL.out]; rw [if_pos HN0.out]))
          have fD : Bk w7.drew F 27 #[.int .i64 x, .int .i64 y, .int .i64 z] := f7
          have oD : Own w7.drew _ h5 n6 c5 Z := o57
          have oxD : Own w7.drew w'.heap.size g7 (1 + n6) cp7 (1 :: Z) := o7
          have KD : Below w.heap.size w w7.drew := K7.drew
          clear f7 o57 o7 K7 HB7 HFX HHX HLS HZ HLN HFV HL HLOK HN0 HOH HFH f o o5 K
          have oD := Own.le_ oD (base' := 0) (Nat.zero_le _)
          have oxD := Own.le_ oxD (base' := 0) (Nat.zero_le _)
          have qD := fD.cell
          refine wp_region_noPanic ?_
          refine wp_region_held_drew (S := fun W => (∀ i, W.cell? ⟨F, i, none⟩ = #[Value.int .i64 x, .int .i64 y, .int .i64 z][i]?) ∧ Bk W F 27 #[Value.int .i64 x, .int .i64 y, .int .i64 z] ∧ Own W 0 g7 (1 + n6) cp7 (1 :: Z) ∧ Own W 0 h5 n6 c5 Z ∧ Below w.heap.size w W) (by kernel_rfl) ⟨qD, fD, oxD, oD, KD⟩ (fun hS => ?_)
          refine take_at (i := 0) (oi := _) (v := .agg #[.int .i64 x, .int .i64 y, .int .i64 z]) (some 64) rfl rfl (by kernel_rfl) (by kernel_rfl) (by kernel_rfl) (fun _ _ _ h => h) (Or.inl ⟨by rfl, fun w hw => ?h0a⟩) hS ?r0a
          case h0a => obtain ⟨q0, _, _, _, _⟩ := hw; go_simp
          simp only [Act.put, List.setIfInBounds_toArray, List.set_cons_zero, List.set_cons_succ]
          refine take_at (i := 1) (oi := _) (v := .slice (some ⟨g7, 0, none⟩) (1 + n6) cp7) (some 65) rfl rfl (by kernel_rfl) (by kernel_rfl) (by kernel_rfl) (fun _ _ _ h => h) (Or.inl ⟨by rfl, fun w hw => ?h1a⟩) hS ?r1a
          case h1a => obtain ⟨q0, _, _, _, _⟩ := hw; go_simp
          simp only [Act.put, List.setIfInBounds_toArray, List.set_cons_zero, List.set_cons_succ]
          refine take_at (i := 3) (oi := _) (v := .agg #[.int .i64 x, .int .i64 y, .int .i64 z]) (some 67) rfl rfl (by kernel_rfl) (by kernel_rfl) (by kernel_rfl) (fun _ _ _ h => h) (Or.inl ⟨by rfl, fun w hw => ?h3a⟩) hS ?r3a
          case h3a => obtain ⟨q0, _, _, _, _⟩ := hw; go_simp
          simp only [Act.put, List.setIfInBounds_toArray, List.set_cons_zero, List.set_cons_succ]
          refine take_at (i := 4) (oi := _) (v := .slice (some ⟨h5, 0, none⟩) n6 c5) (some 68) rfl rfl (by kernel_rfl) (by kernel_rfl) (by kernel_rfl) (fun _ _ _ h => h) (Or.inl ⟨by rfl, fun w hw => ?h4a⟩) hS ?r4a
          case h4a => obtain ⟨q0, _, _, _, _⟩ := hw; go_simp
          simp only [Act.put, List.setIfInBounds_toArray, List.set_cons_zero, List.set_cons_succ]
          refine wpAnyH_ready (rs := [2]) (by kernel_rfl) (by simp) (AllReadyH.cons (o := _) rfl (fun K hK => ?_) AllReadyH.nil)
          go_simp
          go_at_call 20
          refine (iLr_at _ _ _ _ _ _ n _ _ _ (Own.sl hS.2.2.1) HLR1.out HYS.out).mono ?_
          rintro e wA ⟨aA, cA, rfl, gA, kA⟩
          have hA := hS
          clear hS
          go_wp2_with fail
          refine hK.out _ _ ⟨(hA.2.1.belowAll kA).cell, hA.2.1.belowAll kA, hA.2.2.1.belowAll kA, hA.2.2.2.1.belowAll kA, hA.2.2.2.2.trans (kA.mono hA.2.2.2.2.size)⟩ (fun hS => ?_)
          clear hK K
          try simp only [Act.put, List.setIfInBounds_toArray, List.set_cons_zero, List.set_cons_succ]
          refine wpAnyH_ready (rs := [5]) (by kernel_rfl) (by simp) (AllReadyH.cons (o := _) rfl (fun K hK => ?_) AllReadyH.nil)
          go_simp
          go_at_call 20
          refine (iLr_at _ _ _ _ _ _ n _ _ _ (Own.sl hS.2.2.2.1) HLR.out HYS.out).mono ?_
          rintro e wB ⟨aB, cB, rfl, gB, kB⟩
          have hB := hS
          clear hS
          have gA := gA.belowAll kB
          go_wp2_with fail
          refine hK.out _ _ ⟨(hB.2.1.belowAll kB).cell, hB.2.1.belowAll kB, hB.2.2.1.belowAll kB, hB.2.2.2.1.belowAll kB, hB.2.2.2.2.trans (kB.mono hB.2.2.2.2.size)⟩ (fun hS => ?_)
          clear hK K
          try simp only [Act.put, List.setIfInBounds_toArray, List.set_cons_zero, List.set_cons_succ]
          refine wpAnyH_ready (rs := [6]) (by kernel_rfl) (by simp) (AllReadyH.cons (o := _) rfl (fun K hK => ?_) AllReadyH.nil)
          go_simp
          go_at_call 19
          refine (sameGot_same _ _ _ _ _ _ _ gA.sg gB.sg).mono ?_
          rintro e wC ⟨rfl, qq, rfl⟩
          have hC := hS
          clear hS
          go_wp2_with fail
          refine hK.out _ _ ⟨hC.1, hC.2.1, hC.2.2.1, hC.2.2.2.1, below_drewN hC.2.2.2.2 qq⟩ (fun hS => ?_)
          clear hK K
          try simp only [Act.put, List.setIfInBounds_toArray, List.set_cons_zero, List.set_cons_succ]
          refine take_at (i := 7) (oi := _) (v := .bool true) (some 71) rfl rfl (by kernel_rfl) (by kernel_rfl) (by kernel_rfl) (fun _ _ _ h => h) (Or.inl ⟨by rfl, fun w hw => ?h7a⟩) hS ?r7a
          case h7a => obtain ⟨q0, _, _, _, _⟩ := hw; go_simp
          simp only [Act.put, List.setIfInBounds_toArray, List.set_cons_zero, List.set_cons_succ]
          refine take_at (i := 8) (oi := _) (v := .slice (some ⟨hb, 0, none⟩) n cp) (some 72) rfl rfl (by kernel_rfl) (by kernel_rfl) (by kernel_rfl) (fun _ _ _ h => h) (Or.inl ⟨by rfl, fun w hw => ?h8a⟩) hS ?r8a
          case h8a => obtain ⟨q0, _, _, _, _⟩ := hw; go_simp
          simp only [Act.put, List.setIfInBounds_toArray, List.set_cons_zero, List.set_cons_succ]
          refine take_at (i := 9) (oi := _) (v := .int .i64 n) (some 73) rfl rfl (by kernel_rfl) (by kernel_rfl) (by kernel_rfl) (fun _ _ _ h => h) (Or.inl ⟨by rfl, fun w hw => ?h9a⟩) hS ?r9a
          case h9a => obtain ⟨q0, _, _, _, _⟩ := hw; go_simp
          simp only [Act.put, List.setIfInBounds_toArray, List.set_cons_zero, List.set_cons_succ]
          refine take_at (i := 10) (oi := _) (v := .bool true) (some 74) rfl rfl (by kernel_rfl) (by kernel_rfl) (by kernel_rfl) (fun _ _ _ h => h) (Or.inl ⟨by rfl, fun w hw => ?h10a⟩) hS ?r10a
          case h10a => obtain ⟨q0, _, _, _, _⟩ := hw; go_simp
          simp only [Act.put, List.setIfInBounds_toArray, List.set_cons_zero, List.set_cons_succ]
          refine take_at (i := 11) (oi := _) (v := .bool true) (some 75) rfl rfl (by kernel_rfl) (by kernel_rfl) (by kernel_rfl) (fun _ _ _ h => h) (Or.inl ⟨by rfl, fun w hw => ?h11a⟩) hS ?r11a
          case h11a => obtain ⟨q0, _, _, _, _⟩ := hw; go_simp
          simp only [Act.put, List.setIfInBounds_toArray, List.set_cons_zero, List.set_cons_succ]
          refine take_at (i := 12) (oi := _) (v := .int .i64 (-1)) (some 76) rfl rfl (by kernel_rfl) (by kernel_rfl) (by kernel_rfl) (fun _ _ _ h => h) (Or.inl ⟨by rfl, fun w hw => ?h12a⟩) hS ?r12a
          case h12a => obtain ⟨q0, _, _, _, _⟩ := hw; go_simp
          simp only [Act.put, List.setIfInBounds_toArray, List.set_cons_zero, List.set_cons_succ]
          refine take_at (i := 13) (oi := _) (v := .bool true) (some 77) rfl rfl (by kernel_rfl) (by kernel_rfl) (by kernel_rfl) (fun _ _ _ h => h) (Or.inl ⟨by rfl, fun w hw => ?h13a⟩) hS ?r13a
          case h13a => obtain ⟨q0, _, _, _, _⟩ := hw; go_simp
          simp only [Act.put, List.setIfInBounds_toArray, List.set_cons_zero, List.set_cons_succ]
          refine take_at (i := 14) (oi := _) (v := .bool true) (some 78) rfl rfl (by kernel_rfl) (by kernel_rfl) (by kernel_rfl) (fun _ _ _ h => h) (Or.inl ⟨by rfl, fun w hw => ?h14a⟩) hS ?r14a
          case h14a => obtain ⟨q0, _, _, _, _⟩ := hw; go_simp
          simp only [Act.put, List.setIfInBounds_toArray, List.set_cons_zero, List.set_cons_succ]
          refine take_at (i := 15) (oi := _) (v := .bool true) (some 79) rfl rfl (by kernel_rfl) (by kernel_rfl) (by kernel_rfl) (fun _ _ _ h => h) (Or.inl ⟨by rfl, fun w hw => ?h15a⟩) hS ?r15a
          case h15a => obtain ⟨q0, _, _, _, _⟩ := hw; go_simp
          simp only [Act.put, List.setIfInBounds_toArray, List.set_cons_zero, List.set_cons_succ]
          refine take_at (i := 16) (oi := _) (v := undef) (some 80) rfl rfl (by kernel_rfl) (by kernel_rfl) (by kernel_rfl) (fun _ _ _ h => h) (Or.inr ⟨by rfl, rfl⟩) hS ?_
          simp only [Act.put, List.setIfInBounds_toArray, List.set_cons_zero, List.set_cons_succ]
          refine take_at (i := 17) (oi := _) (v := undef) (some 81) rfl rfl (by kernel_rfl) (by kernel_rfl) (by kernel_rfl) (fun _ _ _ h => h) (Or.inr ⟨by rfl, rfl⟩) hS ?_
          simp only [Act.put, List.setIfInBounds_toArray, List.set_cons_zero, List.set_cons_succ]
          refine take_at (i := 18) (oi := _) (v := undef) (some 82) rfl rfl (by kernel_rfl) (by kernel_rfl) (by kernel_rfl) (fun _ _ _ h => h) (Or.inr ⟨by rfl, rfl⟩) hS ?_
          simp only [Act.put, List.setIfInBounds_toArray, List.set_cons_zero, List.set_cons_succ]
          refine take_at (i := 19) (oi := _) (v := undef) (some 83) rfl rfl (by kernel_rfl) (by kernel_rfl) (by kernel_rfl) (fun _ _ _ h => h) (Or.inr ⟨by rfl, rfl⟩) hS ?_
          simp only [Act.put, List.setIfInBounds_toArray, List.set_cons_zero, List.set_cons_succ]
          refine take_at (i := 20) (oi := _) (v := undef) (some 84) rfl rfl (by kernel_rfl) (by kernel_rfl) (by kernel_rfl) (fun _ _ _ h => h) (Or.inr ⟨by rfl, rfl⟩) hS ?_
          simp only [Act.put, List.setIfInBounds_toArray, List.set_cons_zero, List.set_cons_succ]
          refine take_at (i := 21) (oi := _) (v := undef) (some 85) rfl rfl (by kernel_rfl) (by kernel_rfl) (by kernel_rfl) (fun _ _ _ h => h) (Or.inr ⟨by rfl, rfl⟩) hS ?_
          simp only [Act.put, List.setIfInBounds_toArray, List.set_cons_zero, List.set_cons_succ]
          refine take_at (i := 22) (oi := _) (v := undef) (some 86) rfl rfl (by kernel_rfl) (by kernel_rfl) (by kernel_rfl) (fun _ _ _ h => h) (Or.inr ⟨by rfl, rfl⟩) hS ?_
          simp only [Act.put, List.setIfInBounds_toArray, List.set_cons_zero, List.set_cons_succ]
          refine take_at (i := 23) (oi := _) (v := undef) (some 87) rfl rfl (by kernel_rfl) (by kernel_rfl) (by kernel_rfl) (fun _ _ _ h => h) (Or.inr ⟨by rfl, rfl⟩) hS ?_
          simp only [Act.put, List.setIfInBounds_toArray, List.set_cons_zero, List.set_cons_succ]
          refine take_at (i := 24) (oi := _) (v := .bool true) (some 88) rfl rfl (by kernel_rfl) (by kernel_rfl) (by kernel_rfl) (fun _ _ _ h => h) (Or.inl ⟨by rfl, fun w hw => ?h24a⟩) hS ?r24a
          case h24a => obtain ⟨q0, _, _, _, _⟩ := hw; go_simp
          simp only [Act.put, List.setIfInBounds_toArray, List.set_cons_zero, List.set_cons_succ]
          refine take_at (i := 25) (oi := _) (v := .bool true) (some 89) rfl rfl (by kernel_rfl) (by kernel_rfl) (by kernel_rfl) (fun _ _ _ h => h) (Or.inl ⟨by rfl, fun w hw => ?h25a⟩) hS ?r25a
          case h25a => obtain ⟨q0, _, _, _, _⟩ := hw; go_simp
          simp only [Act.put, List.setIfInBounds_toArray, List.set_cons_zero, List.set_cons_succ]
          refine take_at (i := 26) (oi := _) (v := .bool true) (some 2) rfl rfl (by kernel_rfl) (by kernel_rfl) (by kernel_rfl) (fun _ _ _ h => h) (Or.inl ⟨by rfl, fun w hw => ?h26a⟩) hS ?r26a
          case h26a => obtain ⟨q0, _, _, _, _⟩ := hw; go_simp
          simp only [Act.put, List.setIfInBounds_toArray, List.set_cons_zero, List.set_cons_succ]
          refine wpAnyH_done (by kernel_rfl) ?_ _
          refine NoPanic.normal ?_
          have K10 := hS.2.2.2.2
          all_goals
            go_wp2
            go_ret
            exact ⟨by simp, K10⟩
        · have t0 : ((n : Int) == 0) = false := by simpa using hn0
          have t1 : decide ((0 : Int) < (n : Int)) = true := by simp; omega
          have t2 : 0 < n := by omega
          have t3 : decide (0 < n) = true := by simp; omega
          have t4 : (0 : Int) < (n : Int) := by omega
          have HN0 := hide hn0
          clear hn0
          go_wp2_with (first | (refine app_any rfl (.tmp 56) (.tmp 57) rfl rfl rfl (Own.one (Nat.le_refl _) HB7.out) (o5.alloc _).sl (by omega) (by simp) ?_; intro g7 cp7 w7 o7 k7; have K7 := (K.out.alloc K.out.size _).trans (grown_below k7 K.out.size (by have := K.out.size; simp; omega)); have f7 := Bk.grow (f.alloc _) k7 (by have := HFX.out; simp; omega); have o57 := Own.grow (o5.alloc _) k7 (by have := HHX.out; omega); have q7 := f7.cell; clear k7 q) | (go_at_call 18; refine (impl_ls _ _ _ Z 0 _ o57.sl (by omega)).mono ?_; rintro e w8 ⟨rfl, hw8⟩; subst hw8; rw [HLS.out, HL.out]; rw [if_neg HN0.out]))
          have fD : Bk w7.drew F 27 #[.int .i64 x, .int .i64 y, .int .i64 z] := f7
          have oD : Own w7.drew _ h5 n6 c5 Z := o57
          have oxD : Own w7.drew w'.heap.size g7 (1 + n6) cp7 (1 :: Z) := o7
          have KD : Below w.heap.size w w7.drew := K7.drew
          clear f7 o57 o7 K7 HB7 HFX HHX HLS HZ HLN HFV HL HLOK HN0 HOH HFH f o o5 K
          have oD := Own.le_ oD (base' := 0) (Nat.zero_le _)
          have oxD := Own.le_ oxD (base' := 0) (Nat.zero_le _)
          have qD := fD.cell
          refine wp_region_noPanic ?_
          refine wp_region_held_drew (S := fun W => (∀ i, W.cell? ⟨F, i, none⟩ = #[Value.int .i64 x, .int .i64 y, .int .i64 z][i]?) ∧ Bk W F 27 #[Value.int .i64 x, .int .i64 y, .int .i64 z] ∧ Own W 0 g7 (1 + n6) cp7 (1 :: Z) ∧ Own W 0 h5 n6 c5 Z ∧ Below w.heap.size w W) (by kernel_rfl) ⟨qD, fD, oxD, oD, KD⟩ (fun hS => ?_)
          refine take_at (i := 0) (oi := _) (v := .agg #[.int .i64 x, .int .i64 y, .int .i64 z]) (some 64) rfl rfl (by kernel_rfl) (by kernel_rfl) (by kernel_rfl) (fun _ _ _ h => h) (Or.inl ⟨by rfl, fun w hw => ?h0b⟩) hS ?r0b
          case h0b => obtain ⟨q0, _, _, _, _⟩ := hw; go_simp
          simp only [Act.put, List.setIfInBounds_toArray, List.set_cons_zero, List.set_cons_succ]
          refine take_at (i := 1) (oi := _) (v := .slice (some ⟨g7, 0, none⟩) (1 + n6) cp7) (some 65) rfl rfl (by kernel_rfl) (by kernel_rfl) (by kernel_rfl) (fun _ _ _ h => h) (Or.inl ⟨by rfl, fun w hw => ?h1b⟩) hS ?r1b
          case h1b => obtain ⟨q0, _, _, _, _⟩ := hw; go_simp
          simp only [Act.put, List.setIfInBounds_toArray, List.set_cons_zero, List.set_cons_succ]
          refine take_at (i := 3) (oi := _) (v := .agg #[.int .i64 x, .int .i64 y, .int .i64 z]) (some 67) rfl rfl (by kernel_rfl) (by kernel_rfl) (by kernel_rfl) (fun _ _ _ h => h) (Or.inl ⟨by rfl, fun w hw => ?h3b⟩) hS ?r3b
          case h3b => obtain ⟨q0, _, _, _, _⟩ := hw; go_simp
          simp only [Act.put, List.setIfInBounds_toArray, List.set_cons_zero, List.set_cons_succ]
          refine take_at (i := 4) (oi := _) (v := .slice (some ⟨h5, 0, none⟩) n6 c5) (some 68) rfl rfl (by kernel_rfl) (by kernel_rfl) (by kernel_rfl) (fun _ _ _ h => h) (Or.inl ⟨by rfl, fun w hw => ?h4b⟩) hS ?r4b
          case h4b => obtain ⟨q0, _, _, _, _⟩ := hw; go_simp
          simp only [Act.put, List.setIfInBounds_toArray, List.set_cons_zero, List.set_cons_succ]
          refine wpAnyH_ready (rs := [2]) (by kernel_rfl) (by simp) (AllReadyH.cons (o := _) rfl (fun K hK => ?_) AllReadyH.nil)
          go_simp
          go_at_call 20
          refine (iLr_at _ _ _ _ _ _ n _ _ _ (Own.sl hS.2.2.1) HLR1.out HYS.out).mono ?_
          rintro e wA ⟨aA, cA, rfl, gA, kA⟩
          have hA := hS
          clear hS
          go_wp2_with fail
          refine hK.out _ _ ⟨(hA.2.1.belowAll kA).cell, hA.2.1.belowAll kA, hA.2.2.1.belowAll kA, hA.2.2.2.1.belowAll kA, hA.2.2.2.2.trans (kA.mono hA.2.2.2.2.size)⟩ (fun hS => ?_)
          clear hK K
          try simp only [Act.put, List.setIfInBounds_toArray, List.set_cons_zero, List.set_cons_succ]
          refine wpAnyH_ready (rs := [5]) (by kernel_rfl) (by simp) (AllReadyH.cons (o := _) rfl (fun K hK => ?_) AllReadyH.nil)
          go_simp
          go_at_call 20
          refine (iLr_at _ _ _ _ _ _ n _ _ _ (Own.sl hS.2.2.2.1) HLR.out HYS.out).mono ?_
          rintro e wB ⟨aB, cB, rfl, gB, kB⟩
          have hB := hS
          clear hS
          have gA := gA.belowAll kB
          go_wp2_with fail
          refine hK.out _ _ ⟨(hB.2.1.belowAll kB).cell, hB.2.1.belowAll kB, hB.2.2.1.belowAll kB, hB.2.2.2.1.belowAll kB, hB.2.2.2.2.trans (kB.mono hB.2.2.2.2.size)⟩ (fun hS => ?_)
          clear hK K
          try simp only [Act.put, List.setIfInBounds_toArray, List.set_cons_zero, List.set_cons_succ]
          refine wpAnyH_ready (rs := [6]) (by kernel_rfl) (by simp) (AllReadyH.cons (o := _) rfl (fun K hK => ?_) AllReadyH.nil)
          go_simp
          go_at_call 19
          refine (sameGot_same _ _ _ _ _ _ _ gA.sg gB.sg).mono ?_
          rintro e wC ⟨rfl, qq, rfl⟩
          have hC := hS
          clear hS
          go_wp2_with fail
          refine hK.out _ _ ⟨hC.1, hC.2.1, hC.2.2.1, hC.2.2.2.1, below_drewN hC.2.2.2.2 qq⟩ (fun hS => ?_)
          clear hK K
          try simp only [Act.put, List.setIfInBounds_toArray, List.set_cons_zero, List.set_cons_succ]
          refine take_at (i := 7) (oi := _) (v := .bool true) (some 71) rfl rfl (by kernel_rfl) (by kernel_rfl) (by kernel_rfl) (fun _ _ _ h => h) (Or.inl ⟨by rfl, fun w hw => ?h7b⟩) hS ?r7b
          case h7b => obtain ⟨q0, _, _, _, _⟩ := hw; go_simp
          simp only [Act.put, List.setIfInBounds_toArray, List.set_cons_zero, List.set_cons_succ]
          refine take_at (i := 8) (oi := _) (v := .slice (some ⟨hb, 0, none⟩) n cp) (some 72) rfl rfl (by kernel_rfl) (by kernel_rfl) (by kernel_rfl) (fun _ _ _ h => h) (Or.inl ⟨by rfl, fun w hw => ?h8b⟩) hS ?r8b
          case h8b => obtain ⟨q0, _, _, _, _⟩ := hw; go_simp
          simp only [Act.put, List.setIfInBounds_toArray, List.set_cons_zero, List.set_cons_succ]
          refine take_at (i := 9) (oi := _) (v := .int .i64 n) (some 73) rfl rfl (by kernel_rfl) (by kernel_rfl) (by kernel_rfl) (fun _ _ _ h => h) (Or.inl ⟨by rfl, fun w hw => ?h9b⟩) hS ?r9b
          case h9b => obtain ⟨q0, _, _, _, _⟩ := hw; go_simp
          simp only [Act.put, List.setIfInBounds_toArray, List.set_cons_zero, List.set_cons_succ]
          refine take_at (i := 10) (oi := _) (v := .bool false) (some 74) rfl rfl (by kernel_rfl) (by kernel_rfl) (by kernel_rfl) (fun _ _ _ h => h) (Or.inl ⟨by rfl, fun w hw => ?h10b⟩) hS ?r10b
          case h10b => obtain ⟨q0, _, _, _, _⟩ := hw; go_simp
          simp only [Act.put, List.setIfInBounds_toArray, List.set_cons_zero, List.set_cons_succ]
          refine take_at (i := 11) (oi := _) (v := .bool false) (some 75) rfl rfl (by kernel_rfl) (by kernel_rfl) (by kernel_rfl) (fun _ _ _ h => h) (Or.inl ⟨by rfl, fun w hw => ?h11b⟩) hS ?r11b
          case h11b => obtain ⟨q0, _, _, _, _⟩ := hw; go_simp
          simp only [Act.put, List.setIfInBounds_toArray, List.set_cons_zero, List.set_cons_succ]
          refine take_at (i := 12) (oi := _) (v := undef) (some 76) rfl rfl (by kernel_rfl) (by kernel_rfl) (by kernel_rfl) (fun _ _ _ h => h) (Or.inr ⟨by rfl, rfl⟩) hS ?_
          simp only [Act.put, List.setIfInBounds_toArray, List.set_cons_zero, List.set_cons_succ]
          refine take_at (i := 13) (oi := _) (v := undef) (some 77) rfl rfl (by kernel_rfl) (by kernel_rfl) (by kernel_rfl) (fun _ _ _ h => h) (Or.inr ⟨by rfl, rfl⟩) hS ?_
          simp only [Act.put, List.setIfInBounds_toArray, List.set_cons_zero, List.set_cons_succ]
          refine take_at (i := 14) (oi := _) (v := .bool false) (some 78) rfl rfl (by kernel_rfl) (by kernel_rfl) (by kernel_rfl) (fun _ _ _ h => h) (Or.inl ⟨by rfl, fun w hw => ?h14b⟩) hS ?r14b
          case h14b => obtain ⟨q0, _, _, _, _⟩ := hw; go_simp
          simp only [Act.put, List.setIfInBounds_toArray, List.set_cons_zero, List.set_cons_succ]
          refine take_at (i := 15) (oi := _) (v := .bool false) (some 79) rfl rfl (by kernel_rfl) (by kernel_rfl) (by kernel_rfl) (fun _ _ _ h => h) (Or.inl ⟨by rfl, fun w hw => ?h15b⟩) hS ?r15b
          case h15b => obtain ⟨q0, _, _, _, _⟩ := hw; go_simp
          simp only [Act.put, List.setIfInBounds_toArray, List.set_cons_zero, List.set_cons_succ]
          refine take_at (i := 16) (oi := _) (v := .slice (some ⟨hb, 0, none⟩) n cp) (some 80) rfl rfl (by kernel_rfl) (by kernel_rfl) (by kernel_rfl) (fun _ _ _ h => h) (Or.inl ⟨by rfl, fun w hw => ?h16b⟩) hS ?r16b
          case h16b => obtain ⟨q0, _, _, _, _⟩ := hw; go_simp
          simp only [Act.put, List.setIfInBounds_toArray, List.set_cons_zero, List.set_cons_succ]
          refine take_at (i := 17) (oi := _) (v := .int .i64 n) (some 81) rfl rfl (by kernel_rfl) (by kernel_rfl) (by kernel_rfl) (fun _ _ _ h => h) (Or.inl ⟨by rfl, fun w hw => ?h17b⟩) hS ?r17b
          case h17b => obtain ⟨q0, _, _, _, _⟩ := hw; go_simp
          simp only [Act.put, List.setIfInBounds_toArray, List.set_cons_zero, List.set_cons_succ]
          refine take_at (i := 18) (oi := _) (v := .bool true) (some 82) rfl rfl (by kernel_rfl) (by kernel_rfl) (by kernel_rfl) (fun _ _ _ h => h) (Or.inl ⟨by rfl, fun w hw => ?h18b⟩) hS ?r18b
          case h18b => obtain ⟨q0, _, _, _, _⟩ := hw; go_simp
          simp only [Act.put, List.setIfInBounds_toArray, List.set_cons_zero, List.set_cons_succ]
          refine take_at (i := 19) (oi := _) (v := .bool true) (some 83) rfl rfl (by kernel_rfl) (by kernel_rfl) (by kernel_rfl) (fun _ _ _ h => h) (Or.inl ⟨by rfl, fun w hw => ?h19b⟩) hS ?r19b
          case h19b => obtain ⟨q0, _, _, _, _⟩ := hw; go_simp
          simp only [Act.put, List.setIfInBounds_toArray, List.set_cons_zero, List.set_cons_succ]
          refine take_at (i := 20) (oi := _) (v := .int .i64 I) (some 84) rfl rfl (by kernel_rfl) (by kernel_rfl) (by kernel_rfl) (fun _ _ _ h => h) (Or.inl ⟨by rfl, fun w hw => ?h20b⟩) hS ?r20b
          case h20b => obtain ⟨q0, _, _, _, _⟩ := hw; go_simp
          simp only [Act.put, List.setIfInBounds_toArray, List.set_cons_zero, List.set_cons_succ]
          refine take_at (i := 21) (oi := _) (v := .int .i64 I) (some 85) rfl rfl (by kernel_rfl) (by kernel_rfl) (by kernel_rfl) (fun _ _ _ h => h) (Or.inl ⟨by rfl, fun w hw => ?h21b⟩) hS ?r21b
          case h21b => obtain ⟨q0, _, _, _, _⟩ := hw; go_simp
          simp only [Act.put, List.setIfInBounds_toArray, List.set_cons_zero, List.set_cons_succ]
          refine take_at (i := 22) (oi := _) (v := .bool true) (some 86) rfl rfl (by kernel_rfl) (by kernel_rfl) (by kernel_rfl) (fun _ _ _ h => h) (Or.inl ⟨by rfl, fun w hw => ?h22b⟩) hS ?r22b
          case h22b => obtain ⟨q0, _, _, _, _⟩ := hw; go_simp
          simp only [Act.put, List.setIfInBounds_toArray, List.set_cons_zero, List.set_cons_succ]
          refine take_at (i := 23) (oi := _) (v := .bool true) (some 87) rfl rfl (by kernel_rfl) (by kernel_rfl) (by kernel_rfl) (fun _ _ _ h => h) (Or.inl ⟨by rfl, fun w hw => ?h23b⟩) hS ?r23b
          case h23b => obtain ⟨q0, _, _, _, _⟩ := hw; go_simp
          simp only [Act.put, List.setIfInBounds_toArray, List.set_cons_zero, List.set_cons_succ]
          refine take_at (i := 24) (oi := _) (v := .bool true) (some 88) rfl rfl (by kernel_rfl) (by kernel_rfl) (by kernel_rfl) (fun _ _ _ h => h) (Or.inl ⟨by rfl, fun w hw => ?h24b⟩) hS ?r24b
          case h24b => obtain ⟨q0, _, _, _, _⟩ := hw; go_simp
          simp only [Act.put, List.setIfInBounds_toArray, List.set_cons_zero, List.set_cons_succ]
          refine take_at (i := 25) (oi := _) (v := .bool true) (some 89) rfl rfl (by kernel_rfl) (by kernel_rfl) (by kernel_rfl) (fun _ _ _ h => h) (Or.inl ⟨by rfl, fun w hw => ?h25b⟩) hS ?r25b
          case h25b => obtain ⟨q0, _, _, _, _⟩ := hw; go_simp
          simp only [Act.put, List.setIfInBounds_toArray, List.set_cons_zero, List.set_cons_succ]
          refine take_at (i := 26) (oi := _) (v := .bool true) (some 2) rfl rfl (by kernel_rfl) (by kernel_rfl) (by kernel_rfl) (fun _ _ _ h => h) (Or.inl ⟨by rfl, fun w hw => ?h26b⟩) hS ?r26b
          case h26b => obtain ⟨q0, _, _, _, _⟩ := hw; go_simp
          simp only [Act.put, List.setIfInBounds_toArray, List.set_cons_zero, List.set_cons_succ]
          refine wpAnyH_done (by kernel_rfl) ?_ _
          refine NoPanic.normal ?_
          have K10 := hS.2.2.2.2
          all_goals
            go_wp2
            go_ret
            exact ⟨by simp, K10⟩
end Go.Proofs.Ytemioipedkbkiaa
