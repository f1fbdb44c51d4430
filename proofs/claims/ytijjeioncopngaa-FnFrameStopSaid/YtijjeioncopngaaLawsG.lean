/-
  The walks of the drawn laws on the byte of a frame: each law returns true for every code and turns nothing that was there.
-/
import Derived.Test.YtijjeioncopngaaDrawG
import Derived.Test.YtijjeioncopngaaFrmG
namespace Go.Proofs.Ytijjeioncopngaa
open Go.RowKit
set_option linter.unusedVariables false

set_option maxHeartbeats 2000000 in
theorem fnFrameBad_walk (a : Option Addr) (len cap : Nat) (zs0 : List Int) (w : World) (h : IsRow .u8 w a len cap zs0) :
    Calls Try.prog 10 #[.slice a len cap] w fun e w' => e = .returned (.bool true) ∧ Below w.heap.size w w' := by
  by_cases hbig : (1048576 : Int) < (len : Int)
  · go_enter Try.func10, Try.ntmps10
    go_wp2
    go_ret
    exact ⟨rfl, Below.refl _ _⟩
  · have hsm : ¬ (1048576 : Int) < (len : Int) := hbig
    go_enter Try.func10, Try.ntmps10
    go_wp2_with fail
    refine (dDrawFrameFrom_any a len cap zs0 _ h).mono ?_
    rintro e w1 ⟨x, y, z, hb, n, cp, zs, rfl, o, hn12, k1⟩
    have lt0 := o.lt.2
    have f := Bk.new w1 27 #[.int .i64 x, .int .i64 y, .int .i64 z]
    have K := hide (k1.alloc k1.size (.cells #[.int .i64 x, .int .i64 y, .int .i64 z] 27))
    have o := o.alloc (.cells #[.int .i64 x, .int .i64 y, .int .i64 z] 27)
    have HN := hide o.len
    obtain ⟨F, hF⟩ : ∃ F, w1.heap.size = F := ⟨_, rfl⟩
    rw [hF] at f
    have HWF := hide (show w.heap.size ≤ F by rw [← hF]; exact k1.size)
    have HLF := hide (show hb < F by omega)
    clear lt0
    have q := f.cell
    clear k1
    go_wp2_with fail
    clear hF
    refine (iff_any _ _ _ _ _ _ zs _ o.sl).mono ?_
    rintro e w2 ⟨rfl, k⟩
    clear q
    have o := o.belowAll k
    have f := f.belowAll k
    have K := hide (K.out.trans (k.mono (by have := K.out.size; first | exact this | simpa using this)))
    clear k
    have q := f.cell
    go_wp2_with fail
    refine (sff_any _ _ _ _ _ _ zs _ o.sl).mono ?_
    rintro e w2 ⟨rfl, k⟩
    clear q
    have o := o.belowAll k
    have f := f.belowAll k
    have K := hide (K.out.trans (k.mono (by have := K.out.size; first | exact this | simpa using this)))
    clear k
    have q := f.cell
    obtain ⟨N, hN⟩ : ∃ N, ffc x y z n zs = N := ⟨_, rfl⟩
    obtain ⟨V, hV⟩ : ∃ V, ffv x y z n zs = V := ⟨_, rfl⟩
    rw [hN, hV]
    have HNN := hide hN
    have HVV := hide hV
    clear hN hV
    by_cases h3 : N = 3
    · subst h3
      go_wp2
      go_ret
      exact ⟨rfl, K.out⟩
    · have hg := ffc_gd (show ffc x y z n zs ≠ 3 by rw [HNN.out]; exact h3)
      obtain ⟨hv, hl, -, -⟩ := gd_parts hg
      have hn7 : 7 ≤ n := by have := (fl_bd hv).1; omega
      have hn7' : (7 : Int) ≤ (n : Int) := by omega
      have h3' : (N == 3) = false := by simpa using h3
      have hnc : n ≤ cp := o.sl.2.1
      have hnc' : (n : Int) ≤ (cp : Int) := by omega
      have HB1 := hide (ffc_bad (gd_set0 (a := x) (b := y) (c := z) (len := n) (zs := zs) (by rw [HN.out]; omega)))
      have HB2 := hide (ffc_bad (gd_short (ys := zs.take (n - 1)) hg (by omega)))
      clear h3 hg hv hl
      go_wp2_with (first | (refine app_ints rfl (.tmp 54) (.tmp 55) rfl rfl rfl (Own.new (base := F + 1) (h := w2.heap.size) (by have := f.lt; omega) (Bk.new _ _ _)) (o.sl.alloc _) (by omega) (by omega) (by have := f.lt; simp; omega) ?_; intro g6 cap6 w6 o6 k6; have f6 := Bk.grow (f.alloc _) k6 (by have := f.lt; simp; omega); have ob6 := World.ownsRow.kept (row := some w2.heap.size) (o.alloc (.cells #[] 3)) ⟨k6.os, k6.tape, k6.output, k6.size, k6.block⟩ (.inr (by have := o.lt; simp [Value.ownBlock]; omega)); have KK := hide ((K.out.alloc K.out.size _).trans (grown_below k6 (K.out.size) (by have := K.out.size; simp; omega))); clear k6 q; have q6 := f6.cell; have nF : ¬ F = g6 := (by have := o6.lt; omega); have nF2 : ¬ g6 = F := fun e => nF e.symm; have HBG := hide (show hb ≠ g6 by have := HLF.out; have := o6.lt; omega); simp only [List.nil_append, Nat.zero_add] at o6; have c6 := o6.cellAt (j := 0) (by omega); have fr6 := o6.free 0) | (go_at_call 21; refine (iff_any _ _ _ _ _ _ (zs.set 0 1) _ (o6.put (j := 0) (by omega) 1).sl).mono ?_; rintro e w8 ⟨rfl, k8⟩; rw [HB1.out]; have ob8 : Own w8 w.heap.size hb n cp zs := Own.belowAll (Own.far ob6 (p := ⟨g6, 0, none⟩) (by simpa using HBG.out) _) k8; have f8 := (f6.far (p := ⟨g6, 0, none⟩) (by simpa using nF) (.int .i64 1)).belowAll k8; have K8 := (KK.out.setCell (p := ⟨g6, 0, none⟩) (by have := o6.lt; have := HWF.out; simp; omega) (.int .i64 1)); have K8 := K8.trans (k8.mono K8.size); clear q6; have q8 := f8.cell))
      have x1 : IntKind.i64.wrap ((n : Int) - 1) = (n : Int) - 1 := IntWalk.i64_in _ (by omega)
      have x2 : (0 : Int) ≤ (n : Int) - 1 := by omega
      have x4 : ((n : Int) - 1).toNat = n - 1 := by omega
      have x5 : (1 : Int) ≤ (n : Int) := by omega
      have x6 : (n : Int) - 1 ≤ (cp : Int) := by omega
      have obd : Own w8.drew w.heap.size hb n cp zs := ob8
      go_region_law (first | (go_simp; go_at_call 21; refine (iff_any _ _ _ _ _ _ (zs.take (n - 1)) _ (obd.take_ (by omega)).sl).mono ?_; rintro e w9 ⟨rfl, k9⟩; rw [HB2.out]))
      all_goals
        have K9 := (K8.drew).trans (k9.mono K8.drew.size)
        go_wp2
        go_ret
        exact ⟨rfl, K9⟩
set_option maxHeartbeats 2000000 in
theorem fnFrameStop_walk (a : Option Addr) (len cap : Nat) (zs0 : List Int) (w : World) (h : IsRow .u8 w a len cap zs0) :
    Calls Try.prog 11 #[.slice a len cap] w fun e w' => e = .returned (.bool true) ∧ Below w.heap.size w w' := by
  by_cases hbig : (1048576 : Int) < (len : Int)
  · go_enter Try.func11, Try.ntmps11
    go_wp2
    go_ret
    exact ⟨rfl, Below.refl _ _⟩
  · have hsm : ¬ (1048576 : Int) < (len : Int) := hbig
    go_enter Try.func11, Try.ntmps11
    go_wp2_with fail
    refine (dDrawFrameFrom_any a len cap zs0 _ h).mono ?_
    rintro e w1 ⟨x, y, z, hb, n, cp, zs, rfl, o, hn12, k1⟩
    have lt0 := o.lt.2
    have f := Bk.new w1 27 #[.int .i64 x, .int .i64 y, .int .i64 z]
    have K := hide (k1.alloc k1.size (.cells #[.int .i64 x, .int .i64 y, .int .i64 z] 27))
    have o := o.alloc (.cells #[.int .i64 x, .int .i64 y, .int .i64 z] 27)
    have HN := hide o.len
    obtain ⟨F, hF⟩ : ∃ F, w1.heap.size = F := ⟨_, rfl⟩
    rw [hF] at f
    have HWF := hide (show w.heap.size ≤ F by rw [← hF]; exact k1.size)
    have HLF := hide (show hb < F by omega)
    clear lt0
    have q := f.cell
    clear k1
    go_wp2_with fail
    clear hF
    refine (iff_any _ _ _ _ _ _ zs _ o.sl).mono ?_
    rintro e w2 ⟨rfl, k⟩
    clear q
    have o := o.belowAll k
    have f := f.belowAll k
    have K := hide (K.out.trans (k.mono (by have := K.out.size; first | exact this | simpa using this)))
    clear k
    have q := f.cell
    go_wp2_with fail
    refine (sff_any _ _ _ _ _ _ zs _ o.sl).mono ?_
    rintro e w2 ⟨rfl, k⟩
    clear q
    have o := o.belowAll k
    have f := f.belowAll k
    have K := hide (K.out.trans (k.mono (by have := K.out.size; first | exact this | simpa using this)))
    clear k
    have q := f.cell
    obtain ⟨N, hN⟩ : ∃ N, ffc x y z n zs = N := ⟨_, rfl⟩
    obtain ⟨V, hV⟩ : ∃ V, ffv x y z n zs = V := ⟨_, rfl⟩
    rw [hN, hV]
    have HNN := hide hN
    have HVV := hide hV
    clear hN hV
    by_cases h3 : N = 3
    · subst h3
      go_wp2
      go_ret
      exact ⟨rfl, K.out⟩
    · have hg := ffc_gd (show ffc x y z n zs ≠ 3 by rw [HNN.out]; exact h3)
      obtain ⟨hv, hl, hA, -⟩ := gd_parts hg
      obtain ⟨r1, r2, r3, r4, r5, r6⟩ := fv_iff.1 hv
      have hst := ffc_stop hg
      rw [HNN.out] at hst
      have hn7 : 7 ≤ n := by have := (fl_bd hv).1; omega
      have hn7' : (7 : Int) ≤ (n : Int) := by omega
      have h3' : (N == 3) = false := by simpa using h3
      have b1 := allBt_at hA (j := n - 1) (by rw [HN.out]; omega)
      have b2 := allBt_at hA (j := n - 2) (by rw [HN.out]; omega)
      have c1 := o.cellAt (j := n - 1) (by omega)
      have c2 := o.cellAt (j := n - 2) (by omega)
      unfold st at hst
      obtain ⟨u1, hu1⟩ : ∃ u, zs.getD (n - 1) 0 = u := ⟨_, rfl⟩
      obtain ⟨u2, hu2⟩ : ∃ u, zs.getD (n - 2) 0 = u := ⟨_, rfl⟩
      rw [hu1] at b1 c1 hst
      rw [hu2] at b2 c2 hst
      have e1 : ((n : Int) - 1).toNat = n - 1 := by omega
      have e2 : ((n : Int) - 1 - 1).toNat = n - 2 := by omega
      have e3 : ((n : Int) - 2).toNat = n - 2 := by omega
      clear h3 hg hv hl hA hu1 hu2
      obtain rfl | rfl : u1 = 0 ∨ u1 = 1 := by omega
      all_goals
        obtain rfl | rfl : u2 = 0 ∨ u2 = 1 := by omega
        all_goals
          obtain hz | hz : z = 1 ∨ z = 2 := by omega
          all_goals
            rw [hz] at hst q
            clear hz
            simp at hst
            have HST := hide hst
            clear hst
            go_wp2
            refine wp_loop_rounds 3 ?_
            repeat any_goals (rw [rounds_succ]; go_wp2)
            have hst := HST.out
            go_wp2
            go_ret
            exact ⟨by simp [HST.out], K.out⟩
set_option maxHeartbeats 2000000 in
theorem fnFrameFrom_walk (a : Option Addr) (len cap : Nat) (zs0 : List Int) (w : World) (h : IsRow .u8 w a len cap zs0) :
    Calls Try.prog 12 #[.slice a len cap] w fun e w' => e = .returned (.bool true) ∧ Below w.heap.size w w' := by
  by_cases hbig : (1048576 : Int) < (len : Int)
  · go_enter Try.func12, Try.ntmps12
    go_wp2
    go_ret
    exact ⟨rfl, Below.refl _ _⟩
  · have hsm : ¬ (1048576 : Int) < (len : Int) := hbig
    go_enter Try.func12, Try.ntmps12
    go_wp2_with fail
    refine (dDrawFrameFrom_any a len cap zs0 _ h).mono ?_
    rintro e w1 ⟨x, y, z, hb, n, cp, zs, rfl, o, hn12, k1⟩
    have lt0 := o.lt.2
    have f := Bk.new w1 27 #[.int .i64 x, .int .i64 y, .int .i64 z]
    have K := hide (k1.alloc k1.size (.cells #[.int .i64 x, .int .i64 y, .int .i64 z] 27))
    have o := o.alloc (.cells #[.int .i64 x, .int .i64 y, .int .i64 z] 27)
    have HN := hide o.len
    obtain ⟨F, hF⟩ : ∃ F, w1.heap.size = F := ⟨_, rfl⟩
    rw [hF] at f
    have HWF := hide (show w.heap.size ≤ F by rw [← hF]; exact k1.size)
    have HLF := hide (show hb < F by omega)
    clear lt0
    have q := f.cell
    clear k1
    go_wp2_with fail
    clear hF
    refine (iff_any _ _ _ _ _ _ zs _ o.sl).mono ?_
    rintro e w2 ⟨rfl, k⟩
    clear q
    have o := o.belowAll k
    have f := f.belowAll k
    have K := hide (K.out.trans (k.mono (by have := K.out.size; first | exact this | simpa using this)))
    clear k
    have q := f.cell
    go_wp2_with fail
    refine (sff_any _ _ _ _ _ _ zs _ o.sl).mono ?_
    rintro e w2 ⟨rfl, k⟩
    clear q
    have o := o.belowAll k
    have f := f.belowAll k
    have K := hide (K.out.trans (k.mono (by have := K.out.size; first | exact this | simpa using this)))
    clear k
    have q := f.cell
    obtain ⟨N, hN⟩ : ∃ N, ffc x y z n zs = N := ⟨_, rfl⟩
    obtain ⟨V, hV⟩ : ∃ V, ffv x y z n zs = V := ⟨_, rfl⟩
    rw [hN, hV]
    have HNN := hide hN
    have HVV := hide hV
    clear hN hV
    by_cases h0 : N = 0
    · subst h0
      obtain ⟨hok, hfr⟩ := ffc_fine (a := x) (b := y) (c := z) (zs := zs) (by rw [HN.out]; exact HNN.out)
      rw [HN.out, HVV.out] at hok hfr
      have HOK := hide hok
      have HFR := hide hfr
      clear hok hfr
      go_wp2_with fail
      refine (ifb_yes _ _ _ _ _ HOK.out).mono ?_
      rintro e w3 ⟨h4, n4, c4, rfl, g, k⟩
      clear q
      have o := o.belowAll k
      have K := hide (K.out.trans (k.mono K.out.size))
      clear k f
      have g := HFR.out ▸ g
      go_wp2_with fail
      refine (sameInts_any _ _ _ _ _ _ zs zs _ g.sl o.sl).mono ?_
      rintro e w' ⟨rfl, qq, rfl⟩
      simp only [decide_true]
      go_wp2
      go_ret
      exact ⟨rfl, below_drewN K.out qq⟩
    · have h0' : (N == 0) = false := by simpa using h0
      have h0'' : (N != 0) = true := by simpa using h0
      clear h0
      go_wp2
      go_ret
      exact ⟨rfl, K.out⟩
end Go.Proofs.Ytijjeioncopngaa
