/-
  The walks of the laws on the samples of bytes: each law returns true for every input and turns nothing that was there.
-/
import Derived.Test.YtemioipedkbkiaaLinU
import Derived.Test.YtemioipedkbkiaaLinL
import Derived.Test.YtemioipedkbkiaaLinX
import Derived.Test.YtemioipedkbkiaaLinR
import Derived.BigQuiet
import Derived.Deep.RegionLaw
import Derived.Deep.DeepCutAuto
namespace Go.Proofs.Ytemioipedkbkiaa
open Go.RowKit
set_option linter.unusedVariables false

theorem cell_heap {w w' : World} (h : w.heap = w'.heap) (p : Addr) : w.cell? p = w'.cell? p := by unfold World.cell?; rw [h]
theorem lok_all {a b c idle : Int} {xs : List Int} (h : lok a b c idle xs = true) : ∀ x ∈ xs, fok a b c x = true := by
  simp only [lok, pre1, Bool.and_eq_true, decide_eq_true_eq] at h
  exact fun x hx => fok_mk h.1.1 (bok_at h.2.1 x hx).1 (bok_at h.2.1 x hx).2
theorem lrd_lin {a b c : Int} {I n : Nat} {xs : List Int} (h : lok a b c I xs = true) (hn : n ≤ 500) : lrd a b c n (lin a b c I xs) = xs.map fun x => (x, 0) := by
  have hp := fl_pos (lok_len h).1
  unfold lrd
  rw [if_pos ⟨(lok_len h).1, by simp [smp, hn, lin_bits]⟩]
  have := rd_lin (a := a) (b := b) (c := c) (idle := I) xs [] (lok_all h)
  simpa using this
theorem lrd_lin1 {a b c : Int} {I n : Nat} {xs : List Int} (h : lok a b c I xs = true) (hn : n ≤ 500) : lrd a b c n (1 :: lin a b c I xs) = xs.map fun x => (x, 0) := by
  have hp := fl_pos (lok_len h).1
  have hb : allBt (1 :: lin a b c I xs) = true := by have := lin_bits (a := a) (b := b) (c := c) (idle := I) (xs := xs); simp only [allBt, List.all_cons] at this ⊢; simp [this, isBt]
  unfold lrd
  rw [if_pos ⟨(lok_len h).1, by simp [smp, hn, hb]⟩, rd_one (by omega)]
  have := rd_lin (a := a) (b := b) (c := c) (idle := I) xs [] (lok_all h)
  simpa using this
/-- The bytes of samples, of a known length. -/
theorem iLr_at (a b c : Int) (x : Option Addr) (len cap M : Nat) (zs : List Int) (R : List (Int × Int)) (w : World) (h : Sl w x len cap zs) (hR : lrd a b c len zs = R) (hM : R.length = M) :
    Calls Try.prog 20 #[.agg #[.int .i64 a, .int .i64 b, .int .i64 c], .slice x len cap] w fun e w' => ∃ ad cp, e = .returned (.slice ad M cp) ∧ Owg w' w.heap.size ad M cp R ∧ Below w.heap.size w w' := by
  refine (iLr_any a b c x len cap zs w h).mono ?_
  rintro e w' ⟨ad, m, cp, rfl, o, -, k⟩
  rw [hR] at o
  obtain rfl : m = M := by rw [← o.len, hM]
  exact ⟨ad, cp, rfl, o, k⟩

set_option maxRecDepth 100000 in
set_option maxHeartbeats 4000000 in
theorem fnLineLength_walk (a : Option Addr) (len cap : Nat) (zs0 : List Int) (w : World) (h : IsRow .u8 w a len cap zs0) :
    Calls Try.prog 4 #[.slice a len cap] w fun e w' => e = .returned (.bool true) ∧ Below w.heap.size w w' := by
  by_cases hbig : (1048576 : Int) < (len : Int)
  · skip
    go_enter Try.func4, Try.ntmps4
    go_wp2
    go_ret
    exact ⟨rfl, Below.refl _ _⟩
  · have hsm : ¬ (1048576 : Int) < (len : Int) := hbig
    go_enter Try.func4, Try.ntmps4
    go_wp2_with fail
    refine (dDrawLineOf_any a len cap zs0 _ h).mono ?_
    rintro e w1 ⟨x, y, z, hb, n, cp, ys, idle, rfl, o, hn, hi0, hi1, k1⟩
    obtain ⟨I, rfl⟩ := Int.eq_ofNat_of_zero_le hi0
    have f := Bk.new w1 27 #[.int .i64 x, .int .i64 y, .int .i64 z]
    have K := hide (k1.alloc k1.size (.cells #[.int .i64 x, .int .i64 y, .int .i64 z] 27))
    have o := o.alloc (.cells #[.int .i64 x, .int .i64 y, .int .i64 z] 27)
    have HL := hide o.len
    have hn' : (n : Int) ≤ 9 := by omega
    obtain ⟨F, hF⟩ : ∃ F, w1.heap.size = F := ⟨_, rfl⟩
    rw [hF] at f
    have q := f.cell
    clear k1 hi0
    go_wp2_with fail
    clear hF
    cases hlok : lok x y z I ys
    · have HLOK := hide hlok
      clear hlok
      refine (iline_no _ _ _ _ _ _ _ ys _ o.sl HLOK.out).mono ?_
      rintro e w' ⟨rfl, k⟩
      clear q
      have o := o.belowAll k
      have f := f.belowAll k
      have K := hide (K.out.trans (k.mono K.out.size))
      clear k
      have q := f.cell
      go_wp2_with fail
      refine (slf_any _ _ _ _ _ _ _ ys _ o.sl).mono ?_
      rintro e w' ⟨h6, n6, c6, z6, rfl, o6, e6, k⟩
      clear q
      rw [HLOK.out]
      rw [HLOK.out, if_neg (by simp)] at e6
      subst e6
      obtain rfl : n6 = 0 := o6.len.symm
      have f := f.belowAll k
      have o := o.belowAll k
      have K := hide (K.out.trans (k.mono K.out.size))
      clear k
      have q := f.cell
      go_wp2_with fail
      refine (sameInts_any _ _ _ _ _ _ [] [] _ (Sl.nil_ _ _ _ (by omega)) o6.sl).mono ?_
      rintro e w' ⟨rfl, qq, hw⟩
      simp only [decide_true]
      clear q
      have K := hide (show Below w.heap.size w w' from hw ▸ below_drewN K.out qq)
      have f : Bk w' _ _ _ := hw ▸ f.drewN qq
      have o : Own w' _ _ _ _ _ := hw ▸ Own.drewN o qq
      have o6 : Own w' _ _ _ _ _ := hw ▸ Own.drewN o6 qq
      clear hw
      have q := f.cell
      go_wp2_with fail
      refine (sameInts_any _ _ _ _ _ _ [] [] _ (Sl.nil_ _ _ _ (by omega)) o6.sl).mono ?_
      rintro e w' ⟨rfl, qq, hw⟩
      simp only [decide_true]
      clear q
      have K := hide (show Below w.heap.size w w' from hw ▸ below_drewN K.out qq)
      have f : Bk w' _ _ _ := hw ▸ f.drewN qq
      have o : Own w' _ _ _ _ _ := hw ▸ Own.drewN o qq
      have o6 : Own w' _ _ _ _ _ := hw ▸ Own.drewN o6 qq
      clear hw
      have q := f.cell
      go_wp2
      go_ret
      exact ⟨rfl, K.out⟩
    · have HLOK := hide hlok
      have HFV := hide (lok_len hlok).1
      have HLN := hide (lok_len hlok).2
      clear hlok
      refine (iline_yes _ _ _ _ _ _ _ ys _ o.sl HLOK.out).mono ?_
      rintro e w' ⟨h5, n5, c5, rfl, o5, k⟩
      clear q
      have HOH := hide (show _ < h5 from Nat.lt_of_lt_of_le o.lt.2 o5.lt.1)
      have HFH := hide (show _ < h5 from Nat.lt_of_lt_of_le f.lt o5.lt.1)
      have o := o.belowAll k
      have f := f.belowAll k
      have K := hide (K.out.trans (k.mono K.out.size))
      clear k
      have q := f.cell
      go_wp2_with fail
      refine (slf_any _ _ _ _ _ _ _ ys _ o.sl).mono ?_
      rintro e w' ⟨h6, n6, c6, z6, rfl, o6, e6, k⟩
      clear q
      rw [HLOK.out]
      rw [HLOK.out, if_pos rfl] at e6
      subst e6
      obtain rfl : n6 = n5 := by rw [← o6.len, ← o5.len]
      have f := f.belowAll k
      have o := o.belowAll k
      have o5 := o5.belowAll k
      have K := hide (K.out.trans (k.mono K.out.size))
      clear k
      have q := f.cell
      simp only [Int.toNat_natCast] at o5 o6
      have hn5 : n6 ≤ 500 := by have := HLN.out; have := o5.len; simp only [Int.toNat_natCast] at *; omega
      have hn5' : (n6 : Int) ≤ 500 := by omega
      go_wp2_with fail
      refine (sameInts_any _ _ _ _ _ _ (lin x y z I ys) (lin x y z I ys) _ o5.sl o6.sl).mono ?_
      rintro e w' ⟨rfl, qq, hw⟩
      simp only [decide_true]
      clear q
      have K := hide (show Below w.heap.size w w' from hw ▸ below_drewN K.out qq)
      have f : Bk w' _ _ _ := hw ▸ f.drewN qq
      have o : Own w' _ _ _ _ _ := hw ▸ Own.drewN o qq
      have o5 : Own w' _ _ _ _ _ := hw ▸ Own.drewN o5 qq
      have o6 : Own w' _ _ _ _ _ := hw ▸ Own.drewN o6 qq
      clear hw
      have q := f.cell
      obtain ⟨L, hL, hL0, hL1⟩ : ∃ L : Nat, flOf x y z = (L : Int) ∧ 7 ≤ L ∧ L ≤ 12 := ⟨(flOf x y z).toNat, by have := fl_bd HFV.out; omega, by have := fl_bd HFV.out; omega, by have := fl_bd HFV.out; omega⟩
      have HFL := hide hL
      have HN6 := hide (show n6 = n * (I + 4 * L) by have h1 := o5.len; rw [lin_len I HFV.out, HL.out, hL, Int.toNat_natCast] at h1; exact h1.symm)
      clear hL
      have hz3 : (n : Int) * ((I : Int) + 4 * (L : Int)) = (n6 : Int) := by rw [HN6.out]; push_cast; rfl
      have z1 : IntKind.i64.wrap (4 * (L : Int)) = 4 * (L : Int) := IntWalk.i64_in _ (by omega)
      have z2 : IntKind.i64.wrap ((I : Int) + 4 * (L : Int)) = (I : Int) + 4 * (L : Int) := IntWalk.i64_in _ (by omega)
      have z3 : IntKind.i64.wrap ((n : Int) * ((I : Int) + 4 * (L : Int))) = (n6 : Int) := by rw [hz3]; exact IntWalk.i64_in _ (by omega)
      clear hz3
      go_wp2_with fail
      refine (ifl_any _ _ _ _).mono ?_
      rintro e w' ⟨rfl, k⟩
      rw [HFL.out]
      have K := hide (K.out.trans (k.mono K.out.size))
      clear k q
      go_wp2
      go_ret
      exact ⟨by simp, K.out⟩
set_option maxRecDepth 100000 in
set_option maxHeartbeats 4000000 in
theorem fnLine_walk (a : Option Addr) (len cap : Nat) (zs0 : List Int) (w : World) (h : IsRow .u8 w a len cap zs0) :
    Calls Try.prog 7 #[.slice a len cap] w fun e w' => e = .returned (.bool true) ∧ Below w.heap.size w w' := by
  by_cases hbig : (1048576 : Int) < (len : Int)
  · skip
    go_enter Try.func7, Try.ntmps7
    go_wp2
    go_ret
    exact ⟨rfl, Below.refl _ _⟩
  · have hsm : ¬ (1048576 : Int) < (len : Int) := hbig
    go_enter Try.func7, Try.ntmps7
    go_wp2_with fail
    refine (dDrawLineOf_any a len cap zs0 _ h).mono ?_
    rintro e w1 ⟨x, y, z, hb, n, cp, ys, idle, rfl, o, hn, hi0, hi1, k1⟩
    obtain ⟨I, rfl⟩ := Int.eq_ofNat_of_zero_le hi0
    have f := Bk.new w1 27 #[.int .i64 x, .int .i64 y, .int .i64 z]
    have K := hide (k1.alloc k1.size (.cells #[.int .i64 x, .int .i64 y, .int .i64 z] 27))
    have o := o.alloc (.cells #[.int .i64 x, .int .i64 y, .int .i64 z] 27)
    have HL := hide o.len
    have hn' : (n : Int) ≤ 9 := by omega
    obtain ⟨F, hF⟩ : ∃ F, w1.heap.size = F := ⟨_, rfl⟩
    rw [hF] at f
    have q := f.cell
    clear k1 hi0
    go_wp2_with fail
    clear hF
    cases hlok : lok x y z I ys
    · have HLOK := hide hlok
      clear hlok
      refine (iline_no _ _ _ _ _ _ _ ys _ o.sl HLOK.out).mono ?_
      rintro e w' ⟨rfl, k⟩
      clear q
      have o := o.belowAll k
      have f := f.belowAll k
      have K := hide (K.out.trans (k.mono K.out.size))
      clear k
      have q := f.cell
      go_wp2_with fail
      refine (slf_any _ _ _ _ _ _ _ ys _ o.sl).mono ?_
      rintro e w' ⟨h6, n6, c6, z6, rfl, o6, e6, k⟩
      clear q
      rw [HLOK.out]
      rw [HLOK.out, if_neg (by simp)] at e6
      subst e6
      obtain rfl : n6 = 0 := o6.len.symm
      have f := f.belowAll k
      have o := o.belowAll k
      have K := hide (K.out.trans (k.mono K.out.size))
      clear k
      have q := f.cell
      go_wp2_with fail
      refine (sameInts_any _ _ _ _ _ _ [] [] _ (Sl.nil_ _ _ _ (by omega)) o6.sl).mono ?_
      rintro e w' ⟨rfl, qq, hw⟩
      simp only [decide_true]
      clear q
      have K := hide (show Below w.heap.size w w' from hw ▸ below_drewN K.out qq)
      have f : Bk w' _ _ _ := hw ▸ f.drewN qq
      have o : Own w' _ _ _ _ _ := hw ▸ Own.drewN o qq
      have o6 : Own w' _ _ _ _ _ := hw ▸ Own.drewN o6 qq
      clear hw
      have q := f.cell
      go_wp2_with fail
      refine (sameInts_any _ _ _ _ _ _ [] [] _ (Sl.nil_ _ _ _ (by omega)) o6.sl).mono ?_
      rintro e w' ⟨rfl, qq, hw⟩
      simp only [decide_true]
      clear q
      have K := hide (show Below w.heap.size w w' from hw ▸ below_drewN K.out qq)
      have f : Bk w' _ _ _ := hw ▸ f.drewN qq
      have o : Own w' _ _ _ _ _ := hw ▸ Own.drewN o qq
      have o6 : Own w' _ _ _ _ _ := hw ▸ Own.drewN o6 qq
      clear hw
      have q := f.cell
      go_wp2
      go_ret
      exact ⟨rfl, K.out⟩
    · have HLOK := hide hlok
      have HFV := hide (lok_len hlok).1
      have HLN := hide (lok_len hlok).2
      clear hlok
      refine (iline_yes _ _ _ _ _ _ _ ys _ o.sl HLOK.out).mono ?_
      rintro e w' ⟨h5, n5, c5, rfl, o5, k⟩
      clear q
      have HOH := hide (show _ < h5 from Nat.lt_of_lt_of_le o.lt.2 o5.lt.1)
      have HFH := hide (show _ < h5 from Nat.lt_of_lt_of_le f.lt o5.lt.1)
      have o := o.belowAll k
      have f := f.belowAll k
      have K := hide (K.out.trans (k.mono K.out.size))
      clear k
      have q := f.cell
      go_wp2_with fail
      refine (slf_any _ _ _ _ _ _ _ ys _ o.sl).mono ?_
      rintro e w' ⟨h6, n6, c6, z6, rfl, o6, e6, k⟩
      clear q
      rw [HLOK.out]
      rw [HLOK.out, if_pos rfl] at e6
      subst e6
      obtain rfl : n6 = n5 := by rw [← o6.len, ← o5.len]
      have f := f.belowAll k
      have o := o.belowAll k
      have o5 := o5.belowAll k
      have K := hide (K.out.trans (k.mono K.out.size))
      clear k
      have q := f.cell
      simp only [Int.toNat_natCast] at o5 o6
      have hn5 : n6 ≤ 500 := by have := HLN.out; have := o5.len; simp only [Int.toNat_natCast] at *; omega
      have hn5' : (n6 : Int) ≤ 500 := by omega
      go_wp2_with fail
      refine (sameInts_any _ _ _ _ _ _ (lin x y z I ys) (lin x y z I ys) _ o5.sl o6.sl).mono ?_
      rintro e w' ⟨rfl, qq, hw⟩
      simp only [decide_true]
      clear q
      have K := hide (show Below w.heap.size w w' from hw ▸ below_drewN K.out qq)
      have f : Bk w' _ _ _ := hw ▸ f.drewN qq
      have o : Own w' _ _ _ _ _ := hw ▸ Own.drewN o qq
      have o5 : Own w' _ _ _ _ _ := hw ▸ Own.drewN o5 qq
      have o6 : Own w' _ _ _ _ _ := hw ▸ Own.drewN o6 qq
      clear hw
      have q := f.cell
      have HLR := hide (lrd_lin HLOK.out hn5)
      have HYS := hide (show (ys.map fun x => ((x, 0) : Int × Int)).length = n by rw [List.length_map, HL.out])
      go_wp2_with fail
      refine (iLr_at _ _ _ _ _ _ n _ _ _ o5.sl HLR.out HYS.out).mono ?_
      rintro e w' ⟨a9, c9, rfl, o9, k⟩
      clear q
      have o := o.belowAll k
      have K := hide (K.out.trans (k.mono K.out.size))
      clear k f o5 o6
      go_wp2
      go_loopw [11] (fun i wr => ∃ k : Nat, i = .int .i64 k ∧ k ≤ n ∧ wr.heap = w'.heap ∧ Below w.heap.size w wr) (fun i _ => n - (intOf i).toNat)
      case atStart => exact ⟨0, rfl, by omega, rfl, K.out⟩
      case round =>
        obtain ⟨k, rfl, hk, hW, KR⟩ := hrel
        have HW := hide hW
        have HKR := hide KR
        clear hW KR
        by_cases hlt : k < n
        · have hlt' : (k : Int) < (n : Int) := by omega
          obtain ⟨p9, q9, rfl, d1, d2⟩ := o9.sg.at_ hlt
          have hc := o.cellAt hlt
          obtain ⟨u, hu⟩ : ∃ u, ys.getD k 0 = u := ⟨_, rfl⟩
          have hg : (ys.map fun x => ((x, 0) : Int × Int)).getD k (0, 0) = (u, 0) := by
            have hk' : k < ys.length := by have := HL.out; omega
            rw [← hu, List.getD_eq_getElem?_getD, List.getElem?_map, List.getD_eq_getElem?_getD, List.getElem?_eq_getElem hk']
            rfl
          rw [hg] at d1 d2
          rw [hu] at hc
          have d1 := (cell_heap HW.out _).trans d1
          have d2 := (cell_heap HW.out _).trans d2
          have hc := (cell_heap HW.out _).trans hc
          clear hu hg
          go_wp2
          go_quiet (fail)
          clear d1 d2 hc
          go_wp2
          go_roundw
          case rel => exact ⟨k + 1, by go_num, by omega, HW.out, by first | exact HKR.out | exact HKR.out.drew | exact below_drewN HKR.out _⟩
          case measure => simp [intOf]; omega
        · have hge : ¬ (k : Int) < (n : Int) := by omega
          go_wp2
          go_ret
          exact ⟨rfl, HKR.out⟩
end Go.Proofs.Ytemioipedkbkiaa
