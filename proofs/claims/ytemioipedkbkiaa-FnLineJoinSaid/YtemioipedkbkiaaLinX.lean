/-
  The walk of the exact law on the samples of bytes: it returns true for every input and turns nothing that was there.
-/
import Derived.Test.YtemioipedkbkiaaLinL
import Derived.Test.YtemioipedkbkiaaMarkI
namespace Go.Proofs.Ytemioipedkbkiaa
open Go.RowKit
set_option linter.unusedVariables false

theorem lok_len {a b c idle : Int} {xs : List Int} (h : lok a b c idle xs = true) : fv a b c = true ∧ (lin a b c idle.toNat xs).length ≤ 500 := by
  simp only [lok, pre1, Bool.and_eq_true, decide_eq_true_eq] at h
  exact ⟨h.1.1, by rw [lin_len _ h.1.1]; exact h.2.2⟩
set_option maxRecDepth 100000 in
set_option maxHeartbeats 4000000 in
theorem fnExactLineOf_walk (a b c : Int) (wa : (Lit.int .i64 a).wf = true) (wb : (Lit.int .i64 b).wf = true) (wc : (Lit.int .i64 c).wf = true) (p : Option Addr) (len cap : Nat) (zs : List Int) (idle : Int) (wi : (Lit.int .i64 idle).wf = true) (w : World) (h : IsRow .i64 w p len cap zs) :
    Calls Try.prog 3 #[.agg #[.int .i64 a, .int .i64 b, .int .i64 c], .slice p len cap, .int .i64 idle] w fun e w' => e = .returned (.bool true) ∧ Below w.heap.size w w' := by
  have hs := h.sl
  generalize zs.take len = xs at hs
  have hl : (len : Int) ≤ 9223372036854775807 := by have := hs.2.1; have := hs.2.2.1; omega
  clear h wa wb wc wi
  have K := hide ((Below.refl w.heap.size w).alloc (Nat.le_refl _) (.cells #[.int .i64 a, .int .i64 b, .int .i64 c] 23))
  have f := Bk.new w 23 #[.int .i64 a, .int .i64 b, .int .i64 c]
  have HL := hide hs.1
  by_cases hbig : (1048576 : Int) < (len : Int)
  · clear f hs
    go_enter Try.func3, Try.ntmps3
    go_wp2
    go_ret
    exact ⟨rfl, K.out⟩
  · have hsm : len ≤ 1048576 := by omega
    have HSM := hide hsm
    have HS0 := hide hs
    have q := f.cell
    clear hsm hs
    cases hlok : lok a b c idle xs
    · have HLOK := hide hlok
      clear hlok
      go_enter Try.func3, Try.ntmps3
      go_wp2_with fail
      refine (toFormat_any _ _ _ _).mono ?_
      rintro e w' ⟨rfl, k⟩
      clear q
      have f := f.belowAll k
      have K := hide (K.out.trans (k.mono (by have := K.out.size; first | exact this | simpa using this)))
      clear k
      have q := f.cell
      go_wp2_with fail
      refine (toIntS_any _ _ _ xs _ (HS0.out.below K.out (Nat.le_refl _)) HSM.out).mono ?_
      rintro e w' ⟨rfl, d, -, k⟩
      clear q
      have t := sl_new d HL.out HSM.out
      clear d
      have f := f.belowAll k
      have K := hide (K.out.trans (k.mono (by have := K.out.size; first | exact this | simpa using this)))
      clear k
      have q := f.cell
      go_wp2_with fail
      refine (slf_any _ _ _ _ _ _ _ xs _ t).mono ?_
      rintro e w' ⟨h5, n5, c5, z5, rfl, o5, e5, k⟩
      clear q
      clear t
      rw [HLOK.out]
      rw [HLOK.out, if_neg (by simp)] at e5
      subst e5
      obtain rfl : n5 = 0 := o5.len.symm
      have f := f.belowAll k
      have K := hide (K.out.trans (k.mono (by have := K.out.size; first | exact this | simpa using this)))
      clear k
      have q := f.cell
      go_wp2_with fail
      refine (toIntS_any _ _ _ xs _ (HS0.out.below K.out (Nat.le_refl _)) HSM.out).mono ?_
      rintro e w' ⟨rfl, d, -, k⟩
      clear q
      have HX5 := hide o5.lt.2
      have x1 := Own.big (Nat.le_refl _) d HL.out (by have := HSM.out; omega)
      have HFX := hide f.lt
      clear d
      have f := f.belowAll k
      have o5 := o5.belowAll k
      have K := hide (K.out.trans (k.mono (by have := K.out.size; first | exact this | simpa using this)))
      clear k
      have q := f.cell
      go_wp2_with fail
      refine (toFormat_any _ _ _ _).mono ?_
      rintro e w' ⟨rfl, k⟩
      clear q
      have f := f.belowAll k
      have o5 := o5.belowAll k
      have x1 := x1.belowAll k
      have K := hide (K.out.trans (k.mono (by have := K.out.size; first | exact this | simpa using this)))
      clear k
      have q := f.cell
      go_wp2_with fail
      refine (iline_no _ _ _ _ _ _ _ xs _ x1.sl HLOK.out).mono ?_
      rintro e w' ⟨rfl, k⟩
      clear q
      have f := f.belowAll k
      have o5 := o5.belowAll k
      have x1 := x1.belowAll k
      have K := hide (K.out.trans (k.mono (by have := K.out.size; first | exact this | simpa using this)))
      clear k
      have q := f.cell
      go_wp2_with fail
      refine (eqIntS_any _ _ _ _ _ _ [] [] _ (Sl.nil_ _ _ _ (by omega)) o5.sl).mono ?_
      rintro e w' ⟨rfl, qq, hw⟩
      simp only [decide_true]
      clear q
      have K := hide (show Below w.heap.size w w' from hw ▸ below_drewN K.out qq)
      have f : Bk w' _ _ _ := hw ▸ f.drewN qq
      have o5 : Own w' _ _ _ _ _ := hw ▸ Own.drewN o5 qq
      have x1 : Own w' _ _ _ _ _ := hw ▸ Own.drewN x1 qq
      clear hw
      have q := f.cell
      go_wp2_with fail
      refine (toIntS_any _ _ _ xs _ (HS0.out.below K.out (Nat.le_refl _)) HSM.out).mono ?_
      rintro e w' ⟨rfl, d, -, k⟩
      clear q
      have t := sl_new d HL.out HSM.out
      clear d
      have f := f.belowAll k
      have o5 := o5.belowAll k
      have x1 := x1.belowAll k
      have K := hide (K.out.trans (k.mono (by have := K.out.size; first | exact this | simpa using this)))
      clear k
      have q := f.cell
      go_wp2_with fail
      refine (eqIntS_any _ _ _ _ _ _ xs xs _ x1.sl t).mono ?_
      rintro e w' ⟨rfl, qq, hw⟩
      simp only [decide_true]
      clear q
      have K := hide (show Below w.heap.size w w' from hw ▸ below_drewN K.out qq)
      have f : Bk w' _ _ _ := hw ▸ f.drewN qq
      have o5 : Own w' _ _ _ _ _ := hw ▸ Own.drewN o5 qq
      have x1 : Own w' _ _ _ _ _ := hw ▸ Own.drewN x1 qq
      clear hw
      clear t
      have q := f.cell
      go_wp2_with fail
      refine (markI_any _ _ _ _ xs 1 _ x1 (by omega) (by omega) (by have := HSM.out; omega)).mono ?_
      rintro e w' ⟨rfl, zs1, x2, hmk, j⟩
      clear q x1 x2 hmk
      have f := f.just j (by have := HFX.out; omega)
      have o5 := o5.just j (by have := HX5.out; omega)
      have K := hide (j.below K.out (by have := HFX.out; omega))
      clear j
      have q := f.cell
      go_wp2_with fail
      refine (eqIntS_any _ _ _ _ _ _ [] [] _ (Sl.nil_ _ _ _ (by omega)) o5.sl).mono ?_
      rintro e w' ⟨rfl, qq, hw⟩
      simp only [decide_true]
      clear q
      have K := hide (show Below w.heap.size w w' from hw ▸ below_drewN K.out qq)
      have f : Bk w' _ _ _ := hw ▸ f.drewN qq
      have o5 : Own w' _ _ _ _ _ := hw ▸ Own.drewN o5 qq
      clear hw
      have q := f.cell
      go_wp2_with fail
      refine (mark_none _ _ _ _).mono ?_
      rintro e w' ⟨rfl, rfl⟩
      go_wp2_with fail
      refine (held_any _ 0 _ [] 1 _ (Sl.nil_ _ _ _ (by omega)) (fun j hj => absurd hj (by simp)) (by omega) (by omega) (by omega)).mono ?_
      rintro e w' ⟨rfl, rfl⟩
      go_wp2_with fail
      refine (toFormat_any _ _ _ _).mono ?_
      rintro e w' ⟨rfl, k⟩
      clear q
      have f := f.belowAll k
      have o5 := o5.belowAll k
      have K := hide (K.out.trans (k.mono (by have := K.out.size; first | exact this | simpa using this)))
      clear k
      have q := f.cell
      go_wp2_with fail
      refine (toIntS_any _ _ _ xs _ (HS0.out.below K.out (Nat.le_refl _)) HSM.out).mono ?_
      rintro e w' ⟨rfl, d, -, k⟩
      clear q
      have t := sl_new d HL.out HSM.out
      clear d
      have f := f.belowAll k
      have o5 := o5.belowAll k
      have K := hide (K.out.trans (k.mono (by have := K.out.size; first | exact this | simpa using this)))
      clear k
      have q := f.cell
      go_wp2_with fail
      refine (iline_no _ _ _ _ _ _ _ xs _ t HLOK.out).mono ?_
      rintro e w' ⟨rfl, k⟩
      clear q
      clear t
      have f := f.belowAll k
      have o5 := o5.belowAll k
      have K := hide (K.out.trans (k.mono (by have := K.out.size; first | exact this | simpa using this)))
      clear k
      have q := f.cell
      go_wp2_with fail
      refine (eqIntS_any _ _ _ _ _ _ [] [] _ (Sl.nil_ _ _ _ (by omega)) o5.sl).mono ?_
      rintro e w' ⟨rfl, qq, hw⟩
      simp only [decide_true]
      clear q
      have K := hide (show Below w.heap.size w w' from hw ▸ below_drewN K.out qq)
      have f : Bk w' _ _ _ := hw ▸ f.drewN qq
      have o5 : Own w' _ _ _ _ _ := hw ▸ Own.drewN o5 qq
      clear hw
      have q := f.cell
      go_wp2_with fail
      refine (held_any _ 0 _ [] 1 _ (Sl.nil_ _ _ _ (by omega)) (fun j hj => absurd hj (by simp)) (by omega) (by omega) (by omega)).mono ?_
      rintro e w' ⟨rfl, rfl⟩
      go_wp2
      go_ret
      exact ⟨rfl, K.out⟩
    · have HLOK := hide hlok
      clear hlok
      have HLN := hide (lok_len HLOK.out).2
      go_enter Try.func3, Try.ntmps3
      go_wp2_with fail
      refine (toFormat_any _ _ _ _).mono ?_
      rintro e w' ⟨rfl, k⟩
      clear q
      have f := f.belowAll k
      have K := hide (K.out.trans (k.mono (by have := K.out.size; first | exact this | simpa using this)))
      clear k
      have q := f.cell
      go_wp2_with fail
      refine (toIntS_any _ _ _ xs _ (HS0.out.below K.out (Nat.le_refl _)) HSM.out).mono ?_
      rintro e w' ⟨rfl, d, -, k⟩
      clear q
      have t := sl_new d HL.out HSM.out
      clear d
      have f := f.belowAll k
      have K := hide (K.out.trans (k.mono (by have := K.out.size; first | exact this | simpa using this)))
      clear k
      have q := f.cell
      go_wp2_with fail
      refine (slf_any _ _ _ _ _ _ _ xs _ t).mono ?_
      rintro e w' ⟨h5, n5, c5, z5, rfl, o5, e5, k⟩
      clear q
      clear t
      rw [HLOK.out]
      rw [HLOK.out, if_pos rfl] at e5
      subst e5
      have f := f.belowAll k
      have K := hide (K.out.trans (k.mono (by have := K.out.size; first | exact this | simpa using this)))
      clear k
      have q := f.cell
      go_wp2_with fail
      refine (toIntS_any _ _ _ xs _ (HS0.out.below K.out (Nat.le_refl _)) HSM.out).mono ?_
      rintro e w' ⟨rfl, d, -, k⟩
      clear q
      have HX5 := hide o5.lt.2
      have x1 := Own.big (Nat.le_refl _) d HL.out (by have := HSM.out; omega)
      have HFX := hide f.lt
      clear d
      have f := f.belowAll k
      have o5 := o5.belowAll k
      have K := hide (K.out.trans (k.mono (by have := K.out.size; first | exact this | simpa using this)))
      clear k
      have q := f.cell
      go_wp2_with fail
      refine (toFormat_any _ _ _ _).mono ?_
      rintro e w' ⟨rfl, k⟩
      clear q
      have f := f.belowAll k
      have o5 := o5.belowAll k
      have x1 := x1.belowAll k
      have K := hide (K.out.trans (k.mono (by have := K.out.size; first | exact this | simpa using this)))
      clear k
      have q := f.cell
      go_wp2_with fail
      refine (iline_yes _ _ _ _ _ _ _ xs _ x1.sl HLOK.out).mono ?_
      rintro e w' ⟨h7, n7, c7, rfl, o7, k⟩
      clear q
      have HX1 := hide (show _ < h7 from Nat.lt_of_lt_of_le x1.lt.2 o7.lt.1)
      have HF7 := hide (show _ < h7 from Nat.lt_of_lt_of_le f.lt o7.lt.1)
      have H57 := hide (show h5 < h7 from Nat.lt_of_lt_of_le o5.lt.2 o7.lt.1)
      have hn7 : n7 ≤ 500 := by have := HLN.out; have := o7.len; omega
      have f := f.belowAll k
      have o5 := o5.belowAll k
      have x1 := x1.belowAll k
      have K := hide (K.out.trans (k.mono (by have := K.out.size; first | exact this | simpa using this)))
      clear k
      have q := f.cell
      go_wp2_with fail
      refine (eqIntS_any _ _ _ _ _ _ (lin a b c idle.toNat xs) (lin a b c idle.toNat xs) _ o7.sl o5.sl).mono ?_
      rintro e w' ⟨rfl, qq, hw⟩
      simp only [decide_true]
      clear q
      have K := hide (show Below w.heap.size w w' from hw ▸ below_drewN K.out qq)
      have f : Bk w' _ _ _ := hw ▸ f.drewN qq
      have o5 : Own w' _ _ _ _ _ := hw ▸ Own.drewN o5 qq
      have x1 : Own w' _ _ _ _ _ := hw ▸ Own.drewN x1 qq
      have o7 : Own w' _ _ _ _ _ := hw ▸ Own.drewN o7 qq
      clear hw
      have q := f.cell
      go_wp2_with fail
      refine (toIntS_any _ _ _ xs _ (HS0.out.below K.out (Nat.le_refl _)) HSM.out).mono ?_
      rintro e w' ⟨rfl, d, -, k⟩
      clear q
      have t := sl_new d HL.out HSM.out
      clear d
      have f := f.belowAll k
      have o5 := o5.belowAll k
      have x1 := x1.belowAll k
      have o7 := o7.belowAll k
      have K := hide (K.out.trans (k.mono (by have := K.out.size; first | exact this | simpa using this)))
      clear k
      have q := f.cell
      go_wp2_with fail
      refine (eqIntS_any _ _ _ _ _ _ xs xs _ x1.sl t).mono ?_
      rintro e w' ⟨rfl, qq, hw⟩
      simp only [decide_true]
      clear q
      have K := hide (show Below w.heap.size w w' from hw ▸ below_drewN K.out qq)
      have f : Bk w' _ _ _ := hw ▸ f.drewN qq
      have o5 : Own w' _ _ _ _ _ := hw ▸ Own.drewN o5 qq
      have x1 : Own w' _ _ _ _ _ := hw ▸ Own.drewN x1 qq
      have o7 : Own w' _ _ _ _ _ := hw ▸ Own.drewN o7 qq
      clear hw
      clear t
      have q := f.cell
      go_wp2_with fail
      refine (markI_any _ _ _ _ xs 1 _ x1 (by omega) (by omega) (by have := HSM.out; omega)).mono ?_
      rintro e w' ⟨rfl, zs1, x2, hmk, j⟩
      clear q x1 x2 hmk
      have f := f.just j (by have := HFX.out; omega)
      have o5 := o5.just j (by have := HX5.out; omega)
      have o7 := o7.just j (by have := HX1.out; omega)
      have K := hide (j.below K.out (by have := HFX.out; omega))
      clear j
      have q := f.cell
      go_wp2_with fail
      refine (eqIntS_any _ _ _ _ _ _ (lin a b c idle.toNat xs) (lin a b c idle.toNat xs) _ o7.sl o5.sl).mono ?_
      rintro e w' ⟨rfl, qq, hw⟩
      simp only [decide_true]
      clear q
      have K := hide (show Below w.heap.size w w' from hw ▸ below_drewN K.out qq)
      have f : Bk w' _ _ _ := hw ▸ f.drewN qq
      have o5 : Own w' _ _ _ _ _ := hw ▸ Own.drewN o5 qq
      have o7 : Own w' _ _ _ _ _ := hw ▸ Own.drewN o7 qq
      clear hw
      have q := f.cell
      go_wp2_with fail
      refine (mark_any _ _ _ _ (lin a b c idle.toNat xs) 1 _ o7 (by omega) (by omega) (by omega)).mono ?_
      rintro e w' ⟨rfl, zs7, o7, hmk, j⟩
      clear q
      have f := f.just j (by have := HF7.out; omega)
      have o5 := o5.just j (by have := H57.out; omega)
      have K := hide (j.below K.out (by have := HF7.out; omega))
      have HM := hide hmk
      clear j hmk
      have q := f.cell
      go_wp2_with fail
      refine (held_any _ _ _ zs7 1 _ o7.sl HM.out (by omega) (by omega) (by omega)).mono ?_
      rintro e w' ⟨rfl, rfl⟩
      go_wp2_with fail
      refine (toFormat_any _ _ _ _).mono ?_
      rintro e w' ⟨rfl, k⟩
      clear q
      have f := f.belowAll k
      have o5 := o5.belowAll k
      have o7 := o7.belowAll k
      have K := hide (K.out.trans (k.mono (by have := K.out.size; first | exact this | simpa using this)))
      clear k
      have q := f.cell
      go_wp2_with fail
      refine (toIntS_any _ _ _ xs _ (HS0.out.below K.out (Nat.le_refl _)) HSM.out).mono ?_
      rintro e w' ⟨rfl, d, -, k⟩
      clear q
      have t := sl_new d HL.out HSM.out
      clear d
      have f := f.belowAll k
      have o5 := o5.belowAll k
      have o7 := o7.belowAll k
      have K := hide (K.out.trans (k.mono (by have := K.out.size; first | exact this | simpa using this)))
      clear k
      have q := f.cell
      go_wp2_with fail
      refine (iline_yes _ _ _ _ _ _ _ xs _ t HLOK.out).mono ?_
      rintro e w' ⟨h11, n11, c11, rfl, o11, k⟩
      clear q
      clear t
      have f := f.belowAll k
      have o5 := o5.belowAll k
      have o7 := o7.belowAll k
      have K := hide (K.out.trans (k.mono (by have := K.out.size; first | exact this | simpa using this)))
      clear k
      have q := f.cell
      go_wp2_with fail
      refine (eqIntS_any _ _ _ _ _ _ (lin a b c idle.toNat xs) (lin a b c idle.toNat xs) _ o11.sl o5.sl).mono ?_
      rintro e w' ⟨rfl, qq, hw⟩
      simp only [decide_true]
      clear q
      have K := hide (show Below w.heap.size w w' from hw ▸ below_drewN K.out qq)
      have f : Bk w' _ _ _ := hw ▸ f.drewN qq
      have o5 : Own w' _ _ _ _ _ := hw ▸ Own.drewN o5 qq
      have o7 : Own w' _ _ _ _ _ := hw ▸ Own.drewN o7 qq
      have o11 : Own w' _ _ _ _ _ := hw ▸ Own.drewN o11 qq
      clear hw
      have q := f.cell
      go_wp2_with fail
      refine (held_any _ _ _ zs7 1 _ o7.sl HM.out (by omega) (by omega) (by omega)).mono ?_
      rintro e w' ⟨rfl, rfl⟩
      go_wp2
      go_ret
      exact ⟨rfl, K.out⟩
end Go.Proofs.Ytemioipedkbkiaa
