/-
  The walks of the laws on all bytes of samples: each law returns true for every input and turns nothing that was there.
-/
import Derived.Test.YtnbomcglkgbblaaLinR
import Derived.Test.YtnbomcglkgbblaaLinW
import Derived.Test.YtnbomcglkgbblaaGotM
import Derived.Deep.RegionLaw
import Derived.Deep.DeepCutAuto
namespace Go.Proofs.Ytnbomcglkgbblaa
open Go.RowKit
set_option linter.unusedVariables false

theorem grown_of_just {g : Nat} {w w' : World} (j : Just g w w') : w.grownBy w' (some g) := ⟨j.os, j.tape, j.output, by rw [j.size]; exact Nat.le_refl _, fun i _ hi => j.block i (fun e => hi (by rw [e]))⟩
theorem Owg.keepNe {w w' : World} {base n cap X : Nat} {a : Option Addr} {zs : List (Int × Int)} (o : Owg w base a n cap zs) (k : w.grownBy w' (some X)) (h : ∀ r, (Value.slice a n cap).ownBlock = some r → r ≠ X) : Owg w' base a n cap zs := by
  refine World.ownsRow.kept (row := some X) o k ?_
  cases hh : (Value.slice a n cap).ownBlock with
  | none => exact .inl rfl
  | some r => exact .inr fun e => h r hh (by injection e)
set_option maxRecDepth 100000 in
set_option maxHeartbeats 4000000 in
theorem fnExactLineRead_walk (a b c : Int) (wa : (Lit.int .i64 a).wf = true) (wb : (Lit.int .i64 b).wf = true) (wc : (Lit.int .i64 c).wf = true) (p : Option Addr) (len cap : Nat) (zs : List Int) (w : World) (h : IsRow .i64 w p len cap zs) :
    Calls Try.prog 8 #[.agg #[.int .i64 a, .int .i64 b, .int .i64 c], .slice p len cap] w fun e w' => e = .returned (.bool true) ∧ Below w.heap.size w w' := by
  have hs := h.sl
  generalize zs.take len = xs at hs
  have hl : (len : Int) ≤ 9223372036854775807 := by have := hs.2.1; have := hs.2.2.1; omega
  clear h wa wb wc
  have K := hide ((Below.refl w.heap.size w).alloc (Nat.le_refl _) (.cells #[.int .i64 a, .int .i64 b, .int .i64 c] 32))
  have f := Bk.new w 32 #[.int .i64 a, .int .i64 b, .int .i64 c]
  have HL := hide hs.1
  by_cases hbig : (1048576 : Int) < (len : Int)
  · clear f hs
    go_enter Try.func8, Try.ntmps8
    go_wp2
    go_ret
    exact ⟨rfl, K.out⟩
  · have hsm : len ≤ 1048576 := by omega
    have HSM := hide hsm
    have HS0 := hide hs
    have q := f.cell
    clear hsm hs
    go_enter Try.func8, Try.ntmps8
    go_wp2_with fail
    refine (toFormat_any _ _ _ _).mono ?_
    rintro e w' ⟨rfl, k⟩
    clear q
    have f := f.belowAll k
    have K := hide (K.out.trans (k.mono (by have := K.out.size; first | exact this | simpa using this)))
    clear k
    have q := f.cell
    go_wp2_with fail
    refine (toIntS_any _ _ _ xs _ (HS0.out.below K.out (Nat.le_refl _)) HSM.out).mono ?_
    rintro e w' ⟨rfl, d, -, k⟩
    clear q
    have t := sl_new d HL.out HSM.out
    clear d
    have f := f.belowAll k
    have K := hide (K.out.trans (k.mono (by have := K.out.size; first | exact this | simpa using this)))
    clear k
    have q := f.cell
    go_wp2_with fail
    refine (sLr_any _ _ _ _ _ _ xs _ t).mono ?_
    rintro e w' ⟨a5, m5, c5, rfl, o5, hm5, k⟩
    clear q
    clear t
    have f := f.belowAll k
    have K := hide (K.out.trans (k.mono (by have := K.out.size; first | exact this | simpa using this)))
    clear k
    have q := f.cell
    go_wp2_with fail
    refine (toIntS_any _ _ _ xs _ (HS0.out.below K.out (Nat.le_refl _)) HSM.out).mono ?_
    rintro e w' ⟨rfl, d, -, k⟩
    clear q
    have HX5 := hide (fun r hr => (o5.row r hr).2)
    have x1 := Own.big (Nat.le_refl _) d HL.out (by have := HSM.out; omega)
    have HFX := hide (f.lt)
    clear d
    have f := f.belowAll k
    have o5 := o5.belowAll k
    have K := hide (K.out.trans (k.mono (by have := K.out.size; first | exact this | simpa using this)))
    clear k
    have q := f.cell
    go_wp2_with fail
    refine (toFormat_any _ _ _ _).mono ?_
    rintro e w' ⟨rfl, k⟩
    clear q
    have f := f.belowAll k
    have o5 := o5.belowAll k
    have x1 := x1.belowAll k
    have K := hide (K.out.trans (k.mono (by have := K.out.size; first | exact this | simpa using this)))
    clear k
    have q := f.cell
    go_wp2_with fail
    refine (iLr_any _ _ _ _ _ _ xs _ x1.sl).mono ?_
    rintro e w' ⟨a7, m7, c7, rfl, o7, hm7, k⟩
    clear q
    have HX7 := hide (fun r hr => (o7.row r hr).1)
    have HX1 := hide x1.lt.2
    have HF7 := hide f.lt
    have H57 := hide (fun r hr => (o5.row r hr).2)
    have f := f.belowAll k
    have o5 := o5.belowAll k
    have x1 := x1.belowAll k
    have K := hide (K.out.trans (k.mono (by have := K.out.size; first | exact this | simpa using this)))
    clear k
    have q := f.cell
    have hmm : m7 = m5 := by rw [← o7.len, ← o5.len]
    subst hmm
    go_wp2_with fail
    refine (eqGotS_same _ _ _ _ _ _ _ o7.sg o5.sg).mono ?_
    rintro e w' ⟨rfl, k⟩
    clear q
    have f := f.belowAll k
    have o5 := o5.belowAll k
    have x1 := x1.belowAll k
    have o7 := o7.belowAll k
    have K := hide (K.out.trans (k.mono (by have := K.out.size; first | exact this | simpa using this)))
    clear k
    have q := f.cell
    go_wp2_with fail
    refine (toIntS_any _ _ _ xs _ (HS0.out.below K.out (Nat.le_refl _)) HSM.out).mono ?_
    rintro e w' ⟨rfl, d, -, k⟩
    clear q
    have t := sl_new d HL.out HSM.out
    clear d
    have f := f.belowAll k
    have o5 := o5.belowAll k
    have x1 := x1.belowAll k
    have o7 := o7.belowAll k
    have K := hide (K.out.trans (k.mono (by have := K.out.size; first | exact this | simpa using this)))
    clear k
    have q := f.cell
    go_wp2_with fail
    refine (eqIntS_any _ _ _ _ _ _ xs xs _ x1.sl t).mono ?_
    rintro e w' ⟨rfl, qq, hw⟩
    simp only [decide_true]
    clear q t
    have K := hide (show Below w.heap.size w w' from hw ▸ below_drewN K.out qq)
    have f : Bk w' _ _ _ := hw ▸ f.drewN qq
    have o5 : Owg w' _ _ _ _ _ := hw ▸ o5.drewN qq
    have o7 : Owg w' _ _ _ _ _ := hw ▸ o7.drewN qq
    have x1 : Own w' _ _ _ _ _ := hw ▸ Own.drewN x1 qq
    clear hw
    have q := f.cell
    go_wp2_with fail
    refine (markI_any _ _ _ _ xs 1 _ x1 (by omega) (by omega) (by have := HSM.out; omega)).mono ?_
    rintro e w' ⟨rfl, zs1, x2, hmk, j⟩
    clear q x1 x2 hmk
    have gj := grown_of_just j
    have f := f.just j (by have := HFX.out; omega)
    have o5 := o5.keepNe gj (fun r hr => by have := HX5.out r hr; omega)
    have o7 := o7.keepNe gj (fun r hr => by have := HX7.out r hr; have := HX1.out; omega)
    have K := hide (j.below K.out (by have := HFX.out; omega))
    clear j gj
    have q := f.cell
    go_wp2_with fail
    refine (eqGotS_same _ _ _ _ _ _ _ o7.sg o5.sg).mono ?_
    rintro e w' ⟨rfl, k⟩
    clear q
    have f := f.belowAll k
    have o5 := o5.belowAll k
    have o7 := o7.belowAll k
    have K := hide (K.out.trans (k.mono (by have := K.out.size; first | exact this | simpa using this)))
    clear k
    have q := f.cell
    go_wp2_with fail
    refine (markG_any _ _ _ _ _ _ o7 (by omega)).mono ?_
    rintro e w' ⟨rfl, zs7, o7, hmk, gk⟩
    clear q
    have f := Bk.grow f gk (fun e => by have := HX7.out _ e; have := HF7.out; omega)
    have o5 := o5.far gk (fun r hr => HX7.out r hr) (fun r hr => by have := H57.out r hr; omega)
    have K := hide (K.out.trans (grown_below2 gk (fun r hr => by have := HX7.out r hr; have := HF7.out; omega) K.out.size))
    have HMK := hide hmk
    clear gk hmk
    have q := f.cell
    go_wp2_with fail
    refine (heldG_any _ _ _ zs7 _ o7.sg HMK.out (by omega)).mono ?_
    rintro e w9 ⟨rfl, hw9⟩
    subst hw9
    go_wp2_with fail
    refine (toFormat_any _ _ _ _).mono ?_
    rintro e w' ⟨rfl, k⟩
    clear q
    have f := f.belowAll k
    have o5 := o5.belowAll k
    have o7 := o7.belowAll k
    have K := hide (K.out.trans (k.mono (by have := K.out.size; first | exact this | simpa using this)))
    clear k
    have q := f.cell
    go_wp2_with fail
    refine (toIntS_any _ _ _ xs _ (HS0.out.below K.out (Nat.le_refl _)) HSM.out).mono ?_
    rintro e w' ⟨rfl, d, -, k⟩
    clear q
    have t := sl_new d HL.out HSM.out
    clear d
    have f := f.belowAll k
    have o5 := o5.belowAll k
    have o7 := o7.belowAll k
    have K := hide (K.out.trans (k.mono (by have := K.out.size; first | exact this | simpa using this)))
    clear k
    have q := f.cell
    go_wp2_with fail
    refine (iLr_any _ _ _ _ _ _ xs _ t).mono ?_
    rintro e w' ⟨a11, m11, c11, rfl, o11, hm11, k⟩
    clear q
    clear t
    have f := f.belowAll k
    have o5 := o5.belowAll k
    have o7 := o7.belowAll k
    have K := hide (K.out.trans (k.mono (by have := K.out.size; first | exact this | simpa using this)))
    clear k
    have q := f.cell
    have hmm : m11 = m7 := by rw [← o11.len, ← o5.len]
    subst hmm
    go_wp2_with fail
    refine (eqGotS_same _ _ _ _ _ _ _ o11.sg o5.sg).mono ?_
    rintro e w' ⟨rfl, k⟩
    clear q
    have f := f.belowAll k
    have o5 := o5.belowAll k
    have o7 := o7.belowAll k
    have o11 := o11.belowAll k
    have K := hide (K.out.trans (k.mono (by have := K.out.size; first | exact this | simpa using this)))
    clear k
    have q := f.cell
    go_wp2_with fail
    refine (heldG_any _ _ _ zs7 _ o7.sg HMK.out (by omega)).mono ?_
    rintro e w9 ⟨rfl, hw9⟩
    subst hw9
    go_wp2
    go_ret
    exact ⟨rfl, K.out⟩
theorem lrd_some {a b c : Int} {n : Nat} {zs : List Int} (h : 0 < (lrd a b c n zs).length) : fv a b c = true ∧ smp n zs = true ∧ lrd a b c n zs = rd a b c zs 0 := by
  unfold lrd at h ⊢
  by_cases hh : fv a b c = true ∧ smp n zs = true
  · rw [if_pos hh]; exact ⟨hh.1, hh.2, rfl⟩
  · rw [if_neg hh] at h; exact absurd h (by simp)
theorem lrd_codes {a b c : Int} {n : Nat} {zs : List Int} {j : Nat} (h : j < (lrd a b c n zs).length) : ((lrd a b c n zs).getD j (0, 0)).2 ≠ 3 := by
  obtain ⟨hv, hs, e⟩ := lrd_some (show 0 < (lrd a b c n zs).length by omega)
  have hp := fl_pos hv
  rw [e] at h ⊢
  refine rd_codes (a := a) (b := b) (c := c) (zs := zs) (by omega) 0 _ ?_
  rw [List.getD_eq_getElem?_getD, List.getElem?_eq_getElem h]
  exact List.getElem_mem h
theorem lrd_count {a b c : Int} {n L : Nat} {zs : List Int} (hl : zs.length = n) (h : 0 < (lrd a b c n zs).length) (hL : flOf a b c = (L : Int)) : ((lrd a b c n zs).length - 1) * (4 * L - 1) < n := by
  obtain ⟨hv, hs, e⟩ := lrd_some h
  have hp := fl_pos hv
  rw [e] at h ⊢
  rcases rd_count (zs := zs) (show 1 ≤ (flOf a b c).toNat by omega) 0 with h0 | h0
  · omega
  · rw [hL, Int.toNat_natCast] at h0; omega
theorem lrd_first {a b c : Int} {n : Nat} {zs : List Int} (hl : zs.length = n) (h : 0 < (lrd a b c n zs).length) :
    lbc a b c n zs (ls n zs 0) = 3 ∨ (lrd a b c n zs).getD 0 (0, 0) = (lbv a b c n zs (ls n zs 0), lbc a b c n zs (ls n zs 0)) := by
  obtain ⟨hv, hs, e⟩ := lrd_some h
  have hp := fl_pos hv
  have hls : ls n zs 0 = sf zs 0 := by unfold ls; rw [if_pos ⟨hs, by omega⟩]; rfl
  rw [e] at h ⊢
  rw [hls]
  rcases sf_cases zs 0 with ⟨h1, _⟩ | ⟨p, h1, _, h2, h3, _⟩
  · rw [rd_none h1] at h; exact absurd h (by simp)
  · obtain ⟨_, _, _, h4⟩ := rd_some (a := a) (b := b) (c := c) h1
    rw [h1]
    obtain ⟨e1, e2⟩ := lb_in (c := c) (x := (p : Int)) hv hs (by omega) (by omega)
    rw [e1, e2, Int.toNat_natCast]
    by_cases h5 : byc a b c zs p = 3
    · exact .inl h5
    · right
      rw [h4, rd_got h2 h3 h5 (by omega)]
      rfl
/-- What the drawn region of FnReadFirst leaves. -/
def CutR (w : World) (B : Nat) (V C : Int) (a : Option Addr) (n cap : Nat) (Z : List (Int × Int)) (s7 : Value) (wx : World) : Prop :=
  ∃ G base, s7 = .pointer (some ⟨G, 0, none⟩) ∧ Bk wx G 34 #[.int .i64 V, .int .i64 C] ∧ Owg wx base a n cap Z ∧ Below w.heap.size w wx
theorem grown_set (w : World) (p : Addr) (u : Value) : w.grownBy (w.setCell p u) (some p.block) := ⟨rfl, rfl, rfl, by simp, fun i _ hi => Below.heap_setCell w p u i (fun e => hi (by rw [e]))⟩
theorem owg_set2 {w : World} {base n cap G : Nat} {a : Option Addr} {zs : List (Int × Int)} (o : Owg w base a n cap zs) (h : ∀ r, (Value.slice a n cap).ownBlock = some r → r ≠ G) (u v : Value) : Owg ((w.setCell ⟨G, 0, none⟩ u).setCell ⟨G, 1, none⟩ v) base a n cap zs :=
  (o.keepNe (grown_set w ⟨G, 0, none⟩ u) h).keepNe (grown_set _ ⟨G, 1, none⟩ v) h
set_option maxRecDepth 100000 in
set_option maxHeartbeats 2000000 in
theorem fnRead_walk (a : Option Addr) (len cap : Nat) (zs0 : List Int) (w : World) (h : IsRow .u8 w a len cap zs0) :
    Calls Try.prog 9 #[.slice a len cap] w fun e w' => e = .returned (.bool true) ∧ Below w.heap.size w w' := by
  by_cases hbig : (1048576 : Int) < (len : Int)
  · go_enter Try.func9, Try.ntmps9
    go_wp2
    go_ret
    exact ⟨rfl, Below.refl _ _⟩
  · have hsm : ¬ (1048576 : Int) < (len : Int) := hbig
    go_enter Try.func9, Try.ntmps9
    go_wp2_with fail
    refine (dDrawLineRead_any a len cap zs0 _ h).mono ?_
    rintro e w1 ⟨x, y, z, hb, n, cp, ys, rfl, o, hn, k1⟩
    have f := Bk.new w1 36 #[.int .i64 x, .int .i64 y, .int .i64 z]
    have K := hide (k1.alloc k1.size (.cells #[.int .i64 x, .int .i64 y, .int .i64 z] 36))
    have o := o.alloc (.cells #[.int .i64 x, .int .i64 y, .int .i64 z] 36)
    have HL := hide o.len
    have hn' : (n : Int) ≤ 500 := by omega
    obtain ⟨F, hF⟩ : ∃ F, w1.heap.size = F := ⟨_, rfl⟩
    rw [hF] at f
    have q := f.cell
    clear k1
    go_wp2_with fail
    clear hF
    refine (iLr_any _ _ _ _ _ _ ys _ o.sl).mono ?_
    rintro e w' ⟨a5, m5, c5, rfl, o5, hm5, k⟩
    clear q
    have o := o.belowAll k
    have f := f.belowAll k
    have K := hide (K.out.trans (k.mono (by have := K.out.size; first | exact this | simpa using this)))
    clear k
    have q := f.cell
    go_wp2_with fail
    refine (sLr_any _ _ _ _ _ _ ys _ o.sl).mono ?_
    rintro e w' ⟨a6, m6, c6, rfl, o6, hm6, k⟩
    clear q
    have o := o.belowAll k
    have f := f.belowAll k
    have o5 := o5.belowAll k
    have K := hide (K.out.trans (k.mono K.out.size))
    clear k
    have q := f.cell
    have hmm : m6 = m5 := by rw [← o6.len, ← o5.len]
    subst hmm
    obtain ⟨Z, hZ⟩ : ∃ Z, lrd x y z n ys = Z := ⟨_, rfl⟩
    rw [hZ] at o5 o6
    have HZ := hide hZ
    have HM := hide o5.len
    clear hZ
    go_wp2_with fail
    refine (sameGot_same _ _ _ _ _ _ _ o5.sg o6.sg).mono ?_
    rintro e w' ⟨rfl, qq, hw⟩
    clear q
    have K := hide (show Below w.heap.size w w' from hw ▸ below_drewN K.out qq)
    have f : Bk w' _ _ _ := hw ▸ f.drewN qq
    have o : Own w' _ _ _ _ _ := hw ▸ Own.drewN o qq
    have o5 : Owg w' _ _ _ _ _ := hw ▸ o5.drewN qq
    have o6 : Owg w' _ _ _ _ _ := hw ▸ o6.drewN qq
    clear hw
    have q := f.cell
    go_wp2
    go_loop [7] (fun i => ∃ k : Nat, i = .int .i64 k ∧ k ≤ m6) (fun i => m6 - (intOf i).toNat)
    case atStart => exact ⟨0, rfl, by omega⟩
    case round =>
      obtain ⟨k, rfl, hk⟩ := hrel
      by_cases hlt : k < m6
      · have hlt' : (k : Int) < (m6 : Int) := by omega
        obtain ⟨b, u, rfl, c1, c2⟩ := o5.sg.at_ hlt
        have hne := lrd_codes (a := x) (b := y) (c := z) (n := n) (zs := ys) (j := k) (by rw [HZ.out, HM.out]; exact hlt)
        rw [HZ.out] at hne
        obtain ⟨v, hv⟩ : ∃ v, (Z.getD k (0, 0)).2 = v := ⟨_, rfl⟩
        rw [hv] at c2 hne
        have hne' : (v == 3) = false := by simpa using hne
        clear hv hne
        go_wp2
        go_round
        case rel => exact ⟨k + 1, by go_num, by omega⟩
        case measure => simp [intOf]; omega
      · obtain rfl : m6 = k := by omega
        have hge : ¬ (m6 : Int) < (m6 : Int) := by omega
        by_cases h0 : m6 = 0
        · have h0' : ((m6 : Int) == 0) = true := by simp; omega
          clear h0
          go_wp2
          go_ret
          exact ⟨rfl, K.out⟩
        · have h0' : ((m6 : Int) == 0) = false := by simp; omega
          obtain ⟨hv, _, _⟩ := lrd_some (a := x) (b := y) (c := z) (n := n) (zs := ys) (by rw [HZ.out, HM.out]; omega)
          obtain ⟨L, hL, h7, h12⟩ : ∃ L : Nat, flOf x y z = (L : Int) ∧ 7 ≤ L ∧ L ≤ 12 := ⟨(flOf x y z).toNat, by have := fl_bd hv; omega, by have := fl_bd hv; omega, by have := fl_bd hv; omega⟩
          have hcnt := lrd_count (a := x) (b := y) (c := z) (n := n) (zs := ys) HL.out (by rw [HZ.out, HM.out]; omega) hL
          rw [HZ.out, HM.out] at hcnt
          have hP : ((m6 : Int) - 1) * (4 * (L : Int) - 1) = (((m6 - 1) * (4 * L - 1) : Nat) : Int) := by
            rw [Int.natCast_mul, Int.natCast_sub (by omega), Int.natCast_sub (by omega)]; simp
          have hP1 : ((m6 : Int) - 1) * (4 * (L : Int) - 1) < (n : Int) := by rw [hP]; omega
          have hP0 : 0 ≤ ((m6 : Int) - 1) * (4 * (L : Int) - 1) := by rw [hP]; omega
          have HFL := hide hL
          clear h0 hv hL hcnt hP
          go_wp2_with fail
          refine (ifl_any _ _ _ _).mono ?_
          rintro e w' ⟨rfl, k⟩
          rw [HFL.out]
          have K := hide (K.out.trans (k.mono K.out.size))
          clear k q
          go_wp2
          go_ret
          exact ⟨rfl, K.out⟩
set_option maxRecDepth 100000 in
set_option maxHeartbeats 2000000 in
theorem fnReadFirst_walk (a : Option Addr) (len cap : Nat) (zs0 : List Int) (w : World) (h : IsRow .u8 w a len cap zs0) :
    Calls Try.prog 10 #[.slice a len cap] w fun e w' => e = .returned (.bool true) ∧ Below w.heap.size w w' := by
  by_cases hbig : (1048576 : Int) < (len : Int)
  · go_enter Try.func10, Try.ntmps10
    go_wp2
    go_ret
    exact ⟨rfl, Below.refl _ _⟩
  · have hsm : ¬ (1048576 : Int) < (len : Int) := hbig
    go_enter Try.func10, Try.ntmps10
    go_wp2_with fail
    refine (dDrawLineRead_any a len cap zs0 _ h).mono ?_
    rintro e w1 ⟨x, y, z, hb, n, cp, ys, rfl, o, hn, k1⟩
    have f := Bk.new w1 36 #[.int .i64 x, .int .i64 y, .int .i64 z]
    have K := hide (k1.alloc k1.size (.cells #[.int .i64 x, .int .i64 y, .int .i64 z] 36))
    have o := o.alloc (.cells #[.int .i64 x, .int .i64 y, .int .i64 z] 36)
    have HL := hide o.len
    have hn' : (n : Int) ≤ 500 := by omega
    obtain ⟨F, hF⟩ : ∃ F, w1.heap.size = F := ⟨_, rfl⟩
    rw [hF] at f
    have q := f.cell
    clear k1
    go_wp2_with fail
    clear hF
    refine (iLr_any _ _ _ _ _ _ ys _ o.sl).mono ?_
    rintro e w' ⟨a5, m5, c5, rfl, o5, hm5, k⟩
    clear q
    have o := o.belowAll k
    have f := f.belowAll k
    have K := hide (K.out.trans (k.mono (by have := K.out.size; first | exact this | simpa using this)))
    clear k
    have q := f.cell
    go_wp2_with fail
    refine (sLr_any _ _ _ _ _ _ ys _ o.sl).mono ?_
    rintro e w' ⟨a6, m6, c6, rfl, o6, hm6, k⟩
    clear q
    have o := o.belowAll k
    have f := f.belowAll k
    have o5 := o5.belowAll k
    have K := hide (K.out.trans (k.mono K.out.size))
    clear k
    have q := f.cell
    have hmm : m6 = m5 := by rw [← o6.len, ← o5.len]
    subst hmm
    obtain ⟨Z, hZ⟩ : ∃ Z, lrd x y z n ys = Z := ⟨_, rfl⟩
    rw [hZ] at o5 o6
    have HZ := hide hZ
    have HM := hide o5.len
    clear hZ
    go_wp2_with fail
    refine (sameGot_same _ _ _ _ _ _ _ o5.sg o6.sg).mono ?_
    rintro e w' ⟨rfl, qq, hw⟩
    clear q
    have K := hide (show Below w.heap.size w w' from hw ▸ below_drewN K.out qq)
    have f : Bk w' _ _ _ := hw ▸ f.drewN qq
    have o : Own w' _ _ _ _ _ := hw ▸ Own.drewN o qq
    have o5 : Owg w' _ _ _ _ _ := hw ▸ o5.drewN qq
    have o6 : Owg w' _ _ _ _ _ := hw ▸ o6.drewN qq
    clear hw
    have q := f.cell
    by_cases h0 : m6 = 0
    · have h0' : ((m6 : Int) == 0) = true := by simp; omega
      clear h0
      go_wp2_with fail
      refine (sameGot_same _ _ _ _ _ _ _ o5.sg o6.sg).mono ?_
      rintro e w' ⟨rfl, qq, hw⟩
      clear q
      have K := hide (show Below w.heap.size w w' from hw ▸ below_drewN K.out qq)
      have f : Bk w' _ _ _ := hw ▸ f.drewN qq
      have o : Own w' _ _ _ _ _ := hw ▸ Own.drewN o qq
      have o5 : Owg w' _ _ _ _ _ := hw ▸ o5.drewN qq
      have o6 : Owg w' _ _ _ _ _ := hw ▸ o6.drewN qq
      clear hw
      have q := f.cell
      go_wp2
      go_ret
      exact ⟨rfl, K.out⟩
    · have h0' : ((m6 : Int) == 0) = false := by simp; omega
      have hlr := lrd_first (a := x) (b := y) (c := z) (n := n) (zs := ys) HL.out (by rw [HZ.out, HM.out]; omega)
      obtain ⟨V, hV⟩ : ∃ V, lbv x y z n ys (ls n ys 0) = V := ⟨_, rfl⟩
      obtain ⟨C, hC⟩ : ∃ C, lbc x y z n ys (ls n ys 0) = C := ⟨_, rfl⟩
      rw [HZ.out, hV, hC] at hlr
      have HV := hide hV
      have HC := hide hC
      have HLR := hide hlr
      have hm0 : 0 < m6 := by omega
      clear h0 hV hC hlr
      go_upto_region 8 with fail
      have od : Own w'.drew _ _ _ _ _ := o
      have od2 : Own (w'.alloc (.cells #[.int .i64 0, .int .i64 0] 34)).drew _ _ _ _ _ := o.alloc _
      have lF := f.lt
      go_cut [7] (fun s7 wx => CutR w w'.heap.size V C a5 m6 c5 Z s7 wx)
      case first =>
        go_region_law (first | (go_simp; go_at_call 13; refine (impl_ls _ _ _ ys 0 _ od.sl (by omega)).mono ?_; rintro e w8 ⟨rfl, hw8⟩; subst hw8) | (go_simp; go_at_call 13; refine (impl_ls _ _ _ ys 0 _ od2.sl (by omega)).mono ?_; rintro e w8 ⟨rfl, hw8⟩; subst hw8) | (go_simp; go_at_call 18; refine (iLb_any _ _ _ _ _ _ ys _ _ od.sl).mono ?_; rintro e w9 ⟨rfl, k9⟩; rw [HV.out, HC.out]; have f9 := Bk.belowAll (w := w'.drew) f k9; have q9 := f9.cell; have r9 : CutR w w'.heap.size V C a5 m6 c5 Z (.pointer (some ⟨w9.heap.size, 0, none⟩)) (w9.alloc (.cells #[.int .i64 V, .int .i64 C] 34)) := ⟨w9.heap.size, _, rfl, Bk.new _ _ _, (Owg.belowAll (w := w'.drew) o5 k9).alloc _, (K.out.drew.trans (k9.mono K.out.drew.size)).alloc (K.out.drew.trans (k9.mono K.out.drew.size)).size _⟩) | (go_simp; go_at_call 18; refine (iLb_any _ _ _ _ _ _ ys _ _ od2.sl).mono ?_; rintro e w9 ⟨rfl, k9⟩; rw [HV.out, HC.out]; have f9 := Bk.belowAll (w := (w'.alloc (.cells #[.int .i64 0, .int .i64 0] 34)).drew) (f.alloc _) k9; have q9 := f9.cell; have g9 := Bk.belowAll (w := (w'.alloc (.cells #[.int .i64 0, .int .i64 0] 34)).drew) (Bk.new w' 34 #[.int .i64 0, .int .i64 0]) k9; have gq9 := g9.cell; have gf9 := g9.free; have gl9 := g9.lt; have r9 : CutR w w'.heap.size V C a5 m6 c5 Z (.pointer (some ⟨w'.heap.size, 0, none⟩)) ((w9.setCell ⟨w'.heap.size, 0, none⟩ (.int .i64 V)).setCell ⟨w'.heap.size, 1, none⟩ (.int .i64 C)) := ⟨w'.heap.size, _, rfl, by simpa using (g9.put 0 (.int .i64 V)).put 1 (.int .i64 C), owg_set2 (Owg.belowAll (w := (w'.alloc (.cells #[.int .i64 0, .int .i64 0] 34)).drew) (o5.alloc _) k9) (fun r hr => by have := (o5.row r hr).2; omega) _ _, ((((K.out.alloc K.out.size _).drew.trans (k9.mono (K.out.alloc K.out.size _).drew.size)).setCell (by have := K.out.size; simpa using this) _).setCell (by have := K.out.size; simpa using this) _)⟩))
        all_goals
          go_wp2_with fail
          go_meet
          exact r9
      case rest =>
        obtain ⟨G, base9, rfl, g9, o9, K9⟩ := hcut
        obtain ⟨bb, uu, hae, c1, c2⟩ := o9.sg.at_ hm0
        subst hae
        have hm0' : (0 : Int) < (m6 : Int) := by omega
        have q9 := g9.cell
        by_cases h3 : C = 3
        · have h3' : (C == 3) = true := by simpa using h3
          clear h3 c1 c2
          go_wp2
          go_quiet (fail)
          go_wp2
          go_ret
          exact ⟨rfl, below_drewN K9 _⟩
        · have h3' : (C == 3) = false := by simpa using h3
          have hfirst : Z.getD 0 (0, 0) = (V, C) := by
            rcases HLR.out with h | h
            · exact absurd h h3
            · exact h
          rw [hfirst] at c1 c2
          simp only [Nat.zero_mul, Nat.add_zero] at c1 c2
          clear h3 hfirst
          go_wp2
          go_quiet (fail)
          go_wp2
          go_ret
          exact ⟨rfl, below_drewN K9 _⟩
end Go.Proofs.Ytnbomcglkgbblaa
