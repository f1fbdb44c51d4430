/-
  The walk of the reference's function that returns the samples of bytes. The contract says what it returns for what the slice reads as, and that nothing that was there has turned.
-/
import Derived.Test.YtemioipedkbkiaaLinP
import Derived.Test.YtemioipedkbkiaaFrmS
import Derived.Test.YtemioipedkbkiaaOwnB
import Derived.Test.YtemioipedkbkiaaFrmE
import Derived.Deep.RegionHeld3
namespace Go.Proofs.Ytemioipedkbkiaa
open Go.RowKit
set_option linter.unusedVariables false

/-- All are bytes of a format; the test of LineOf. -/
def bok (a : Int) (xs : List Int) : Bool := xs.all fun x => decide (0 ≤ x) && decide (x < 2 ^ a.toNat)
def pre1 (a b c idle : Int) (xs : List Int) : Bool := fv a b c && (decide (0 ≤ idle) && (decide (idle ≤ 20) && decide (xs.length ≤ 20)))
def lok (a b c idle : Int) (xs : List Int) : Bool := pre1 a b c idle xs && (bok a xs && decide (xs.length * (idle.toNat + 4 * (flOf a b c).toNat) ≤ 500))
theorem bok_at {a : Int} {xs : List Int} (h : bok a xs = true) : ∀ x ∈ xs, 0 ≤ x ∧ x < 2 ^ a.toNat := by
  intro x hx
  unfold bok at h
  rw [List.all_eq_true] at h
  simpa using h x hx
theorem bok_no {a : Int} {xs : List Int} {k : Nat} (hk : k < xs.length) (h : (decide (0 ≤ xs.getD k 0) && decide (xs.getD k 0 < 2 ^ a.toNat)) = false) : bok a xs = false := by
  unfold bok
  rw [List.all_eq_false]
  refine ⟨xs.getD k 0, ?_, by simpa using h⟩
  rw [List.getD_eq_getElem?_getD, List.getElem?_eq_getElem hk]
  exact List.getElem_mem hk
theorem bok_yes {a : Int} {xs : List Int} (h : ∀ j, j < xs.length → (decide (0 ≤ xs.getD j 0) && decide (xs.getD j 0 < 2 ^ a.toNat)) = true) : bok a xs = true := by
  unfold bok
  rw [List.all_eq_true]
  intro z hz
  obtain ⟨j, hj, rfl⟩ := List.getElem_of_mem hz
  have := h j hj
  rwa [List.getD_eq_getElem?_getD, List.getElem?_eq_getElem hj] at this
theorem lin_snoc (a b c : Int) (idle : Nat) {xs : List Int} {k : Nat} (h : k < xs.length) : lin a b c idle (xs.take k) ++ chunk a b c idle (xs.getD k 0) = lin a b c idle (xs.take (k + 1)) := by
  rw [List.take_succ_eq_append_getElem h, ← lin_append, List.getD_eq_getElem?_getD, List.getElem?_eq_getElem h]
  simp [lin]
theorem rep4_snoc {F : List Int} {j : Nat} (h : j < 4 * F.length) : (rep4 F).take j ++ [F.getD (j / 4) 0] = (rep4 F).take (j + 1) := by
  have hl : j < (rep4 F).length := by rw [rep4_len]; exact h
  rw [List.take_succ_eq_append_getElem hl, ← rep4_at F j h, List.getD_eq_getElem?_getD, List.getElem?_eq_getElem hl]; rfl
/-- What LineOf leaves. -/
def Lo (a b c idle : Int) (xs : List Int) (w : World) (e : Ending) (w' : World) : Prop :=
  ∃ h k cap zs, e = .returned (.tuple #[.slice (some ⟨h, 0, none⟩) k cap, .bool (lok a b c idle xs)]) ∧ Own w' w.heap.size h k cap zs ∧ (zs = if lok a b c idle xs = true then lin a b c idle.toNat xs else []) ∧ Below w.heap.size w w'
theorem slf_no (a b c idle : Int) (p : Option Addr) (len cap : Nat) (xs : List Int) (w : World) (h : Sl w p len cap xs) (hp : pre1 a b c idle xs = false) :
    Calls Try.prog 8 #[.agg #[.int .i64 a, .int .i64 b, .int .i64 c], .slice p len cap, .int .i64 idle] w (Lo a b c idle xs w) := by
  have hlc : (len : Int) ≤ 9223372036854775807 := by have := h.2.1; have := h.2.2.1; omega
  have HZ := hide h.1
  have B := hide ((Below.refl w.heap.size w).alloc (Nat.le_refl _) (.cells #[.int .i64 a, .int .i64 b, .int .i64 c] 27))
  have E := hide (show lok a b c idle xs = false by unfold lok; rw [hp]; rfl)
  have b0 := Bk.new w 27 #[.int .i64 a, .int .i64 b, .int .i64 c]
  have K := hide ((B.out.alloc B.out.size (.cells #[] 3)))
  have f := b0.alloc (.cells #[] 3)
  have o : Own ((w.alloc (.cells #[.int .i64 a, .int .i64 b, .int .i64 c] 27)).alloc (.cells #[] 3)) w.heap.size (w.heap.size + 1) 0 0 [] := Own.new (by omega) (by have := Bk.new (w.alloc (.cells #[.int .i64 a, .int .i64 b, .int .i64 c] 27)) 3 #[]; simpa using this)
  cases hv : fv a b c
  · have HV := hide hv
    clear hv hp
    go_enter Try.func8, Try.ntmps8
    go_wp2_with fail
    refine (sfv_any _ _ _ _).mono ?_
    rintro e w1 ⟨rfl, k1⟩
    rw [HV.out]
    have o := o.belowAll k1
    have K := hide (K.out.trans (k1.mono K.out.size))
    clear k1
    go_wp2
    go_ret2
    exact ⟨_, 0, 0, [], by rw [E.out]; rfl, o, by rw [E.out]; rfl, K.out⟩
  · have HV := hide hv
    by_cases hi : (decide (0 ≤ idle) && decide (idle ≤ 20)) = true
    · have HI := hide hi
      have hn : (20 : Int) < (len : Int) := by
        have := HZ.out
        simp [pre1, hv] at hp hi
        have := hp hi.1 hi.2
        omega
      clear hv hp hi
      go_enter Try.func8, Try.ntmps8
      go_wp2_with fail
      refine (sfv_any _ _ _ _).mono ?_
      rintro e w1 ⟨rfl, k1⟩
      rw [HV.out]
      have o := o.belowAll k1
      have K := hide (K.out.trans (k1.mono K.out.size))
      clear k1
      go_wp2_with fail
      refine (l6In_any _ _ _ _).mono ?_
      rintro e w2 ⟨rfl, rfl⟩
      rw [HI.out]
      go_wp2
      go_ret2
      exact ⟨_, 0, 0, [], by rw [E.out]; rfl, o, by rw [E.out]; rfl, K.out⟩
    · have HI := hide (show (decide (0 ≤ idle) && decide (idle ≤ 20)) = false by simpa using hi)
      clear hv hp hi
      go_enter Try.func8, Try.ntmps8
      go_wp2_with fail
      refine (sfv_any _ _ _ _).mono ?_
      rintro e w1 ⟨rfl, k1⟩
      rw [HV.out]
      have o := o.belowAll k1
      have K := hide (K.out.trans (k1.mono K.out.size))
      clear k1
      go_wp2_with fail
      refine (l6In_any _ _ _ _).mono ?_
      rintro e w2 ⟨rfl, rfl⟩
      rw [HI.out]
      go_wp2
      go_ret2
      exact ⟨_, 0, 0, [], by rw [E.out]; rfl, o, by rw [E.out]; rfl, K.out⟩
set_option maxHeartbeats 4000000 in
theorem slf_yes (a b c idle : Int) (p : Option Addr) (len cap : Nat) (xs : List Int) (w : World) (h : Sl w p len cap xs) (hp : pre1 a b c idle xs = true) :
    Calls Try.prog 8 #[.agg #[.int .i64 a, .int .i64 b, .int .i64 c], .slice p len cap, .int .i64 idle] w (Lo a b c idle xs w) := by
  have HZ := hide h.1
  have EL := hide (show lok a b c idle xs = (bok a xs && decide (xs.length * (idle.toNat + 4 * (flOf a b c).toNat) ≤ 500)) by unfold lok; rw [hp]; rfl)
  have B := hide ((Below.refl w.heap.size w).alloc (Nat.le_refl _) (.cells #[.int .i64 a, .int .i64 b, .int .i64 c] 27))
  have b0 := Bk.new w 27 #[.int .i64 a, .int .i64 b, .int .i64 c]
  have K := hide ((B.out.alloc B.out.size (.cells #[] 3)))
  have f := b0.alloc (.cells #[] 3)
  have o : Own ((w.alloc (.cells #[.int .i64 a, .int .i64 b, .int .i64 c] 27)).alloc (.cells #[] 3)) (w.heap.size + 1) (w.heap.size + 1) 0 0 [] := Own.new (by omega) (by have := Bk.new (w.alloc (.cells #[.int .i64 a, .int .i64 b, .int .i64 c] 27)) 3 #[]; simpa using this)
  have hs := (h.alloc (.cells #[.int .i64 a, .int .i64 b, .int .i64 c] 27)).alloc (.cells #[] 3)
  simp only [pre1, Bool.and_eq_true, decide_eq_true_eq] at hp
  obtain ⟨hv, hi0, hi1, hn⟩ := hp
  obtain ⟨r1, r2, r3, r4, r5, r6⟩ := fv_iff.1 hv
  obtain ⟨l7, l12⟩ := fl_bd hv
  have HV := hide hv
  have HI := hide (show (decide (0 ≤ idle) && decide (idle ≤ 20)) = true by simp [hi0, hi1])
  have hn' : (len : Int) ≤ 20 := by have := HZ.out; omega
  obtain ⟨I, rfl⟩ := Int.eq_ofNat_of_zero_le hi0
  have HH := hide h
  have hd20 : decide ((20 : Int) < (len : Int)) = false := by simp; omega
  clear hv hn b0 h
  go_enter Try.func8, Try.ntmps8
  go_wp2_with fail
  refine (sfv_any _ _ _ _).mono ?_
  rintro e w1 ⟨rfl, k1⟩
  rw [HV.out]
  have o := o.belowAll k1
  have f := f.belowAll k1
  have hs := hs.below k1 (Nat.le_refl _)
  have K := hide (K.out.trans (k1.mono K.out.size))
  clear k1
  go_wp2_with fail
  refine (l6In_any _ _ _ _).mono ?_
  rintro e w2 ⟨rfl, rfl⟩
  rw [HI.out]
  go_wp2
  go_loopw [8, 9] (fun v i wr => ∃ k m g cp : Nat, v = .slice (some ⟨g, 0, none⟩) m cp ∧ i = .int .i64 k ∧ k ≤ len ∧ Own wr (w.heap.size + 1) g m cp (lin a b c I (xs.take k)) ∧ (∀ j, j < k → (decide (0 ≤ xs.getD j 0) && decide (xs.getD j 0 < 2 ^ a.toNat)) = true) ∧ Bk wr w.heap.size 27 #[.int .i64 a, .int .i64 b, .int .i64 c] ∧ Below w.heap.size w wr) (fun _ i _ => len - (intOf i).toNat)
  case atStart => exact ⟨0, 0, _, _, rfl, rfl, by omega, by simpa [lin] using o, fun j hj => absurd hj (by omega), f, K.out⟩
  case round =>
    clear o f hs K
    obtain ⟨k, m, g, cp, rfl, rfl, hk, o, hall, f, K⟩ := hrel
    have HK := hide K
    have HA := hide hall
    have hm : m ≤ 2000 := by
      have h1 := o.len
      rw [lin_len I HV.out, List.length_take] at h1
      have h2 : (min k xs.length) * (I + 4 * (flOf a b c).toNat) ≤ 20 * (20 + 4 * 12) := Nat.mul_le_mul (by omega) (by omega)
      omega
    clear hall K
    by_cases hlt : k < len
    · have hlt' : (k : Int) < (len : Int) := by omega
      have hs := HH.out.below HK.out (Nat.le_refl _)
      obtain ⟨y, rfl, hc⟩ := hs.at_ hlt
      obtain ⟨x, hx⟩ : ∃ x, xs.getD k 0 = x := ⟨_, rfl⟩
      rw [hx] at hc
      have HX := hide hx
      have q := f.cell
      have KK := HK.out
      clear hx
      cases hb : (decide (0 ≤ x) && decide (x < 2 ^ a.toNat))
      · have HB := hide hb
        clear hb
        go_wp2
        go_region_held3 (fun W => (∀ i, W.cell? ⟨w.heap.size, i, none⟩ = #[Value.int .i64 a, .int .i64 b, .int .i64 c][i]?) ∧ W.cell? (y.add k) = some (.int .i64 x) ∧ Bk W w.heap.size 27 #[Value.int .i64 a, .int .i64 b, .int .i64 c] ∧ Below w.heap.size w W)
          (first | exact ⟨f6.cell, c6, f6, l6⟩ | exact ⟨q, hc, f, KK.drew⟩)
          (first | (go_at_call 23; refine (sbyte_any _ _ _ _ _ r1 r2).mono ?_; rintro e w6 ⟨rfl, k6⟩; rw [HB.out]; go_split_ands; have f6 := Bk.belowAll (by assumption) k6; have c6 := (k6.cell (block_lt_of_cell (by assumption))).trans (by assumption); have l6 := Below.trans (by assumption) (k6.mono (Below.size (by assumption)))))
        go_wp2
        go_ret2
        have E : lok a b c I xs = false := by rw [EL.out, bok_no (k := k) (by rw [HZ.out]; exact hlt) (by rw [HX.out]; exact HB.out)]; rfl
        exact ⟨_, 0, 0, [], by rw [E]; rfl, Own.new l6.size (Bk.new _ _ _), by rw [E]; rfl, l6.alloc l6.size _⟩
      · have HB := hide hb
        have x0 : 0 ≤ x := by simp at hb; exact hb.1
        have x1 : x < 256 := by
          obtain rfl | rfl | rfl | rfl : a = 5 ∨ a = 6 ∨ a = 7 ∨ a = 8 := by omega
          all_goals (simp at hb; omega)
        clear hb
        have HF8 := hide (frm_toNat (x := x) HV.out)
        obtain ⟨F8, hF8⟩ : ∃ F8, frm a b c x = F8 := ⟨_, rfl⟩
        have HFF := hide hF8
        rw [hF8] at HF8
        clear hF8
        have FL12 := hide (fl_pos HV.out)
        obtain ⟨Z, hZ⟩ : ∃ Z, lin a b c I (xs.take k) = Z := ⟨_, rfl⟩
        rw [hZ] at o
        have HZZ := hide hZ
        clear hZ
        go_wp2
        go_region_held3 (fun W => (∀ i, W.cell? ⟨w.heap.size, i, none⟩ = #[Value.int .i64 a, .int .i64 b, .int .i64 c][i]?) ∧ W.cell? (y.add k) = some (.int .i64 x) ∧ Bk W w.heap.size 27 #[Value.int .i64 a, .int .i64 b, .int .i64 c] ∧ Own W (w.heap.size + 1) g m cp Z ∧ Below w.heap.size w W)
          (first | exact ⟨f6.cell, c6, f6, o6, l6⟩ | exact ⟨q, hc, f, Own.drewN o 1, KK.drew⟩)
          (first | (go_at_call 23; refine (sbyte_any _ _ _ _ _ r1 r2).mono ?_; rintro e w6 ⟨rfl, k6⟩; rw [HB.out]; go_split_ands; have f6 := Bk.belowAll (by assumption) k6; have o6 := Own.belowAll (zs := Z) (by assumption) k6; have c6 := (k6.cell (block_lt_of_cell (by assumption))).trans (by assumption); have l6 := Below.trans (by assumption) (k6.mono (Below.size (by assumption)))))
        clear q hc o f KK
        go_wp2
        go_loopw [8, 10] (fun v i wr => ∃ j g cp : Nat, v = .slice (some ⟨g, 0, none⟩) (m + j) cp ∧ i = .int .i64 j ∧ j ≤ I ∧ Own wr (w.heap.size + 1) g (m + j) cp (Z ++ List.replicate j 1) ∧ Bk wr w.heap.size 27 #[.int .i64 a, .int .i64 b, .int .i64 c] ∧ Below w.heap.size w wr) (fun _ i _ => I - (intOf i).toNat)
        case atStart => exact ⟨0, _, _, rfl, rfl, by omega, by simpa using o6, f6, l6⟩
        case round =>
          clear o6 f6 c6 l6
          obtain ⟨j, g8, cp8, rfl, rfl, hjI, o, f, K⟩ := hrel
          have HK2 := hide K
          clear K
          by_cases hji : j < I
          · have hji' : (j : Int) < (I : Int) := by omega
            have HS := hide (show w.heap.size + 1 ≤ _ from f.lt)
            go_wp2_with (refine app_int2 rfl (.tmp 47) (.tmp 48) rfl rfl rfl (Own.alloc o _) (Bk.new _ _ _) (by omega) (by have := HS.out; simp; omega) ?_; intro g9 cp9 w9 o9 k9 hg9; have f9 := Bk.grow (f.alloc _) k9 (by have := o.lt; simp; omega); have K9 := (HK2.out.alloc HK2.out.size _).trans (grown_below k9 (by have := o.lt; omega) (by have := HK2.out.size; simp; omega)); clear k9 hg9)
            go_roundw
            case rel => exact ⟨j + 1, g9, cp9, by rfl, by go_num, by omega, by rw [List.replicate_succ', ← List.append_assoc]; exact o9, f9, K9⟩
            case measure => simp [intOf]; omega
          · obtain rfl : j = I := by omega
            have hge : ¬ (j : Int) < (j : Int) := by omega
            have hs := HH.out.below HK2.out (Nat.le_refl _)
            obtain ⟨y', hy', hc⟩ := hs.at_ hlt
            obtain rfl : y = y' := by injection hy'
            rw [HX.out] at hc
            have q := f.cell
            have KK := HK2.out
            clear hy'
            go_wp2
            go_region_held3 (fun W => (∀ i, W.cell? ⟨w.heap.size, i, none⟩ = #[Value.int .i64 a, .int .i64 b, .int .i64 c][i]?) ∧ W.cell? (y.add k) = some (.int .i64 x) ∧ Bk W w.heap.size 27 #[Value.int .i64 a, .int .i64 b, .int .i64 c] ∧ Own W (w.heap.size + 1) g8 (m + j) cp8 (Z ++ List.replicate j 1) ∧ Below w.heap.size w W)
              (first | exact ⟨f6.cell, c6, f6, o6, l6⟩ | exact ⟨q, hc, f, Own.drewN o 1, KK.drew⟩)
              (first | (go_at_call 24; refine (sbits_any _ _ _ _ _ HV.out x0 x1).mono ?_; rintro e w6 ⟨h8, n8, c8, rfl, o8, k6⟩; go_split_ands; have f6 := Bk.belowAll (by assumption) k6; have hg8 := (Own.lt (h := g8) (zs := Z ++ List.replicate j 1) (by assumption)).2; have o6 := Own.belowAll (zs := Z ++ List.replicate j 1) (by assumption) k6; have c6 := (k6.cell (block_lt_of_cell (by assumption))).trans (by assumption); have l6 := Below.trans (by assumption) (k6.mono (Below.size (by assumption))); rw [HFF.out] at o8; have hgh := hide (show g8 < h8 from Nat.lt_of_lt_of_le hg8 o8.lt.1); have o8 := Own.le_ o8 (base' := w.heap.size + 1) (Nat.le_of_lt (Nat.lt_of_le_of_lt o6.lt.1 (by assumption)))))
            have hn8 : n8 = F8.length := o8.len.symm
            have hn8b : n8 ≤ 12 ∧ 7 ≤ n8 := by have := HF8.out; have := FL12.out; omega
            obtain ⟨hn8c, hn8d⟩ := hn8b
            have HN8 := hide hn8
            clear hn8 q hc o f KK hs
            go_wp2
            go_loopw [8, 12] (fun v i wr => ∃ l g cp : Nat, v = .slice (some ⟨g, 0, none⟩) (m + j + l) cp ∧ i = .int .i64 l ∧ l ≤ 4 * n8 ∧ Own wr (w.heap.size + 1) g (m + j + l) cp ((Z ++ List.replicate j 1) ++ (rep4 F8).take l) ∧ Own wr (w.heap.size + 1) h8 n8 c8 F8 ∧ g ≠ h8 ∧ Bk wr w.heap.size 27 #[.int .i64 a, .int .i64 b, .int .i64 c] ∧ Below w.heap.size w wr) (fun _ i _ => 4 * n8 - (intOf i).toNat)
            case atStart => exact ⟨0, _, _, rfl, rfl, by omega, by simpa using o6, o8, by have := hgh.out; omega, f6, l6⟩
            case round =>
              clear o6 o8 f6 c6 l6 hgh
              obtain ⟨l, g10, cp10, rfl, rfl, hl4, o, ob, hne, f, K⟩ := hrel
              have HK3 := hide K
              have HNE := hide hne
              clear K hne
              by_cases hll : l < 4 * n8
              · have hll' : (l : Int) < (n8 : Int) * 4 := by omega
                have hld : l / 4 < n8 := by omega
                have hld' : (l : Int) / 4 < (n8 : Int) := by omega
                have hc := ob.cellAt (j := l / 4) hld
                obtain ⟨u, hu⟩ : ∃ u, F8.getD (l / 4) 0 = u := ⟨_, rfl⟩
                rw [hu] at hc
                have HU := hide hu
                clear hu
                have HS := hide (show w.heap.size + 1 ≤ _ from f.lt)
                have HOB := hide ob.lt.2
                go_wp2_with (refine app_int2 rfl (.tmp 63) (.tmp 69) rfl rfl rfl (Own.alloc o _) (Bk.new _ _ _) (by omega) (by have := HS.out; simp; omega) ?_; intro g9 cp9 w9 o9 k9 hg9; have f9 := Bk.grow (f.alloc _) k9 (by have := o.lt; simp; omega); have ob9 := Own.grow (ob.alloc _) k9 (Ne.symm HNE.out); have hne9 : g9 ≠ h8 := (by rcases hg9 with e | e <;> first | (rw [e]; exact HNE.out) | (simp at e; have := HOB.out; omega)); have K9 := (HK3.out.alloc HK3.out.size _).trans (grown_below k9 (by have := o.lt; omega) (by have := HK3.out.size; simp; omega)); clear k9 hg9 hc)
                go_roundw
                case rel => exact ⟨l + 1, g9, cp9, by rfl, by go_num, by omega, by rw [← HU.out, List.append_assoc, rep4_snoc (by rw [← HN8.out]; exact hll)] at o9; exact o9, ob9, hne9, f9, K9⟩
                case measure => simp [intOf]; omega
              · obtain rfl : l = 4 * n8 := by omega
                have hge2 : ¬ ((4 * n8 : Nat) : Int) < (n8 : Int) * 4 := by omega
                go_wp2
                go_roundw
                case rel =>
                  refine ⟨k + 1, m + j + 4 * n8, g10, cp10, rfl, by go_num, by omega, ?_, fun i hi => ?_, f, HK3.out⟩
                  · rw [← lin_snoc a b c j (by rw [HZ.out]; exact hlt), HX.out, HZZ.out]
                    rw [List.take_of_length_le (by rw [rep4_len, HN8.out]; exact Nat.le_refl _), List.append_assoc, ← HFF.out] at o
                    exact o
                  · by_cases e : i = k
                    · subst e; rw [HX.out]; exact HB.out
                    · exact HA.out i (by omega)
                case measure => simp [intOf]; omega
    · have hge : ¬ (k : Int) < (len : Int) := by omega
      obtain rfl : k = len := by omega
      have E : lok a b c I xs = decide (xs.length * (I + 4 * (flOf a b c).toNat) ≤ 500) := by
        rw [EL.out, bok_yes fun j hj => HA.out j (by have := HZ.out; omega)]; rfl
      have hml : m = xs.length * (I + 4 * (flOf a b c).toNat) := by
        have h1 := o.len
        rw [lin_len I HV.out, List.length_take, HZ.out, Nat.min_self] at h1
        rw [← h1, HZ.out]
      have ho : xs.take k = xs := List.take_of_length_le (by rw [HZ.out]; exact Nat.le_refl _)
      rw [ho] at o
      have HML := hide hml
      have HE := hide E
      clear hml E
      by_cases h5 : (500 : Int) < (m : Int)
      · have HE2 := hide (show lok a b c I xs = false by rw [HE.out, ← HML.out]; simp; omega)
        go_wp2
        go_ret2
        exact ⟨_, 0, 0, [], by rw [HE2.out]; rfl, Own.new HK.out.size (Bk.new _ _ _), by rw [HE2.out]; rfl, HK.out.alloc HK.out.size _⟩
      · have HE2 := hide (show lok a b c I xs = true by rw [HE.out, ← HML.out]; simp; omega)
        go_wp2
        go_ret2
        exact ⟨_, _, _, _, by rw [HE2.out]; rfl, o.le_ (by omega), by rw [HE2.out]; rfl, HK.out⟩
theorem slf_any (a b c idle : Int) (p : Option Addr) (len cap : Nat) (xs : List Int) (w : World) (h : Sl w p len cap xs) :
    Calls Try.prog 8 #[.agg #[.int .i64 a, .int .i64 b, .int .i64 c], .slice p len cap, .int .i64 idle] w (Lo a b c idle xs w) := by
  cases hp : pre1 a b c idle xs
  · exact slf_no a b c idle p len cap xs w h hp
  · exact slf_yes a b c idle p len cap xs w h hp
end Go.Proofs.Ytemioipedkbkiaa
