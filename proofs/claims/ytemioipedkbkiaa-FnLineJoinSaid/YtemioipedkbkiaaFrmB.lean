/-
  Walks of the functions that return the bits of a frame.
-/
import Derived.Test.YtemioipedkbkiaaPop
import Derived.Test.YtemioipedkbkiaaOwn
import Derived.Laws.MakeOwn
namespace Go.Proofs.Ytemioipedkbkiaa
open Go.RowKit
set_option linter.unusedVariables false

/-- The bits of a byte, the least one first; a frame. -/
def fbits (n : Nat) (x : Int) : List Int := (List.range n).map fun i => x / 2 ^ i % 2
def frm (a b c x : Int) : List Int := 0 :: (fbits a.toNat x ++ ((if b = 0 then [] else [pb b x]) ++ List.replicate c.toNat 1))
def fok (a b c x : Int) : Bool := fv a b c && (decide (0 ≤ x) && decide (x < 2 ^ a.toNat))
theorem fb_snoc {k : Nat} {x y : Int} (h : y = x / 2 ^ k % 2) : 0 :: fbits k x ++ [y] = 0 :: fbits (k + 1) x := by
  subst h
  simp [fbits, List.range_succ]
theorem fbits_len (n : Nat) (x : Int) : (fbits n x).length = n := by simp [fbits]
theorem ihas_any (a b c x : Int) (w : World) (h5 : 5 ≤ a) (h8 : a ≤ 8) :
    Calls Try.prog 26 #[.agg #[.int .i64 a, .int .i64 b, .int .i64 c], .int .i64 x] w fun e w' => e = .returned (.bool (decide (0 ≤ x) && decide (x < 2 ^ a.toNat))) ∧ Below w.heap.size w w' := by
  have B := hide ((Below.refl w.heap.size w).alloc (Nat.le_refl _) (.cells #[.int .i64 a, .int .i64 b, .int .i64 c] 27))
  obtain rfl | rfl | rfl | rfl : a = 5 ∨ a = 6 ∨ a = 7 ∨ a = 8 := by omega
  all_goals
    go_enter Try.func26, Try.ntmps26
    go_wp2
    all_goals
      go_ret
      exact ⟨ret_bool (by simp <;> omega), B.out⟩
set_option maxHeartbeats 2000000 in
theorem ifb_yes (a b c x : Int) (w : World) (hv : fok a b c x = true) :
    Calls Try.prog 39 #[.agg #[.int .i64 a, .int .i64 b, .int .i64 c], .int .i64 x] w fun e w' => ∃ h k cap, e = .returned (.tuple #[.slice (some ⟨h, 0, none⟩) k cap, .bool true]) ∧ Own w' w.heap.size h k cap (frm a b c x) ∧ Below w.heap.size w w' := by
  have hv1 : fv a b c = true := by simp only [fok, Bool.and_eq_true] at hv; exact hv.1
  have hv2 : (decide (0 ≤ x) && decide (x < 2 ^ a.toNat)) = true := by simp only [fok, Bool.and_eq_true] at hv ⊢; exact hv.2
  have HV1 := hide hv1
  have HV2 := hide hv2
  obtain ⟨r1, r2, r3, r4, r5, r6⟩ := fv_iff.1 hv1
  have hx : 0 ≤ x ∧ x < 256 := by
    simp at hv2
    refine ⟨hv2.1, ?_⟩
    obtain rfl | rfl | rfl | rfl : a = 5 ∨ a = 6 ∨ a = 7 ∨ a = 8 := by omega
    all_goals (have := hv2.2; simp at this; omega)
  obtain ⟨x0, x1⟩ := hx
  obtain ⟨L, hL, hL0, hL1⟩ : ∃ L : Nat, flOf a b c = (L : Int) ∧ 7 ≤ L ∧ L ≤ 12 := ⟨(flOf a b c).toNat, by have := fl_bd hv1; omega, by have := fl_bd hv1; omega, by have := fl_bd hv1; omega⟩
  have HL := hide hL
  clear hv hv1 hv2 hL
  have d0 : bits .and .i64 x 1 = x % 2 := all256 (p := fun x => bits .and .i64 x 1 = x % 2) (by decide +kernel) x x0 x1
  have d1 : bits .and .i64 (x / 2) 1 = x / 2 % 2 := all256 (p := fun x => bits .and .i64 (x / 2) 1 = x / 2 % 2) (by decide +kernel) x x0 x1
  have d2 : bits .and .i64 (x / 4) 1 = x / 4 % 2 := all256 (p := fun x => bits .and .i64 (x / 4) 1 = x / 4 % 2) (by decide +kernel) x x0 x1
  have d3 : bits .and .i64 (x / 8) 1 = x / 8 % 2 := all256 (p := fun x => bits .and .i64 (x / 8) 1 = x / 8 % 2) (by decide +kernel) x x0 x1
  have d4 : bits .and .i64 (x / 16) 1 = x / 16 % 2 := all256 (p := fun x => bits .and .i64 (x / 16) 1 = x / 16 % 2) (by decide +kernel) x x0 x1
  have d5 : bits .and .i64 (x / 32) 1 = x / 32 % 2 := all256 (p := fun x => bits .and .i64 (x / 32) 1 = x / 32 % 2) (by decide +kernel) x x0 x1
  have d6 : bits .and .i64 (x / 64) 1 = x / 64 % 2 := all256 (p := fun x => bits .and .i64 (x / 64) 1 = x / 64 % 2) (by decide +kernel) x x0 x1
  have d7 : bits .and .i64 (x / 128) 1 = x / 128 % 2 := all256 (p := fun x => bits .and .i64 (x / 128) 1 = x / 128 % 2) (by decide +kernel) x x0 x1
  have B := hide ((Below.refl w.heap.size w).alloc (Nat.le_refl _) (.cells #[.int .i64 a, .int .i64 b, .int .i64 c] 27))
  have b0 := Bk.new w 27 #[.int .i64 a, .int .i64 b, .int .i64 c]
  have hmk : ∀ W : World, (Instr.makeSlice 24 (.int .i64 0) (.int .i64 (L : Int))).run Try.prog W = .ok (.slice (some ⟨W.heap.size, 0, none⟩) 0 L) (W.alloc (.cells (madeCells #[.int .i64 0] (L * 1)) 3)) := by
    intro W
    obtain ⟨i, hi, hz⟩ := Option.map_eq_some_iff.1 int_info1
    simp only [Prod.mk.injEq] at hz
    obtain ⟨hz0, hz1, hz2⟩ := hz
    have hr := run_make (P := Try.prog) W 24 3 i _ Try.underlying24 hi hz0 .i64 .i64 0 L (by omega) (by omega) (by rw [hz2]; omega) (by omega)
    simpa [hz1, Value.cells] using hr
  go_enter Try.func39, Try.ntmps39
  go_wp2_with fail
  refine (ifv_any _ _ _ _).mono ?_
  rintro e w1 ⟨rfl, k1⟩
  rw [HV1.out]
  have b1 := b0.belowAll k1
  have q1 := b1.cell
  have K := hide (B.out.trans (k1.mono (by simp)))
  clear k1
  go_wp2_with fail
  refine (ihas_any _ _ _ _ _ r1 r2).mono ?_
  rintro e w2 ⟨rfl, k2⟩
  rw [HV2.out]
  have b2 := b1.belowAll k2
  have K := hide (K.out.trans (k2.mono K.out.size))
  clear k2 q1
  have q2 := b2.cell
  go_wp2_with fail
  refine (ifl_any _ _ _ _).mono ?_
  rintro e w3 ⟨rfl, k3⟩
  rw [HL.out]
  have b3 := b2.belowAll k3
  have K := hide (K.out.trans (k3.mono K.out.size))
  clear k3 q2
  have q3 := b3.cell
  have HS := hide (show w.heap.size + 1 ≤ w3.heap.size from b3.lt)
  go_wp2_with (refine app_int rfl (.tmp 20) (.tmp 21) rfl rfl rfl (Own.alloc (Own.room (base := w.heap.size + 1) HS.out (Bk.new w3 _ _) (size_madeCells _ _) (by omega)) _) (by have := Bk.new (w3.alloc (.cells (madeCells #[.int .i64 0] (L * 1)) 3)) 3 #[.int .i64 0]; simpa using this) (by omega) (by have := HS.out; simp; omega) ?_; intro g4 cap4 w4 o4 k4; have b4 := Bk.grow ((b3.alloc (.cells (madeCells #[.int .i64 0] (L * 1)) 3)).alloc (.cells #[.int .i64 0] 3)) (by simpa using k4) (by have := HS.out; simp; omega); have KK4 := hide (((K.out.alloc K.out.size (.cells (madeCells #[.int .i64 0] (L * 1)) 3)).alloc (by have := K.out.size; simp; omega) (.cells #[.int .i64 0] 3)).trans (grown_below (by simpa using k4) (by have := HS.out; omega) (by have := HS.out; simp; omega))); have q4 := b4.cell; clear k4 q3)
  simp only [List.nil_append, Nat.zero_add] at o4
  clear hmk
  go_loopw [6, 25] (fun v i wr => ∃ k g cap : Nat, v = .slice (some ⟨g, 0, none⟩) (k + 1) cap ∧ i = .int .i64 k ∧ (k : Int) ≤ a ∧ Own wr (w.heap.size + 1) g (k + 1) cap (0 :: fbits k x) ∧ Bk wr w.heap.size 27 #[.int .i64 a, .int .i64 b, .int .i64 c] ∧ Below w.heap.size w wr) (fun _ i _ => a.toNat - (intOf i).toNat)
  case atStart => exact ⟨0, _, _, rfl, rfl, by omega, o4, b4, KK4.out⟩
  case round =>
    clear o4 b4 KK4 q4
    obtain ⟨k, g5, cap5, rfl, rfl, hka, o5, b5, K5⟩ := hrel
    have HS5 := hide (show w.heap.size + 1 ≤ wr.heap.size from b5.lt)
    by_cases hlt : (k : Int) < a
    · have hk8 : k < 8 := by omega
      have HA := hide r2
      obtain rfl | rfl | rfl | rfl | rfl | rfl | rfl | rfl : k = 0 ∨ k = 1 ∨ k = 2 ∨ k = 3 ∨ k = 4 ∨ k = 5 ∨ k = 6 ∨ k = 7 := by omega
      all_goals
        go_wp2_with (refine app_int rfl (.tmp 28) (.tmp 33) rfl rfl rfl (Own.alloc o5 _) (Bk.new wr _ _) (by omega) (by have := HS5.out; simp; omega) ?_; intro g6 cap6 w6 o6 k6; have b6 := Bk.grow (b5.alloc _) k6 (by have := o5.lt; simp; omega); have K6 := (K5.alloc K5.size _).trans (grown_below k6 (by have := o5.lt; omega) (by have := K5.size; simp; omega)); clear k6)
        go_roundw
        case rel => exact ⟨_, g6, cap6, by rfl, by go_num, by omega, by rw [fb_snoc (by first | rfl | simp)] at o6; exact o6, b6, K6⟩
        case measure => simp [intOf]; omega
    · have q5 := b5.cell
      obtain rfl : (k : Int) = a := by omega
      by_cases hb : b = 0
      · subst hb
        go_wp2
        clear q5 b5
        go_loopw [6, 47] (fun v i wr => ∃ j g cap : Nat, v = .slice (some ⟨g, 0, none⟩) ((k + 1) + j) cap ∧ i = .int .i64 j ∧ (j : Int) ≤ c ∧ Own wr (w.heap.size + 1) g ((k + 1) + j) cap ((0 :: fbits k x) ++ List.replicate j 1) ∧ Below w.heap.size w wr) (fun _ i _ => c.toNat - (intOf i).toNat)
        case atStart => exact ⟨0, _, _, rfl, rfl, by omega, by simpa using o5, K5⟩
        case round =>
          obtain ⟨j, g8, cap8, rfl, rfl, hjc, o8, K8⟩ := hrel
          by_cases hjl : (j : Int) < c
          · go_wp2_with (refine app_int rfl (.tmp 49) (.tmp 50) rfl rfl rfl (Own.alloc o8 _) (Bk.new _ _ _) (by omega) (by have := o8.lt; simp; omega) ?_; intro g9 cap9 w9 o9 k9; have K9 := (K8.alloc K8.size _).trans (grown_below k9 (by have := o8.lt; omega) (by have := K8.size; simp; omega)); clear k9)
            go_roundw
            case rel => exact ⟨j + 1, g9, cap9, by rfl, by go_num, by omega, by rw [List.replicate_succ', ← List.append_assoc]; exact o9, K9⟩
            case measure => simp [intOf]; omega
          · go_wp2
            go_ret2
            refine ⟨_, _, _, rfl, ?_, K8⟩
            have hcj : c.toNat = j := by omega
            rw [show frm (k : Int) 0 c x = (0 :: fbits k x) ++ List.replicate j 1 from by simp [frm, hcj]]
            exact o8.le_ (by omega)
      · have hb2 : (b != 0) = true := by simpa using hb
        go_wp2_with fail
        refine (ipar_any _ _ _ _ _ x0 x1).mono ?_
        rintro e w6 ⟨rfl, k6⟩
        have o6 := o5.belowAll k6
        have b6 := b5.belowAll k6
        have K6 := K5.trans (k6.mono K5.size)
        have HS6 := hide (show w.heap.size + 1 ≤ w6.heap.size from b6.lt)
        clear k6 q5
        have q6 := b6.cell
        go_wp2_with (refine app_int rfl (.tmp 39) (.tmp 43) rfl rfl rfl (Own.alloc o6 _) (Bk.new w6 _ _) (by omega) (by have := HS6.out; simp; omega) ?_; intro g7 cap7 w7 o7 k7; have b7 := Bk.grow (b6.alloc _) k7 (by have := o6.lt; simp; omega); have K7 := (K6.alloc K6.size _).trans (grown_below k7 (by have := o6.lt; omega) (by have := K6.size; simp; omega)); clear k7 q6; have q7 := b7.cell)
        clear q7 b7
        go_loopw [6, 47] (fun v i wr => ∃ j g cap : Nat, v = .slice (some ⟨g, 0, none⟩) ((k + 1 + 1) + j) cap ∧ i = .int .i64 j ∧ (j : Int) ≤ c ∧ Own wr (w.heap.size + 1) g ((k + 1 + 1) + j) cap ((0 :: fbits k x ++ [pb b x]) ++ List.replicate j 1) ∧ Below w.heap.size w wr) (fun _ i _ => c.toNat - (intOf i).toNat)
        case atStart => exact ⟨0, _, _, rfl, rfl, by omega, by simpa using o7, K7⟩
        case round =>
          obtain ⟨j, g8, cap8, rfl, rfl, hjc, o8, K8⟩ := hrel
          by_cases hjl : (j : Int) < c
          · go_wp2_with (refine app_int rfl (.tmp 49) (.tmp 50) rfl rfl rfl (Own.alloc o8 _) (Bk.new _ _ _) (by omega) (by have := o8.lt; simp; omega) ?_; intro g9 cap9 w9 o9 k9; have K9 := (K8.alloc K8.size _).trans (grown_below k9 (by have := o8.lt; omega) (by have := K8.size; simp; omega)); clear k9)
            go_roundw
            case rel => exact ⟨j + 1, g9, cap9, by rfl, by go_num, by omega, by rw [List.replicate_succ', ← List.append_assoc]; exact o9, K9⟩
            case measure => simp [intOf]; omega
          · go_wp2
            go_ret2
            refine ⟨_, _, _, rfl, ?_, K8⟩
            have hcj : c.toNat = j := by omega
            have e : frm k b c x = (0 :: fbits k x ++ [pb b x]) ++ List.replicate j 1 := by simp [frm, hcj, hb]
            rw [e]
            exact o8.le_ (by omega)
theorem ifb_no (a b c x : Int) (w : World) (hv : fok a b c x = false) :
    Calls Try.prog 39 #[.agg #[.int .i64 a, .int .i64 b, .int .i64 c], .int .i64 x] w fun e w' => e = .returned (.tuple #[.slice none 0 0, .bool false]) ∧ Below w.heap.size w w' := by
  have B := hide ((Below.refl w.heap.size w).alloc (Nat.le_refl _) (.cells #[.int .i64 a, .int .i64 b, .int .i64 c] 27))
  have b0 := Bk.new w 27 #[.int .i64 a, .int .i64 b, .int .i64 c]
  cases hv1 : fv a b c
  · have HV1 := hide hv1
    clear hv hv1
    go_enter Try.func39, Try.ntmps39
    go_wp2_with fail
    refine (ifv_any _ _ _ _).mono ?_
    rintro e w1 ⟨rfl, k1⟩
    rw [HV1.out]
    have K := hide (B.out.trans (k1.mono (by simp)))
    clear k1
    go_wp2
    go_ret2
    exact ⟨rfl, K.out⟩
  · have HV1 := hide hv1
    have HV2 := hide (show (decide (0 ≤ x) && decide (x < 2 ^ a.toNat)) = false by simpa [fok, hv1] using hv)
    obtain ⟨r1, r2, r3, r4, r5, r6⟩ := fv_iff.1 hv1
    clear hv hv1
    go_enter Try.func39, Try.ntmps39
    go_wp2_with fail
    refine (ifv_any _ _ _ _).mono ?_
    rintro e w1 ⟨rfl, k1⟩
    rw [HV1.out]
    have b1 := b0.belowAll k1
    have q1 := b1.cell
    have K := hide (B.out.trans (k1.mono (by simp)))
    clear k1
    go_wp2_with fail
    refine (ihas_any _ _ _ _ _ r1 r2).mono ?_
    rintro e w2 ⟨rfl, k2⟩
    rw [HV2.out]
    have K := hide (K.out.trans (k2.mono K.out.size))
    clear k2 q1
    go_wp2
    go_ret2
    exact ⟨rfl, K.out⟩
end Go.Proofs.Ytemioipedkbkiaa
