/-
  Walks of the reference's functions that return the bits of a frame.
-/
import Derived.Test.YtemioipedkbkiaaFrmB
namespace Go.Proofs.Ytemioipedkbkiaa
open Go.RowKit
set_option linter.unusedVariables false

theorem pow_any (n : Int) (w : World) (h0 : 0 ≤ n) (h1 : n ≤ 8) :
    Calls Try.prog 36 #[.int .i64 n] w fun e w' => e = .returned (.int .i64 (2 ^ n.toNat)) ∧ w = w' := by
  obtain rfl | rfl | rfl | rfl | rfl | rfl | rfl | rfl | rfl : n = 0 ∨ n = 1 ∨ n = 2 ∨ n = 3 ∨ n = 4 ∨ n = 5 ∨ n = 6 ∨ n = 7 ∨ n = 8 := by omega
  all_goals
    go_enter Try.func36, Try.ntmps36
    go_wp2
    refine wp_loop_rounds 9 ?_
    repeat any_goals (rw [rounds_succ]; go_wp2)
    go_ret
    exact ⟨ret_int (by rfl), rfl⟩
theorem sbyte_any (a b c x : Int) (w : World) (h5 : 5 ≤ a) (h8 : a ≤ 8) :
    Calls Try.prog 23 #[.agg #[.int .i64 a, .int .i64 b, .int .i64 c], .int .i64 x] w fun e w' => e = .returned (.bool (decide (0 ≤ x) && decide (x < 2 ^ a.toNat))) ∧ Below w.heap.size w w' := by
  have B := hide ((Below.refl w.heap.size w).alloc (Nat.le_refl _) (.cells #[.int .i64 a, .int .i64 b, .int .i64 c] 27))
  have p5 : (2 : Int) ^ (5 : Int).toNat = 32 := rfl
  have p6 : (2 : Int) ^ (6 : Int).toNat = 64 := rfl
  have p7 : (2 : Int) ^ (7 : Int).toNat = 128 := rfl
  have p8 : (2 : Int) ^ (8 : Int).toNat = 256 := rfl
  obtain rfl | rfl | rfl | rfl : a = 5 ∨ a = 6 ∨ a = 7 ∨ a = 8 := by omega
  all_goals
    go_enter Try.func23, Try.ntmps23
    go_wp2_with fail
    refine (pow_any _ _ (by omega) (by omega)).mono ?_
    rintro e w1 ⟨rfl, rfl⟩
    go_wp2_with fail
    refine (l6In_any _ _ _ _).mono ?_
    rintro e w1 ⟨rfl, rfl⟩
    go_wp2
    go_ret
    exact ⟨ret_bool (by simp only [p5, p6, p7, p8]; rw [Bool.eq_iff_iff]; simp <;> omega), B.out⟩
theorem half_pow (x : Int) (k : Nat) : x / 2 ^ k / 2 = x / 2 ^ (k + 1) := by
  rw [Int.pow_succ, Int.ediv_ediv_of_nonneg (Int.le_of_lt (Int.pow_pos (by omega)))]
set_option maxHeartbeats 2000000 in
theorem sbits_any (a b c x : Int) (w : World) (hv : fv a b c = true) (x0 : 0 ≤ x) (x1 : x < 256) :
    Calls Try.prog 24 #[.agg #[.int .i64 a, .int .i64 b, .int .i64 c], .int .i64 x] w fun e w' => ∃ h k cap, e = .returned (.slice (some ⟨h, 0, none⟩) k cap) ∧ Own w' w.heap.size h k cap (frm a b c x) ∧ Below w.heap.size w w' := by
  obtain ⟨r1, r2, r3, r4, r5, r6⟩ := fv_iff.1 hv
  clear hv
  have B := hide ((Below.refl w.heap.size w).alloc (Nat.le_refl _) (.cells #[.int .i64 a, .int .i64 b, .int .i64 c] 27))
  have b0 := Bk.new w 27 #[.int .i64 a, .int .i64 b, .int .i64 c]
  go_enter Try.func24, Try.ntmps24
  go_wp2_with fail
  go_loopw [5, 6, 7] (fun v u i wr => ∃ (k g cap : Nat) (X : Int), v = .slice (some ⟨g, 0, none⟩) (k + 1) cap ∧ u = .int .i64 X ∧ i = .int .i64 k ∧ (k : Int) ≤ a ∧ X = x / 2 ^ k ∧ 0 ≤ X ∧ X < 256 ∧ Own wr (w.heap.size + 1) g (k + 1) cap (0 :: fbits k x) ∧ Bk wr w.heap.size 27 #[.int .i64 a, .int .i64 b, .int .i64 c] ∧ Below w.heap.size w wr) (fun _ _ i _ => a.toNat - (intOf i).toNat)
  case atStart => exact ⟨0, _, _, _, rfl, rfl, rfl, by omega, by simp, x0, x1, Own.one (h := w.heap.size + 1) (Nat.le_refl _) (by have := Bk.new (w.alloc (.cells #[.int .i64 a, .int .i64 b, .int .i64 c] 27)) 3 #[.int .i64 0]; simpa using this), b0.alloc _, B.out.alloc B.out.size _⟩
  case round =>
    obtain ⟨k, g5, cap5, X, rfl, rfl, rfl, hka, hX, X0, X1, o5, b5, K5⟩ := hrel
    have HS5 := hide (show w.heap.size + 1 ≤ wr.heap.size from b5.lt)
    have HX := hide hX
    clear hX
    have q5 := b5.cell
    by_cases hlt : (k : Int) < a
    · go_wp2_with (refine app_int rfl (.tmp 17) (.tmp 20) rfl rfl rfl (Own.alloc o5 _) (Bk.new wr _ _) (by omega) (by have := HS5.out; simp; omega) ?_; intro g6 cap6 w6 o6 k6; have b6 := Bk.grow (b5.alloc _) k6 (by have := o5.lt; simp; omega); have K6 := (K5.alloc K5.size _).trans (grown_below k6 (by have := o5.lt; omega) (by have := K5.size; simp; omega)); clear k6)
      go_roundw
      case rel => exact ⟨k + 1, g6, cap6, X / 2, by rfl, by go_num, by go_num, by omega, by rw [HX.out, half_pow], by omega, by omega, by rw [fb_snoc (by rw [HX.out])] at o6; exact o6, b6, K6⟩
      case measure => simp [intOf]; omega
    · obtain rfl : (k : Int) = a := by omega
      by_cases hb : b = 0
      · subst hb
        go_wp2
        go_loopw [5, 8] (fun v i wr => ∃ j g cap : Nat, v = .slice (some ⟨g, 0, none⟩) ((k + 1) + j) cap ∧ i = .int .i64 j ∧ (j : Int) ≤ c ∧ Own wr (w.heap.size + 1) g ((k + 1) + j) cap ((0 :: fbits k x) ++ List.replicate j 1) ∧ Bk wr w.heap.size 27 #[.int .i64 k, .int .i64 0, .int .i64 c] ∧ Below w.heap.size w wr) (fun _ i _ => c.toNat - (intOf i).toNat)
        case atStart => exact ⟨0, _, _, rfl, rfl, by omega, by simpa using o5, b5, K5⟩
        case round =>
          clear q5 b5
          obtain ⟨j, g8, cap8, rfl, rfl, hjc, o8, b8, K8⟩ := hrel
          have q8 := b8.cell
          have HS8 := hide b8.lt
          by_cases hjl : (j : Int) < c
          · go_wp2_with (refine app_int rfl (.tmp 39) (.tmp 40) rfl rfl rfl (Own.alloc o8 _) (Bk.new _ _ _) (by omega) (by have := HS8.out; simp; omega) ?_; intro g9 cap9 w9 o9 k9; have b9 := Bk.grow (b8.alloc _) k9 (by have := o8.lt; simp; omega); have K9 := (K8.alloc K8.size _).trans (grown_below k9 (by have := o8.lt; omega) (by have := K8.size; simp; omega)); clear k9)
            go_roundw
            case rel => exact ⟨j + 1, g9, cap9, by rfl, by go_num, by omega, by rw [List.replicate_succ', ← List.append_assoc]; exact o9, b9, K9⟩
            case measure => simp [intOf]; omega
          · go_wp2
            go_ret
            refine ⟨_, _, _, rfl, ?_, K8⟩
            have hcj : c.toNat = j := by omega
            rw [show frm (k : Int) 0 c x = (0 :: fbits k x) ++ List.replicate j 1 from by simp [frm, hcj]]
            exact o8.le_ (by omega)
      · have hb2 : (b != 0) = true := by simpa using hb
        go_wp2_with fail
        refine (spar_any _ _ _ _ _ x0 x1).mono ?_
        rintro e w6 ⟨rfl, k6⟩
        have o6 := o5.belowAll k6
        have b6 := b5.belowAll k6
        have K6 := K5.trans (k6.mono K5.size)
        have HS6 := hide (show w.heap.size + 1 ≤ w6.heap.size from b6.lt)
        clear k6
        go_wp2_with (refine app_int rfl (.tmp 27) (.tmp 31) rfl rfl rfl (Own.alloc o6 _) (Bk.new w6 _ _) (by omega) (by have := HS6.out; simp; omega) ?_; intro g7 cap7 w7 o7 k7; have b7 := Bk.grow (b6.alloc _) k7 (by have := o6.lt; simp; omega); have K7 := (K6.alloc K6.size _).trans (grown_below k7 (by have := o6.lt; omega) (by have := K6.size; simp; omega)); clear k7; have q7 := b7.cell)
        go_loopw [5, 8] (fun v i wr => ∃ j g cap : Nat, v = .slice (some ⟨g, 0, none⟩) ((k + 1 + 1) + j) cap ∧ i = .int .i64 j ∧ (j : Int) ≤ c ∧ Own wr (w.heap.size + 1) g ((k + 1 + 1) + j) cap ((0 :: fbits k x ++ [pb b x]) ++ List.replicate j 1) ∧ Bk wr w.heap.size 27 #[.int .i64 k, .int .i64 b, .int .i64 c] ∧ Below w.heap.size w wr) (fun _ i _ => c.toNat - (intOf i).toNat)
        case atStart => exact ⟨0, _, _, rfl, rfl, by omega, by simpa using o7, b7, K7⟩
        case round =>
          clear q5 q7 b7
          obtain ⟨j, g8, cap8, rfl, rfl, hjc, o8, b8, K8⟩ := hrel
          have q8 := b8.cell
          have HS8 := hide b8.lt
          by_cases hjl : (j : Int) < c
          · go_wp2_with (refine app_int rfl (.tmp 39) (.tmp 40) rfl rfl rfl (Own.alloc o8 _) (Bk.new _ _ _) (by omega) (by have := HS8.out; simp; omega) ?_; intro g9 cap9 w9 o9 k9; have b9 := Bk.grow (b8.alloc _) k9 (by have := o8.lt; simp; omega); have K9 := (K8.alloc K8.size _).trans (grown_below k9 (by have := o8.lt; omega) (by have := K8.size; simp; omega)); clear k9)
            go_roundw
            case rel => exact ⟨j + 1, g9, cap9, by rfl, by go_num, by omega, by rw [List.replicate_succ', ← List.append_assoc]; exact o9, b9, K9⟩
            case measure => simp [intOf]; omega
          · go_wp2
            go_ret
            refine ⟨_, _, _, rfl, ?_, K8⟩
            have hcj : c.toNat = j := by omega
            rw [show frm (k : Int) b c x = (0 :: fbits k x ++ [pb b x]) ++ List.replicate j 1 from by simp [frm, hcj, hb]]
            exact o8.le_ (by omega)
end Go.Proofs.Ytemioipedkbkiaa
