/-
  Walks of the functions on queues. Each contract says what the function returns, and that nothing that was there has turned.
-/
import Derived.Test.YtkfjcamkgigolaaInts
import Derived.Deep.RegionHeld3
namespace Go.Proofs.Ytkfjcamkgigolaa
open Go.RowKit
set_option linter.unusedVariables false

def ffv (room : Int) (len : Nat) (zs : List Int) : Bool := decide (1 ≤ room) && decide (room ≤ 16) && decide ((len : Int) ≤ room) && allB zs
theorem ffv_iff {room : Int} {len : Nat} {zs : List Int} : ffv room len zs = true ↔ 1 ≤ room ∧ room ≤ 16 ∧ (len : Int) ≤ room ∧ allB zs = true := by simp [ffv, and_assoc]
theorem ffv_no {room : Int} {len : Nat} {zs : List Int} (h : ¬ (1 ≤ room ∧ room ≤ 16 ∧ (len : Int) ≤ room)) : ffv room len zs = false := by
  cases e : ffv room len zs
  · rfl
  · have := ffv_iff.1 e
    exact absurd ⟨this.1, this.2.1, this.2.2.1⟩ h
theorem iffv_any (room : Int) (a : Option Addr) (len cap : Nat) (zs : List Int) (w : World) (h : Sl w a len cap zs) :
    Calls Try.prog 11 #[.agg #[.int .i64 room, .slice a len cap]] w fun e w' => e = .returned (.bool (ffv room len zs)) ∧ Below w.heap.size w w' := by
  have B := (Below.refl w.heap.size w).alloc (Nat.le_refl _) (.cells #[.int .i64 room, .slice a len cap] 25)
  have hlc : (len : Int) ≤ 9223372036854775807 := by have := h.2.1; have := h.2.2.1; omega
  by_cases h1 : 1 ≤ room
  · by_cases h2 : room ≤ 16
    · by_cases h3 : (len : Int) ≤ room
      · go_enter Try.func11, Try.ntmps11
        go_wp2_with (go_at_call 29; refine (allBytes_any _ _ _ zs _ (h.alloc _)).mono ?_; rintro e w' ⟨rfl, rfl⟩)
        go_ret
        exact ⟨ret_bool (by simp [ffv, h1, h2, h3]), B⟩
      · go_enter Try.func11, Try.ntmps11
        go_wp2
        go_ret
        exact ⟨ret_bool (ffv_no (by omega)).symm, B⟩
    · go_enter Try.func11, Try.ntmps11
      go_wp2
      go_ret
      exact ⟨ret_bool (ffv_no (by omega)).symm, B⟩
  · go_enter Try.func11, Try.ntmps11
    go_wp2
    go_ret
    exact ⟨ret_bool (ffv_no (by omega)).symm, B⟩
theorem sffv_any (room : Int) (a : Option Addr) (len cap : Nat) (zs : List Int) (w : World) (h : Sl w a len cap zs) :
    Calls Try.prog 12 #[.agg #[.int .i64 room, .slice a len cap]] w fun e w' => e = .returned (.bool (ffv room len zs)) ∧ Below w.heap.size w w' := by
  have B := (Below.refl w.heap.size w).alloc (Nat.le_refl _) (.cells #[.int .i64 room, .slice a len cap] 25)
  have hlc : (len : Int) ≤ 9223372036854775807 := by have := h.2.1; have := h.2.2.1; omega
  by_cases h1 : 1 ≤ room
  · by_cases h2 : room ≤ 16
    · have d2 : decide (room ≤ 16) = true := by simp; omega
      by_cases h3 : (len : Int) ≤ room
      · go_enter Try.func12, Try.ntmps12
        go_wp2_with (first | (go_at_call 30; refine (l6In_any _ _ _ _).mono ?_; rintro e w' ⟨rfl, rfl⟩) | (go_at_call 31; refine (l4Bytes_any _ _ _ zs _ (h.alloc _)).mono ?_; rintro e w' ⟨rfl, rfl⟩))
        go_ret
        exact ⟨ret_bool (by simp [ffv, h1, h2, h3]), B⟩
      · go_enter Try.func12, Try.ntmps12
        go_wp2
        go_ret
        exact ⟨ret_bool (ffv_no (by omega)).symm, B⟩
    · have d2 : decide (room ≤ 16) = false := by simp; omega
      go_enter Try.func12, Try.ntmps12
      go_wp2
      go_ret
      exact ⟨ret_bool (ffv_no (by omega)).symm, B⟩
  · have d2 : decide (1 ≤ room) = false := by simp; omega
    go_enter Try.func12, Try.ntmps12
    go_wp2
    go_ret
    exact ⟨ret_bool (ffv_no (by omega)).symm, B⟩
theorem toFifo_any (room : Int) (a : Option Addr) (len cap : Nat) (zs : List Int) (w : World) (h : Sl w a len cap zs) (hsm : len ≤ 1048576) :
    Calls Try.prog 14 #[.agg #[.int .i64 room, .slice a len cap]] w fun e w' => ∃ b, e = .returned (.agg #[.int .i64 room, .slice (some ⟨b, 0, none⟩) len len]) ∧ w.heap.size ≤ b ∧ Bk w' b 3 (zs.map (Value.int .i64)).toArray ∧ Below w.heap.size w w' := by
  have HB := hide (((Below.refl w.heap.size w).alloc (Nat.le_refl _) (.cells #[.int .i64 room, .slice a len cap] 29)).alloc (by simp) (.cells #[.int .i64 0, .slice none 0 0] 25) |>.alloc (by simp; omega) (.cells #[.int .i64 room, .slice none 0 0] 25))
  go_enter Try.func14, Try.ntmps14
  go_wp2_with fail
  refine (toIntS_any _ _ _ zs _ (((h.alloc _).alloc _).alloc _) hsm).mono ?_
  rintro e w1 ⟨rfl, b1, z1, k1⟩
  have b2 : Bk w1 (w.heap.size + 1) 25 #[.int .i64 0, .slice none 0 0] := by
    have := ((Bk.new (w.alloc (.cells #[.int .i64 room, .slice a len cap] 29)) 25 #[.int .i64 0, .slice none 0 0]).alloc (.cells #[.int .i64 room, .slice none 0 0] 25)).belowAll k1
    simpa using this
  have b3 : Bk w1 (w.heap.size + 2) 25 #[.int .i64 room, .slice none 0 0] := by
    have := (Bk.new ((w.alloc (.cells #[.int .i64 room, .slice a len cap] 29)).alloc (.cells #[.int .i64 0, .slice none 0 0] 25)) 25 #[.int .i64 room, .slice none 0 0]).belowAll k1
    simpa using this
  have k1 := HB.out.trans (k1.mono (by simp; omega))
  simp at b1 z1
  have b3 := b3
  have q2 := b2.cell
  have q3 := b3.cell
  have f2 := b2.free
  have f3 := b3.free
  have HK := hide k1
  have HZ := hide z1
  clear k1 z1
  go_wp2
  refine bodyPost_ret (by simp [results, Try.results14, go_sem, q2]; rfl) rfl ⟨_, rfl, by omega, ?_, ?_⟩
  · exact ((b1.far (by simp <;> omega) _).far (by simp <;> omega) _).far (by simp <;> omega) _
  · exact ((HK.out.setCell (by simp <;> omega) _).setCell (by simp <;> omega) _).setCell (by simp <;> omega) _
theorem szFifo_any (room : Int) (a : Option Addr) (len cap : Nat) (left : Int) (w : World) (hl : (len : Int) ≤ 9223372036854775807) (h0 : 0 ≤ left) (h1 : left ≤ 1048576) :
    Calls Try.prog 13 #[.agg #[.int .i64 room, .slice a len cap], .int .i64 left] w fun e w' => e = .returned (.int .i64 (if left < (len : Int) then -1 else left - len)) ∧ Below w.heap.size w w' := by
  by_cases h : left < (len : Int)
  · rw [if_pos h]
    have e0 : (if left < (len : Int) then (-1 : Int) else left - len) = -1 := if_pos h
    go_enter Try.func13, Try.ntmps13
    go_wp2_with (go_at_call 32; refine (szIntS_any _ _ _ _ _ hl h0 h1).mono ?_; rintro e w' ⟨rfl, rfl⟩; rw [e0])
    go_ret
    exact ⟨rfl, (Below.refl _ _).alloc (Nat.le_refl _) _⟩
  · rw [if_neg h]
    have e0 : (if left < (len : Int) then (-1 : Int) else left - len) = left - len := if_neg h
    go_enter Try.func13, Try.ntmps13
    go_wp2_with (go_at_call 32; refine (szIntS_any _ _ _ _ _ hl h0 h1).mono ?_; rintro e w' ⟨rfl, rfl⟩; rw [e0])
    go_ret
    exact ⟨rfl, (Below.refl _ _).alloc (Nat.le_refl _) _⟩
theorem eqFifo_same (room : Int) (a b : Option Addr) (n c d : Nat) (xs : List Int) (w : World) (h : Sl w a n c xs) (k : Sl w b n d xs) :
    Calls Try.prog 15 #[.agg #[.int .i64 room, .slice a n c], .agg #[.int .i64 room, .slice b n d]] w fun e w' => e = .returned (.bool true) ∧ Below w.heap.size w w' := by
  have HB := hide (((Below.refl w.heap.size w).alloc (Nat.le_refl _) (.cells #[.int .i64 room, .slice a n c] 25)).alloc (by simp) (.cells #[.int .i64 room, .slice b n d] 25))
  go_enter Try.func15, Try.ntmps15
  go_wp2_with fail
  refine (eqIntS_any _ _ _ _ _ _ xs xs _ ((h.alloc _).alloc _) ((k.alloc _).alloc _)).mono ?_
  rintro e w1 ⟨rfl, q, rfl⟩
  simp only [decide_true]
  go_wp2
  go_ret
  exact ⟨rfl, below_drewN HB.out q⟩
theorem fnExactFifoValid_walk (room : Int) (wr : (Lit.int .i64 room).wf = true) (a : Option Addr) (len cap : Nat) (zs : List Int) (w : World) (h : IsRow .i64 w a len cap zs) :
    Calls Try.prog 4 #[.agg #[.int .i64 room, .slice a len cap]] w fun e w' => e = .returned (.bool true) ∧ Below w.heap.size w w' := by
  have hs := h.sl
  generalize zs.take len = xs at hs
  have hl : (len : Int) ≤ 9223372036854775807 := by have := hs.2.1; have := hs.2.2.1; omega
  clear h wr
  have HB := hide ((Below.refl w.heap.size w).alloc (Nat.le_refl _) (.cells #[.int .i64 room, .slice a len cap] 29))
  by_cases hbig : (1048576 : Int) < (len : Int)
  · have e0 : (if (1048576 : Int) < (len : Int) then (-1 : Int) else 1048576 - len) = -1 := if_pos hbig
    go_enter Try.func4, Try.ntmps4
    go_wp2_with fail
    refine (szFifo_any _ _ _ _ _ _ hl (by omega) (by omega)).mono ?_
    rintro e w1 ⟨rfl, k1⟩
    rw [e0]
    have K := HB.out.trans (k1.mono (by simp))
    go_wp2
    go_ret
    exact ⟨rfl, K⟩
  · have e0 : (if (1048576 : Int) < (len : Int) then (-1 : Int) else 1048576 - len) = 1048576 - len := if_neg hbig
    have hsm : len ≤ 1048576 := by omega
    have hlt : ¬ (1048576 : Int) - (len : Int) < 0 := by omega
    go_enter Try.func4, Try.ntmps4
    go_wp2_with fail
    refine (szFifo_any _ _ _ _ _ _ hl (by omega) (by omega)).mono ?_
    rintro e w1 ⟨rfl, k1⟩
    rw [e0]
    have K := hide (HB.out.trans (k1.mono (by simp)))
    have b1 := (Bk.new w 29 #[.int .i64 room, .slice a len cap]).belowAll k1
    have s1 := (hs.alloc (.cells #[.int .i64 room, .slice a len cap] 29)).below k1 (Nat.le_refl _)
    clear k1
    have q1 := b1.cell
    go_wp2_with fail
    refine (toFifo_any _ _ _ _ xs _ s1 hsm).mono ?_
    rintro e w2 ⟨c2, rfl, hc2, d2, k2⟩
    have K := hide (K.out.trans (k2.mono K.out.size))
    have b2 := b1.belowAll k2
    have s2 := s1.below k2 (Nat.le_refl _)
    have t2 := sl_new d2 s1.1 hsm
    clear k2 q1
    go_wp2_with fail
    refine (sffv_any _ _ _ _ xs _ t2).mono ?_
    rintro e w3 ⟨rfl, k3⟩
    have K := hide (K.out.trans (k3.mono K.out.size))
    have b3 := b2.belowAll k3
    have s3 := s2.below k3 (Nat.le_refl _)
    clear k3
    have q3 := b3.cell
    go_wp2_with fail
    refine (toFifo_any _ _ _ _ xs _ s3 hsm).mono ?_
    rintro e w4 ⟨c4, rfl, hc4, d4, k4⟩
    have K := hide (K.out.trans (k4.mono K.out.size))
    have b4 := b3.belowAll k4
    have s4 := s3.below k4 (Nat.le_refl _)
    have t4 := sl_new d4 s1.1 hsm
    clear k4 q3
    go_wp2_with fail
    refine (iffv_any _ _ _ _ xs _ (t4.alloc _)).mono ?_
    rintro e w5 ⟨rfl, k5⟩
    have x5 := (Bk.new w4 25 #[.int .i64 room, .slice (some ⟨c4, 0, none⟩) len len]).belowAll k5
    have b5 := (b4.alloc (.cells #[.int .i64 room, .slice (some ⟨c4, 0, none⟩) len len] 25)).belowAll k5
    have s5 := (s4.alloc (.cells #[.int .i64 room, .slice (some ⟨c4, 0, none⟩) len len] 25)).below k5 (Nat.le_refl _)
    have t5 := (t4.alloc (.cells #[.int .i64 room, .slice (some ⟨c4, 0, none⟩) len len] 25)).below k5 (Nat.le_refl _)
    have K := hide ((K.out.alloc K.out.size (.cells #[.int .i64 room, .slice (some ⟨c4, 0, none⟩) len len] 25)).trans (k5.mono (by have := K.out.size; simp; omega)))
    clear k5
    have qb := b5.cell
    have qx := x5.cell
    go_wp2
    have l5 : Below w.heap.size w w5 := K.out
    go_region_held3 (fun W => (∀ i, W.cell? ⟨w.heap.size, i, none⟩ = #[Value.int .i64 room, .slice a len cap][i]?) ∧ (∀ i, W.cell? ⟨w4.heap.size, i, none⟩ = #[Value.int .i64 room, .slice (some ⟨c4, 0, none⟩) len len][i]?) ∧ Bk W w.heap.size 29 #[.int .i64 room, .slice a len cap] ∧ Bk W w4.heap.size 25 #[.int .i64 room, .slice (some ⟨c4, 0, none⟩) len len] ∧ Sl W a len cap xs ∧ Sl W (some ⟨c4, 0, none⟩) len len xs ∧ Below w.heap.size w W)
      (first | exact ⟨b7.cell, x7.cell, b7, x7, s7, t7, l7⟩ | exact ⟨b6.cell, x6.cell, b6, x6, s6, t6, l6⟩ | exact ⟨qb, qx, b5, x5, s5, t5, l5.drew⟩)
      (first | (go_at_call 14; go_split_ands; refine (toFifo_any _ _ _ _ xs _ (by assumption) hsm).mono ?_; rintro e w6 ⟨c6, rfl, hc6, d6, k6⟩; have b6 := Bk.belowAll (t := 29) (by assumption) k6; have x6 := Bk.belowAll (t := 25) (by assumption) k6; have s6 := Sl.below (a := a) (by assumption) k6 (Nat.le_refl _); have t6 := Sl.below (a := some ⟨c4, 0, none⟩) (by assumption) k6 (Nat.le_refl _); have l6 := Below.trans (a := w) (by assumption) (k6.mono (Below.size (by assumption))); have u6 := sl_new d6 s1.1 hsm) | (go_at_call 15; go_split_ands; refine (eqFifo_same _ _ _ _ _ _ xs _ t6 u6).mono ?_; rintro e w7 ⟨rfl, k7⟩; have b7 := b6.belowAll k7; have x7 := x6.belowAll k7; have s7 := s6.below k7 (Nat.le_refl _); have t7 := t6.below k7 (Nat.le_refl _); have l7 := l6.trans (k7.mono l6.size)))
    clear qb qx
    go_wp2
    go_ret
    exact ⟨rfl, l7⟩
end Go.Proofs.Ytkfjcamkgigolaa
