/-
  The walks of the exact laws on senders: each law returns true and turns nothing that was there.
-/
import Derived.Test.YtkfjcamkgigolaaSendB
namespace Go.Proofs.Ytkfjcamkgigolaa
open Go.RowKit
set_option linter.unusedVariables false

set_option maxHeartbeats 1000000 in
theorem toSender_any (room : Int) (a : Option Addr) (len cap : Nat) (zs : List Int) (shift left : Int) (w : World) (h : Sl w a len cap zs) (hsm : len ≤ 1048576) :
    Calls Try.prog 20 #[.agg (sndV room a len cap shift left)] w fun e w' => ∃ b, e = .returned (.agg (sndV room (some ⟨b, 0, none⟩) len len shift left)) ∧ w.heap.size ≤ b ∧ Bk w' b 3 (zs.map (Value.int .i64)).toArray ∧ Below w.heap.size w w' := by
  have HB := hide (((Below.refl w.heap.size w).alloc (Nat.le_refl _) (.cells (sndV room a len cap shift left) 38)).alloc (by simp) (.cells #[.int .i64 0, .slice none 0 0, .int .i64 0, .int .i64 0] 35) |>.alloc (by simp; omega) (.cells #[.int .i64 room, .slice none 0 0, .int .i64 0, .int .i64 0] 35))
  go_enter Try.func20, Try.ntmps20
  go_wp2_with fail
  refine (toIntS_any _ _ _ zs _ (((h.alloc _).alloc _).alloc _) hsm).mono ?_
  rintro e w1 ⟨rfl, b1, z1, k1⟩
  have b0 : Bk w1 w.heap.size 38 (sndV room a len cap shift left) := by
    have := (((Bk.new w 38 (sndV room a len cap shift left)).alloc (.cells #[.int .i64 0, .slice none 0 0, .int .i64 0, .int .i64 0] 35)).alloc (.cells #[.int .i64 room, .slice none 0 0, .int .i64 0, .int .i64 0] 35)).belowAll k1
    simpa using this
  have b2 : Bk w1 (w.heap.size + 1) 35 #[.int .i64 0, .slice none 0 0, .int .i64 0, .int .i64 0] := by
    have := ((Bk.new (w.alloc (.cells (sndV room a len cap shift left) 38)) 35 #[.int .i64 0, .slice none 0 0, .int .i64 0, .int .i64 0]).alloc (.cells #[.int .i64 room, .slice none 0 0, .int .i64 0, .int .i64 0] 35)).belowAll k1
    simpa using this
  have b3 : Bk w1 (w.heap.size + 2) 35 #[.int .i64 room, .slice none 0 0, .int .i64 0, .int .i64 0] := by
    have := (Bk.new ((w.alloc (.cells (sndV room a len cap shift left) 38)).alloc (.cells #[.int .i64 0, .slice none 0 0, .int .i64 0, .int .i64 0] 35)) 35 #[.int .i64 room, .slice none 0 0, .int .i64 0, .int .i64 0]).belowAll k1
    simpa using this
  have k1 := HB.out.trans (k1.mono (by simp; omega))
  simp at b1 z1
  have q0 := b0.cell
  have q2 := b2.cell
  have q3 := b3.cell
  have f2 := b2.free
  have f3 := b3.free
  have HK := hide k1
  have HZ := hide z1
  clear k1 z1
  go_wp2
  refine bodyPost_ret (by simp [results, Try.results20, go_sem, q2]; rfl) rfl ⟨_, rfl, by omega, ?_, ?_⟩
  · repeat refine Bk.far ?_ (by simp <;> omega) _
    exact b1
  · repeat refine Below.setCell ?_ (by simp <;> omega) _
    exact HK.out
theorem szSender_any (room : Int) (a : Option Addr) (len cap : Nat) (shift left x : Int) (w : World) (hl : (len : Int) ≤ 9223372036854775807) (h0 : 0 ≤ x) (h1 : x ≤ 1048576) :
    Calls Try.prog 19 #[.agg (sndV room a len cap shift left), .int .i64 x] w fun e w' => e = .returned (.int .i64 (if x < (len : Int) then -1 else x - len)) ∧ Below w.heap.size w w' := by
  by_cases h : x < (len : Int)
  · rw [if_pos h]
    have e0 : (if x < (len : Int) then (-1 : Int) else x - len) = -1 := if_pos h
    go_enter Try.func19, Try.ntmps19
    go_wp2_with (go_at_call 32; refine (szIntS_any _ _ _ _ _ hl h0 h1).mono ?_; rintro e w' ⟨rfl, rfl⟩; rw [e0])
    go_ret
    exact ⟨rfl, (Below.refl _ _).alloc (Nat.le_refl _) _⟩
  · rw [if_neg h]
    have e0 : (if x < (len : Int) then (-1 : Int) else x - len) = x - len := if_neg h
    go_enter Try.func19, Try.ntmps19
    go_wp2_with (go_at_call 32; refine (szIntS_any _ _ _ _ _ hl h0 h1).mono ?_; rintro e w' ⟨rfl, rfl⟩; rw [e0])
    go_ret
    exact ⟨rfl, (Below.refl _ _).alloc (Nat.le_refl _) _⟩
theorem eqSender_same (room : Int) (a b : Option Addr) (n c d : Nat) (xs : List Int) (shift left : Int) (w : World) (h : Sl w a n c xs) (k : Sl w b n d xs) :
    Calls Try.prog 21 #[.agg (sndV room a n c shift left), .agg (sndV room b n d shift left)] w fun e w' => e = .returned (.bool true) ∧ Below w.heap.size w w' := by
  have HB := hide (((Below.refl w.heap.size w).alloc (Nat.le_refl _) (.cells (sndV room a n c shift left) 35)).alloc (by simp) (.cells (sndV room b n d shift left) 35))
  go_enter Try.func21, Try.ntmps21
  go_wp2_with fail
  refine (eqIntS_any _ _ _ _ _ _ xs xs _ ((h.alloc _).alloc _) ((k.alloc _).alloc _)).mono ?_
  rintro e w1 ⟨rfl, q, rfl⟩
  simp only [decide_true]
  go_wp2
  go_ret
  exact ⟨rfl, below_drewN HB.out q⟩
theorem fnExactSendValid_walk (room : Int) (wr : (Lit.int .i64 room).wf = true) (a : Option Addr) (len cap : Nat) (zs : List Int) (shift : Int) (ws : (Lit.int .i64 shift).wf = true) (left : Int) (wl : (Lit.int .i64 left).wf = true) (w : World) (h : IsRow .i64 w a len cap zs) :
    Calls Try.prog 6 #[.agg (sndV room a len cap shift left)] w fun e w' => e = .returned (.bool true) ∧ Below w.heap.size w w' := by
  have hs := h.sl
  generalize zs.take len = xs at hs
  have hl : (len : Int) ≤ 9223372036854775807 := by have := hs.2.1; have := hs.2.2.1; omega
  clear h wr ws wl
  have HB := hide ((Below.refl w.heap.size w).alloc (Nat.le_refl _) (.cells (sndV room a len cap shift left) 38))
  by_cases hbig : (1048576 : Int) < (len : Int)
  · have e0 : (if (1048576 : Int) < (len : Int) then (-1 : Int) else 1048576 - len) = -1 := if_pos hbig
    go_enter Try.func6, Try.ntmps6
    go_wp2_with fail
    refine (szSender_any _ _ _ _ _ _ _ _ hl (by omega) (by omega)).mono ?_
    rintro e w1 ⟨rfl, k1⟩
    rw [e0]
    have K := HB.out.trans (k1.mono (by simp))
    go_wp2
    go_ret
    exact ⟨rfl, K⟩
  · have e0 : (if (1048576 : Int) < (len : Int) then (-1 : Int) else 1048576 - len) = 1048576 - len := if_neg hbig
    have hsm : len ≤ 1048576 := by omega
    have hlt : ¬ (1048576 : Int) - (len : Int) < 0 := by omega
    go_enter Try.func6, Try.ntmps6
    go_wp2_with fail
    refine (szSender_any _ _ _ _ _ _ _ _ hl (by omega) (by omega)).mono ?_
    rintro e w1 ⟨rfl, k1⟩
    rw [e0]
    have K := hide (HB.out.trans (k1.mono (by simp)))
    have b1 := (Bk.new w 38 (sndV room a len cap shift left)).belowAll k1
    have s1 := (hs.alloc (.cells (sndV room a len cap shift left) 38)).below k1 (Nat.le_refl _)
    clear k1
    have q1 := b1.cell
    go_wp2_with fail
    refine (toSender_any _ _ _ _ xs _ _ _ s1 hsm).mono ?_
    rintro e w2 ⟨c2, rfl, hc2, d2, k2⟩
    have K := hide (K.out.trans (k2.mono K.out.size))
    have b2 := b1.belowAll k2
    have s2 := s1.below k2 (Nat.le_refl _)
    have t2 := sl_new d2 s1.1 hsm
    clear k2 q1
    go_wp2_with fail
    refine (ssv_any _ _ _ _ xs _ _ _ t2).mono ?_
    rintro e w3 ⟨rfl, k3⟩
    have K := hide (K.out.trans (k3.mono K.out.size))
    have b3 := b2.belowAll k3
    have s3 := s2.below k3 (Nat.le_refl _)
    clear k3
    have q3 := b3.cell
    go_wp2_with fail
    refine (toSender_any _ _ _ _ xs _ _ _ s3 hsm).mono ?_
    rintro e w4 ⟨c4, rfl, hc4, d4, k4⟩
    have K := hide (K.out.trans (k4.mono K.out.size))
    have b4 := b3.belowAll k4
    have s4 := s3.below k4 (Nat.le_refl _)
    have t4 := sl_new d4 s1.1 hsm
    clear k4 q3
    go_wp2_with fail
    refine (isv_any _ _ _ _ xs _ _ _ (t4.alloc _)).mono ?_
    rintro e w5 ⟨rfl, k5⟩
    have x5 := (Bk.new w4 35 (sndV room (some ⟨c4, 0, none⟩) len len shift left)).belowAll k5
    have b5 := (b4.alloc (.cells (sndV room (some ⟨c4, 0, none⟩) len len shift left) 35)).belowAll k5
    have s5 := (s4.alloc (.cells (sndV room (some ⟨c4, 0, none⟩) len len shift left) 35)).below k5 (Nat.le_refl _)
    have t5 := (t4.alloc (.cells (sndV room (some ⟨c4, 0, none⟩) len len shift left) 35)).below k5 (Nat.le_refl _)
    have K := hide ((K.out.alloc K.out.size (.cells (sndV room (some ⟨c4, 0, none⟩) len len shift left) 35)).trans (k5.mono (by have := K.out.size; simp; omega)))
    clear k5
    have qb := b5.cell
    have qx := x5.cell
    go_wp2
    have l5 : Below w.heap.size w w5 := K.out
    go_region_held3 (fun W => (∀ i, W.cell? ⟨w.heap.size, i, none⟩ = (sndV room a len cap shift left)[i]?) ∧ (∀ i, W.cell? ⟨w4.heap.size, i, none⟩ = (sndV room (some ⟨c4, 0, none⟩) len len shift left)[i]?) ∧ Bk W w.heap.size 38 (sndV room a len cap shift left) ∧ Bk W w4.heap.size 35 (sndV room (some ⟨c4, 0, none⟩) len len shift left) ∧ Sl W a len cap xs ∧ Sl W (some ⟨c4, 0, none⟩) len len xs ∧ Below w.heap.size w W)
      (first | exact ⟨b7.cell, x7.cell, b7, x7, s7, t7, l7⟩ | exact ⟨b6.cell, x6.cell, b6, x6, s6, t6, l6⟩ | exact ⟨qb, qx, b5, x5, s5, t5, l5.drew⟩)
      (first | (go_at_call 20; go_split_ands; refine (toSender_any _ _ _ _ xs _ _ _ (by assumption) hsm).mono ?_; rintro e w6 ⟨c6, rfl, hc6, d6, k6⟩; have b6 := Bk.belowAll (t := 38) (by assumption) k6; have x6 := Bk.belowAll (t := 35) (by assumption) k6; have s6 := Sl.below (a := a) (by assumption) k6 (Nat.le_refl _); have t6 := Sl.below (a := some ⟨c4, 0, none⟩) (by assumption) k6 (Nat.le_refl _); have l6 := Below.trans (a := w) (by assumption) (k6.mono (Below.size (by assumption))); have u6 := sl_new d6 s1.1 hsm) | (go_at_call 21; go_split_ands; refine (eqSender_same _ _ _ _ _ _ xs _ _ _ t6 u6).mono ?_; rintro e w7 ⟨rfl, k7⟩; have b7 := b6.belowAll k7; have x7 := x6.belowAll k7; have s7 := s6.below k7 (Nat.le_refl _); have t7 := t6.below k7 (Nat.le_refl _); have l7 := l6.trans (k7.mono l6.size)))
    clear qb qx
    go_wp2
    go_ret
    exact ⟨rfl, l7⟩
theorem fnExactSendStatus_walk (room : Int) (wr : (Lit.int .i64 room).wf = true) (a : Option Addr) (len cap : Nat) (zs : List Int) (shift : Int) (ws : (Lit.int .i64 shift).wf = true) (left : Int) (wl : (Lit.int .i64 left).wf = true) (w : World) (h : IsRow .i64 w a len cap zs) :
    Calls Try.prog 9 #[.agg (sndV room a len cap shift left)] w fun e w' => e = .returned (.bool true) ∧ Below w.heap.size w w' := by
  have hs := h.sl
  generalize zs.take len = xs at hs
  have hl : (len : Int) ≤ 9223372036854775807 := by have := hs.2.1; have := hs.2.2.1; omega
  clear h wr ws wl
  have HB := hide ((Below.refl w.heap.size w).alloc (Nat.le_refl _) (.cells (sndV room a len cap shift left) 38))
  by_cases hbig : (1048576 : Int) < (len : Int)
  · have e0 : (if (1048576 : Int) < (len : Int) then (-1 : Int) else 1048576 - len) = -1 := if_pos hbig
    go_enter Try.func9, Try.ntmps9
    go_wp2_with fail
    refine (szSender_any _ _ _ _ _ _ _ _ hl (by omega) (by omega)).mono ?_
    rintro e w1 ⟨rfl, k1⟩
    rw [e0]
    have K := HB.out.trans (k1.mono (by simp))
    go_wp2
    go_ret
    exact ⟨rfl, K⟩
  · have e0 : (if (1048576 : Int) < (len : Int) then (-1 : Int) else 1048576 - len) = 1048576 - len := if_neg hbig
    have hsm : len ≤ 1048576 := by omega
    have hlt : ¬ (1048576 : Int) - (len : Int) < 0 := by omega
    go_enter Try.func9, Try.ntmps9
    go_wp2_with fail
    refine (szSender_any _ _ _ _ _ _ _ _ hl (by omega) (by omega)).mono ?_
    rintro e w1 ⟨rfl, k1⟩
    rw [e0]
    have K := hide (HB.out.trans (k1.mono (by simp)))
    have b1 := (Bk.new w 38 (sndV room a len cap shift left)).belowAll k1
    have s1 := (hs.alloc (.cells (sndV room a len cap shift left) 38)).below k1 (Nat.le_refl _)
    clear k1
    have q1 := b1.cell
    go_wp2_with fail
    refine (toSender_any _ _ _ _ xs _ _ _ s1 hsm).mono ?_
    rintro e w2 ⟨c2, rfl, hc2, d2, k2⟩
    have K := hide (K.out.trans (k2.mono K.out.size))
    have b2 := b1.belowAll k2
    have s2 := s1.below k2 (Nat.le_refl _)
    have t2 := sl_new d2 s1.1 hsm
    clear k2 q1
    go_wp2_with fail
    refine (sst_any _ _ _ _ xs _ _ _ t2).mono ?_
    rintro e w3 ⟨rfl, k3⟩
    have K := hide (K.out.trans (k3.mono K.out.size))
    have b3 := b2.belowAll k3
    have s3 := s2.below k3 (Nat.le_refl _)
    clear k3
    have q3 := b3.cell
    go_wp2_with fail
    refine (toSender_any _ _ _ _ xs _ _ _ s3 hsm).mono ?_
    rintro e w4 ⟨c4, rfl, hc4, d4, k4⟩
    have K := hide (K.out.trans (k4.mono K.out.size))
    have b4 := b3.belowAll k4
    have s4 := s3.below k4 (Nat.le_refl _)
    have t4 := sl_new d4 s1.1 hsm
    clear k4 q3
    go_wp2_with fail
    refine (ist_any _ _ _ _ xs _ _ _ (t4.alloc _)).mono ?_
    rintro e w5 ⟨rfl, k5⟩
    have x5 := (Bk.new w4 35 (sndV room (some ⟨c4, 0, none⟩) len len shift left)).belowAll k5
    have b5 := (b4.alloc (.cells (sndV room (some ⟨c4, 0, none⟩) len len shift left) 35)).belowAll k5
    have s5 := (s4.alloc (.cells (sndV room (some ⟨c4, 0, none⟩) len len shift left) 35)).below k5 (Nat.le_refl _)
    have t5 := (t4.alloc (.cells (sndV room (some ⟨c4, 0, none⟩) len len shift left) 35)).below k5 (Nat.le_refl _)
    have K := hide ((K.out.alloc K.out.size (.cells (sndV room (some ⟨c4, 0, none⟩) len len shift left) 35)).trans (k5.mono (by have := K.out.size; simp; omega)))
    clear k5
    have qb := b5.cell
    have qx := x5.cell
    go_wp2
    have l5 : Below w.heap.size w w5 := K.out
    go_region_held3 (fun W => (∀ i, W.cell? ⟨w.heap.size, i, none⟩ = (sndV room a len cap shift left)[i]?) ∧ (∀ i, W.cell? ⟨w4.heap.size, i, none⟩ = (sndV room (some ⟨c4, 0, none⟩) len len shift left)[i]?) ∧ Bk W w.heap.size 38 (sndV room a len cap shift left) ∧ Bk W w4.heap.size 35 (sndV room (some ⟨c4, 0, none⟩) len len shift left) ∧ Sl W a len cap xs ∧ Sl W (some ⟨c4, 0, none⟩) len len xs ∧ Below w.heap.size w W)
      (first | exact ⟨b7.cell, x7.cell, b7, x7, s7, t7, l7⟩ | exact ⟨b6.cell, x6.cell, b6, x6, s6, t6, l6⟩ | exact ⟨qb, qx, b5, x5, s5, t5, l5.drew⟩)
      (first | (go_at_call 20; go_split_ands; refine (toSender_any _ _ _ _ xs _ _ _ (by assumption) hsm).mono ?_; rintro e w6 ⟨c6, rfl, hc6, d6, k6⟩; have b6 := Bk.belowAll (t := 38) (by assumption) k6; have x6 := Bk.belowAll (t := 35) (by assumption) k6; have s6 := Sl.below (a := a) (by assumption) k6 (Nat.le_refl _); have t6 := Sl.below (a := some ⟨c4, 0, none⟩) (by assumption) k6 (Nat.le_refl _); have l6 := Below.trans (a := w) (by assumption) (k6.mono (Below.size (by assumption))); have u6 := sl_new d6 s1.1 hsm) | (go_at_call 21; go_split_ands; refine (eqSender_same _ _ _ _ _ _ xs _ _ _ t6 u6).mono ?_; rintro e w7 ⟨rfl, k7⟩; have b7 := b6.belowAll k7; have x7 := x6.belowAll k7; have s7 := s6.below k7 (Nat.le_refl _); have t7 := t6.below k7 (Nat.le_refl _); have l7 := l6.trans (k7.mono l6.size)))
    clear qb qx
    go_wp2
    go_ret
    exact ⟨rfl, l7⟩
theorem fnExactSendWaits_walk (room : Int) (wr : (Lit.int .i64 room).wf = true) (a : Option Addr) (len cap : Nat) (zs : List Int) (shift : Int) (ws : (Lit.int .i64 shift).wf = true) (left : Int) (wl : (Lit.int .i64 left).wf = true) (w : World) (h : IsRow .i64 w a len cap zs) :
    Calls Try.prog 8 #[.agg (sndV room a len cap shift left)] w fun e w' => e = .returned (.bool true) ∧ Below w.heap.size w w' := by
  have hs := h.sl
  generalize zs.take len = xs at hs
  have hl : (len : Int) ≤ 9223372036854775807 := by have := hs.2.1; have := hs.2.2.1; omega
  clear h wr ws wl
  have HB := hide ((Below.refl w.heap.size w).alloc (Nat.le_refl _) (.cells (sndV room a len cap shift left) 38))
  by_cases hbig : (1048576 : Int) < (len : Int)
  · have e0 : (if (1048576 : Int) < (len : Int) then (-1 : Int) else 1048576 - len) = -1 := if_pos hbig
    go_enter Try.func8, Try.ntmps8
    go_wp2_with fail
    refine (szSender_any _ _ _ _ _ _ _ _ hl (by omega) (by omega)).mono ?_
    rintro e w1 ⟨rfl, k1⟩
    rw [e0]
    have K := HB.out.trans (k1.mono (by simp))
    go_wp2
    go_ret
    exact ⟨rfl, K⟩
  · have e0 : (if (1048576 : Int) < (len : Int) then (-1 : Int) else 1048576 - len) = 1048576 - len := if_neg hbig
    have hsm : len ≤ 1048576 := by omega
    have hlt : ¬ (1048576 : Int) - (len : Int) < 0 := by omega
    go_enter Try.func8, Try.ntmps8
    go_wp2_with fail
    refine (szSender_any _ _ _ _ _ _ _ _ hl (by omega) (by omega)).mono ?_
    rintro e w1 ⟨rfl, k1⟩
    rw [e0]
    have K := hide (HB.out.trans (k1.mono (by simp)))
    have b1 := (Bk.new w 38 (sndV room a len cap shift left)).belowAll k1
    have s1 := (hs.alloc (.cells (sndV room a len cap shift left) 38)).below k1 (Nat.le_refl _)
    clear k1
    have q1 := b1.cell
    go_wp2_with fail
    refine (toSender_any _ _ _ _ xs _ _ _ s1 hsm).mono ?_
    rintro e w2 ⟨c2, rfl, hc2, d2, k2⟩
    have K := hide (K.out.trans (k2.mono K.out.size))
    have b2 := b1.belowAll k2
    have s2 := s1.below k2 (Nat.le_refl _)
    have t2 := sl_new d2 s1.1 hsm
    clear k2 q1
    go_wp2_with fail
    refine (swt_any _ _ _ _ xs _ _ _ t2).mono ?_
    rintro e w3 ⟨rfl, k3⟩
    have K := hide (K.out.trans (k3.mono K.out.size))
    have b3 := b2.belowAll k3
    have s3 := s2.below k3 (Nat.le_refl _)
    clear k3
    have q3 := b3.cell
    go_wp2_with fail
    refine (toSender_any _ _ _ _ xs _ _ _ s3 hsm).mono ?_
    rintro e w4 ⟨c4, rfl, hc4, d4, k4⟩
    have K := hide (K.out.trans (k4.mono K.out.size))
    have b4 := b3.belowAll k4
    have s4 := s3.below k4 (Nat.le_refl _)
    have t4 := sl_new d4 s1.1 hsm
    clear k4 q3
    go_wp2_with fail
    refine (iwt_any _ _ _ _ xs _ _ _ (t4.alloc _)).mono ?_
    rintro e w5 ⟨rfl, k5⟩
    have x5 := (Bk.new w4 35 (sndV room (some ⟨c4, 0, none⟩) len len shift left)).belowAll k5
    have b5 := (b4.alloc (.cells (sndV room (some ⟨c4, 0, none⟩) len len shift left) 35)).belowAll k5
    have s5 := (s4.alloc (.cells (sndV room (some ⟨c4, 0, none⟩) len len shift left) 35)).below k5 (Nat.le_refl _)
    have t5 := (t4.alloc (.cells (sndV room (some ⟨c4, 0, none⟩) len len shift left) 35)).below k5 (Nat.le_refl _)
    have K := hide ((K.out.alloc K.out.size (.cells (sndV room (some ⟨c4, 0, none⟩) len len shift left) 35)).trans (k5.mono (by have := K.out.size; simp; omega)))
    clear k5
    have qb := b5.cell
    have qx := x5.cell
    go_wp2
    have l5 : Below w.heap.size w w5 := K.out
    go_region_held3 (fun W => (∀ i, W.cell? ⟨w.heap.size, i, none⟩ = (sndV room a len cap shift left)[i]?) ∧ (∀ i, W.cell? ⟨w4.heap.size, i, none⟩ = (sndV room (some ⟨c4, 0, none⟩) len len shift left)[i]?) ∧ Bk W w.heap.size 38 (sndV room a len cap shift left) ∧ Bk W w4.heap.size 35 (sndV room (some ⟨c4, 0, none⟩) len len shift left) ∧ Sl W a len cap xs ∧ Sl W (some ⟨c4, 0, none⟩) len len xs ∧ Below w.heap.size w W)
      (first | exact ⟨b7.cell, x7.cell, b7, x7, s7, t7, l7⟩ | exact ⟨b6.cell, x6.cell, b6, x6, s6, t6, l6⟩ | exact ⟨qb, qx, b5, x5, s5, t5, l5.drew⟩)
      (first | (go_at_call 20; go_split_ands; refine (toSender_any _ _ _ _ xs _ _ _ (by assumption) hsm).mono ?_; rintro e w6 ⟨c6, rfl, hc6, d6, k6⟩; have b6 := Bk.belowAll (t := 38) (by assumption) k6; have x6 := Bk.belowAll (t := 35) (by assumption) k6; have s6 := Sl.below (a := a) (by assumption) k6 (Nat.le_refl _); have t6 := Sl.below (a := some ⟨c4, 0, none⟩) (by assumption) k6 (Nat.le_refl _); have l6 := Below.trans (a := w) (by assumption) (k6.mono (Below.size (by assumption))); have u6 := sl_new d6 s1.1 hsm) | (go_at_call 21; go_split_ands; refine (eqSender_same _ _ _ _ _ _ xs _ _ _ t6 u6).mono ?_; rintro e w7 ⟨rfl, k7⟩; have b7 := b6.belowAll k7; have x7 := x6.belowAll k7; have s7 := s6.below k7 (Nat.le_refl _); have t7 := t6.below k7 (Nat.le_refl _); have l7 := l6.trans (k7.mono l6.size)))
    clear qb qx
    go_wp2
    go_ret
    exact ⟨rfl, l7⟩
end Go.Proofs.Ytkfjcamkgigolaa
