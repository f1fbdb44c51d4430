/-
  The walks of the exact laws on receivers: each law returns true and turns nothing that was there.
-/
import Derived.Test.YtnlclifdkhlcpaaRecvD
import Derived.Test.YtnlclifdkhlcpaaOpensR
namespace Go.Proofs.Ytnlclifdkhlcpaa
open Go.RowKit
set_option linter.unusedVariables false

set_option maxHeartbeats 1000000 in
theorem fnExactRecvValid_walk (room : Int) (wr : (Lit.int .i64 room).wf = true) (trig : Int) (wt : (Lit.int .i64 trig).wf = true) (a : Option Addr) (len cap : Nat) (xs : List (Int × Int)) (lost : Bool) (age : Int) (wg : (Lit.int .i64 age).wf = true) (w : World) (hs : Sg w a len cap xs) :
    Calls Try.prog 6 #[.agg (rcvV room trig a len cap lost age)] w fun e w' => e = .returned (.bool true) ∧ Below w.heap.size w w' := by
  have hl : (len : Int) ≤ 9223372036854775807 := by have := hs.2.1; have := hs.2.2.1; omega
  clear wr wt wg
  have HB := hide ((Below.refl w.heap.size w).alloc (Nat.le_refl _) (.cells (rcvV room trig a len cap lost age) 32))
  by_cases hbig : (1048576 : Int) < (len : Int)
  · have e0 : (if (1048576 : Int) < (len : Int) then (-1 : Int) else 1048576 - len) = -1 := if_pos hbig
    go_enter Try.func6, Try.ntmps6
    go_wp2_with fail
    refine (szReceiver_any _ _ _ _ _ _ _ _ _ hl (by omega) (by omega)).mono ?_
    rintro e w1 ⟨rfl, k1⟩
    rw [e0]
    have K := HB.out.trans (k1.mono (by simp))
    go_wp2
    go_ret
    exact ⟨rfl, K⟩
  · have e0 : (if (1048576 : Int) < (len : Int) then (-1 : Int) else 1048576 - len) = 1048576 - len := if_neg hbig
    have hsm : len ≤ 1048576 := by omega
    have hlt : ¬ (1048576 : Int) - (len : Int) < 0 := by omega
    go_enter Try.func6, Try.ntmps6
    go_wp2_with fail
    refine (szReceiver_any _ _ _ _ _ _ _ _ _ hl (by omega) (by omega)).mono ?_
    rintro e w1 ⟨rfl, k1⟩
    rw [e0]
    have K := hide (HB.out.trans (k1.mono (by simp)))
    have b1 := (Bk.new w 32 (rcvV room trig a len cap lost age)).belowAll k1
    have s1 := (hs.alloc (.cells (rcvV room trig a len cap lost age) 32)).below k1 (Nat.le_refl _)
    clear k1
    have q1 := b1.cell
    go_wp2_with fail
    refine (toReceiver_any _ _ _ _ _ xs _ _ _ s1 hsm).mono ?_
    rintro e w2 ⟨c2, rfl, hc2, d2, k2⟩
    have K := hide (K.out.trans (k2.mono K.out.size))
    have b2 := b1.belowAll k2
    have s2 := s1.below k2 (Nat.le_refl _)
    have t2 := sg_new d2 s1.1 hsm
    clear k2 q1
    go_wp2_with fail
    refine (srv_any _ _ _ _ _ xs _ _ _ t2).mono ?_
    rintro e w3 ⟨rfl, k3⟩
    have K := hide (K.out.trans (k3.mono K.out.size))
    have b3 := b2.belowAll k3
    have s3 := s2.below k3 (Nat.le_refl _)
    clear k3
    have q3 := b3.cell
    go_wp2_with fail
    refine (toReceiver_any _ _ _ _ _ xs _ _ _ s3 hsm).mono ?_
    rintro e w4 ⟨c4, rfl, hc4, d4, k4⟩
    have K := hide (K.out.trans (k4.mono K.out.size))
    have b4 := b3.belowAll k4
    have s4 := s3.below k4 (Nat.le_refl _)
    have t4 := sg_new d4 s1.1 hsm
    clear k4 q3
    go_wp2_with fail
    refine (irv_any _ _ _ _ _ xs _ _ _ (t4.alloc _)).mono ?_
    rintro e w5 ⟨rfl, k5⟩
    have x5 := (Bk.new w4 25 (rcvV room trig (some ⟨c4, 0, none⟩) len len lost age)).belowAll k5
    have b5 := (b4.alloc (.cells (rcvV room trig (some ⟨c4, 0, none⟩) len len lost age) 25)).belowAll k5
    have s5 := (s4.alloc (.cells (rcvV room trig (some ⟨c4, 0, none⟩) len len lost age) 25)).below k5 (Nat.le_refl _)
    have t5 := (t4.alloc (.cells (rcvV room trig (some ⟨c4, 0, none⟩) len len lost age) 25)).below k5 (Nat.le_refl _)
    have K := hide ((K.out.alloc K.out.size (.cells (rcvV room trig (some ⟨c4, 0, none⟩) len len lost age) 25)).trans (k5.mono (by have := K.out.size; simp; omega)))
    clear k5
    have qb := b5.cell
    have qx := x5.cell
    go_wp2
    have l5 : Below w.heap.size w w5 := K.out
    go_region_held3 (fun W => (∀ i, W.cell? ⟨w.heap.size, i, none⟩ = (rcvV room trig a len cap lost age)[i]?) ∧ (∀ i, W.cell? ⟨w4.heap.size, i, none⟩ = (rcvV room trig (some ⟨c4, 0, none⟩) len len lost age)[i]?) ∧ Bk W w.heap.size 32 (rcvV room trig a len cap lost age) ∧ Bk W w4.heap.size 25 (rcvV room trig (some ⟨c4, 0, none⟩) len len lost age) ∧ Sg W a len cap xs ∧ Sg W (some ⟨c4, 0, none⟩) len len xs ∧ Below w.heap.size w W)
      (first | exact ⟨b7.cell, x7.cell, b7, x7, s7, t7, l7⟩ | exact ⟨b6.cell, x6.cell, b6, x6, s6, t6, l6⟩ | exact ⟨qb, qx, b5, x5, s5, t5, l5.drew⟩)
      (first | (go_at_call 18; go_split_ands; refine (toReceiver_any _ _ _ _ _ xs _ _ _ (by assumption) hsm).mono ?_; rintro e w6 ⟨c6, rfl, hc6, d6, k6⟩; have b6 := Bk.belowAll (t := 32) (by assumption) k6; have x6 := Bk.belowAll (t := 25) (by assumption) k6; have s6 := Sg.below (a := a) (by assumption) k6 (Nat.le_refl _); have t6 := Sg.below (a := some ⟨c4, 0, none⟩) (by assumption) k6 (Nat.le_refl _); have l6 := Below.trans (a := w) (by assumption) (k6.mono (Below.size (by assumption))); have u6 := sg_new d6 s1.1 hsm) | (go_at_call 19; go_split_ands; refine (eqReceiver_same _ _ _ _ _ _ _ xs _ _ _ t6 u6).mono ?_; rintro e w7 ⟨rfl, k7⟩; have b7 := b6.belowAll k7; have x7 := x6.belowAll k7; have s7 := s6.below k7 (Nat.le_refl _); have t7 := t6.below k7 (Nat.le_refl _); have l7 := l6.trans (k7.mono l6.size)))
    clear qb qx
    go_wp2
    go_ret
    exact ⟨rfl, l7⟩
set_option maxHeartbeats 1000000 in
theorem fnExactRecvReady_walk (room : Int) (wr : (Lit.int .i64 room).wf = true) (trig : Int) (wt : (Lit.int .i64 trig).wf = true) (a : Option Addr) (len cap : Nat) (xs : List (Int × Int)) (lost : Bool) (age : Int) (wg : (Lit.int .i64 age).wf = true) (w : World) (hs : Sg w a len cap xs) :
    Calls Try.prog 9 #[.agg (rcvV room trig a len cap lost age)] w fun e w' => e = .returned (.bool true) ∧ Below w.heap.size w w' := by
  have hl : (len : Int) ≤ 9223372036854775807 := by have := hs.2.1; have := hs.2.2.1; omega
  clear wr wt wg
  have HB := hide ((Below.refl w.heap.size w).alloc (Nat.le_refl _) (.cells (rcvV room trig a len cap lost age) 32))
  by_cases hbig : (1048576 : Int) < (len : Int)
  · have e0 : (if (1048576 : Int) < (len : Int) then (-1 : Int) else 1048576 - len) = -1 := if_pos hbig
    go_enter Try.func9, Try.ntmps9
    go_wp2_with fail
    refine (szReceiver_any _ _ _ _ _ _ _ _ _ hl (by omega) (by omega)).mono ?_
    rintro e w1 ⟨rfl, k1⟩
    rw [e0]
    have K := HB.out.trans (k1.mono (by simp))
    go_wp2
    go_ret
    exact ⟨rfl, K⟩
  · have e0 : (if (1048576 : Int) < (len : Int) then (-1 : Int) else 1048576 - len) = 1048576 - len := if_neg hbig
    have hsm : len ≤ 1048576 := by omega
    have hlt : ¬ (1048576 : Int) - (len : Int) < 0 := by omega
    go_enter Try.func9, Try.ntmps9
    go_wp2_with fail
    refine (szReceiver_any _ _ _ _ _ _ _ _ _ hl (by omega) (by omega)).mono ?_
    rintro e w1 ⟨rfl, k1⟩
    rw [e0]
    have K := hide (HB.out.trans (k1.mono (by simp)))
    have b1 := (Bk.new w 32 (rcvV room trig a len cap lost age)).belowAll k1
    have s1 := (hs.alloc (.cells (rcvV room trig a len cap lost age) 32)).below k1 (Nat.le_refl _)
    clear k1
    have q1 := b1.cell
    go_wp2_with fail
    refine (toReceiver_any _ _ _ _ _ xs _ _ _ s1 hsm).mono ?_
    rintro e w2 ⟨c2, rfl, hc2, d2, k2⟩
    have K := hide (K.out.trans (k2.mono K.out.size))
    have b2 := b1.belowAll k2
    have s2 := s1.below k2 (Nat.le_refl _)
    have t2 := sg_new d2 s1.1 hsm
    clear k2 q1
    go_wp2_with fail
    refine (srd_any _ _ _ _ _ xs _ _ _ t2).mono ?_
    rintro e w3 ⟨rfl, k3⟩
    have K := hide (K.out.trans (k3.mono K.out.size))
    have b3 := b2.belowAll k3
    have s3 := s2.below k3 (Nat.le_refl _)
    clear k3
    have q3 := b3.cell
    go_wp2_with fail
    refine (toReceiver_any _ _ _ _ _ xs _ _ _ s3 hsm).mono ?_
    rintro e w4 ⟨c4, rfl, hc4, d4, k4⟩
    have K := hide (K.out.trans (k4.mono K.out.size))
    have b4 := b3.belowAll k4
    have s4 := s3.below k4 (Nat.le_refl _)
    have t4 := sg_new d4 s1.1 hsm
    clear k4 q3
    go_wp2_with fail
    refine (ird_any _ _ _ _ _ xs _ _ _ (t4.alloc _)).mono ?_
    rintro e w5 ⟨rfl, k5⟩
    have x5 := (Bk.new w4 25 (rcvV room trig (some ⟨c4, 0, none⟩) len len lost age)).belowAll k5
    have b5 := (b4.alloc (.cells (rcvV room trig (some ⟨c4, 0, none⟩) len len lost age) 25)).belowAll k5
    have s5 := (s4.alloc (.cells (rcvV room trig (some ⟨c4, 0, none⟩) len len lost age) 25)).below k5 (Nat.le_refl _)
    have t5 := (t4.alloc (.cells (rcvV room trig (some ⟨c4, 0, none⟩) len len lost age) 25)).below k5 (Nat.le_refl _)
    have K := hide ((K.out.alloc K.out.size (.cells (rcvV room trig (some ⟨c4, 0, none⟩) len len lost age) 25)).trans (k5.mono (by have := K.out.size; simp; omega)))
    clear k5
    have qb := b5.cell
    have qx := x5.cell
    go_wp2
    have l5 : Below w.heap.size w w5 := K.out
    go_region_held3 (fun W => (∀ i, W.cell? ⟨w.heap.size, i, none⟩ = (rcvV room trig a len cap lost age)[i]?) ∧ (∀ i, W.cell? ⟨w4.heap.size, i, none⟩ = (rcvV room trig (some ⟨c4, 0, none⟩) len len lost age)[i]?) ∧ Bk W w.heap.size 32 (rcvV room trig a len cap lost age) ∧ Bk W w4.heap.size 25 (rcvV room trig (some ⟨c4, 0, none⟩) len len lost age) ∧ Sg W a len cap xs ∧ Sg W (some ⟨c4, 0, none⟩) len len xs ∧ Below w.heap.size w W)
      (first | exact ⟨b7.cell, x7.cell, b7, x7, s7, t7, l7⟩ | exact ⟨b6.cell, x6.cell, b6, x6, s6, t6, l6⟩ | exact ⟨qb, qx, b5, x5, s5, t5, l5.drew⟩)
      (first | (go_at_call 18; go_split_ands; refine (toReceiver_any _ _ _ _ _ xs _ _ _ (by assumption) hsm).mono ?_; rintro e w6 ⟨c6, rfl, hc6, d6, k6⟩; have b6 := Bk.belowAll (t := 32) (by assumption) k6; have x6 := Bk.belowAll (t := 25) (by assumption) k6; have s6 := Sg.below (a := a) (by assumption) k6 (Nat.le_refl _); have t6 := Sg.below (a := some ⟨c4, 0, none⟩) (by assumption) k6 (Nat.le_refl _); have l6 := Below.trans (a := w) (by assumption) (k6.mono (Below.size (by assumption))); have u6 := sg_new d6 s1.1 hsm) | (go_at_call 19; go_split_ands; refine (eqReceiver_same _ _ _ _ _ _ _ xs _ _ _ t6 u6).mono ?_; rintro e w7 ⟨rfl, k7⟩; have b7 := b6.belowAll k7; have x7 := x6.belowAll k7; have s7 := s6.below k7 (Nat.le_refl _); have t7 := t6.below k7 (Nat.le_refl _); have l7 := l6.trans (k7.mono l6.size)))
    clear qb qx
    go_wp2
    go_ret
    exact ⟨rfl, l7⟩
set_option maxHeartbeats 1000000 in
theorem fnExactRecvStatus_walk (room : Int) (wr : (Lit.int .i64 room).wf = true) (trig : Int) (wt : (Lit.int .i64 trig).wf = true) (a : Option Addr) (len cap : Nat) (xs : List (Int × Int)) (lost : Bool) (age : Int) (wg : (Lit.int .i64 age).wf = true) (w : World) (hs : Sg w a len cap xs) :
    Calls Try.prog 10 #[.agg (rcvV room trig a len cap lost age)] w fun e w' => e = .returned (.bool true) ∧ Below w.heap.size w w' := by
  have hl : (len : Int) ≤ 9223372036854775807 := by have := hs.2.1; have := hs.2.2.1; omega
  clear wr wt wg
  have HB := hide ((Below.refl w.heap.size w).alloc (Nat.le_refl _) (.cells (rcvV room trig a len cap lost age) 32))
  by_cases hbig : (1048576 : Int) < (len : Int)
  · have e0 : (if (1048576 : Int) < (len : Int) then (-1 : Int) else 1048576 - len) = -1 := if_pos hbig
    go_enter Try.func10, Try.ntmps10
    go_wp2_with fail
    refine (szReceiver_any _ _ _ _ _ _ _ _ _ hl (by omega) (by omega)).mono ?_
    rintro e w1 ⟨rfl, k1⟩
    rw [e0]
    have K := HB.out.trans (k1.mono (by simp))
    go_wp2
    go_ret
    exact ⟨rfl, K⟩
  · have e0 : (if (1048576 : Int) < (len : Int) then (-1 : Int) else 1048576 - len) = 1048576 - len := if_neg hbig
    have hsm : len ≤ 1048576 := by omega
    have hlt : ¬ (1048576 : Int) - (len : Int) < 0 := by omega
    go_enter Try.func10, Try.ntmps10
    go_wp2_with fail
    refine (szReceiver_any _ _ _ _ _ _ _ _ _ hl (by omega) (by omega)).mono ?_
    rintro e w1 ⟨rfl, k1⟩
    rw [e0]
    have K := hide (HB.out.trans (k1.mono (by simp)))
    have b1 := (Bk.new w 32 (rcvV room trig a len cap lost age)).belowAll k1
    have s1 := (hs.alloc (.cells (rcvV room trig a len cap lost age) 32)).below k1 (Nat.le_refl _)
    clear k1
    have q1 := b1.cell
    go_wp2_with fail
    refine (toReceiver_any _ _ _ _ _ xs _ _ _ s1 hsm).mono ?_
    rintro e w2 ⟨c2, rfl, hc2, d2, k2⟩
    have K := hide (K.out.trans (k2.mono K.out.size))
    have b2 := b1.belowAll k2
    have s2 := s1.below k2 (Nat.le_refl _)
    have t2 := sg_new d2 s1.1 hsm
    clear k2 q1
    go_wp2_with fail
    refine (srs_any _ _ _ _ _ xs _ _ _ t2).mono ?_
    rintro e w3 ⟨rfl, k3⟩
    have K := hide (K.out.trans (k3.mono K.out.size))
    have b3 := b2.belowAll k3
    have s3 := s2.below k3 (Nat.le_refl _)
    clear k3
    have q3 := b3.cell
    go_wp2_with fail
    refine (toReceiver_any _ _ _ _ _ xs _ _ _ s3 hsm).mono ?_
    rintro e w4 ⟨c4, rfl, hc4, d4, k4⟩
    have K := hide (K.out.trans (k4.mono K.out.size))
    have b4 := b3.belowAll k4
    have s4 := s3.below k4 (Nat.le_refl _)
    have t4 := sg_new d4 s1.1 hsm
    clear k4 q3
    go_wp2_with fail
    refine (irs_any _ _ _ _ _ xs _ _ _ (t4.alloc _)).mono ?_
    rintro e w5 ⟨rfl, k5⟩
    have x5 := (Bk.new w4 25 (rcvV room trig (some ⟨c4, 0, none⟩) len len lost age)).belowAll k5
    have b5 := (b4.alloc (.cells (rcvV room trig (some ⟨c4, 0, none⟩) len len lost age) 25)).belowAll k5
    have s5 := (s4.alloc (.cells (rcvV room trig (some ⟨c4, 0, none⟩) len len lost age) 25)).below k5 (Nat.le_refl _)
    have t5 := (t4.alloc (.cells (rcvV room trig (some ⟨c4, 0, none⟩) len len lost age) 25)).below k5 (Nat.le_refl _)
    have K := hide ((K.out.alloc K.out.size (.cells (rcvV room trig (some ⟨c4, 0, none⟩) len len lost age) 25)).trans (k5.mono (by have := K.out.size; simp; omega)))
    clear k5
    have qb := b5.cell
    have qx := x5.cell
    go_wp2
    have l5 : Below w.heap.size w w5 := K.out
    go_region_held3 (fun W => (∀ i, W.cell? ⟨w.heap.size, i, none⟩ = (rcvV room trig a len cap lost age)[i]?) ∧ (∀ i, W.cell? ⟨w4.heap.size, i, none⟩ = (rcvV room trig (some ⟨c4, 0, none⟩) len len lost age)[i]?) ∧ Bk W w.heap.size 32 (rcvV room trig a len cap lost age) ∧ Bk W w4.heap.size 25 (rcvV room trig (some ⟨c4, 0, none⟩) len len lost age) ∧ Sg W a len cap xs ∧ Sg W (some ⟨c4, 0, none⟩) len len xs ∧ Below w.heap.size w W)
      (first | exact ⟨b7.cell, x7.cell, b7, x7, s7, t7, l7⟩ | exact ⟨b6.cell, x6.cell, b6, x6, s6, t6, l6⟩ | exact ⟨qb, qx, b5, x5, s5, t5, l5.drew⟩)
      (first | (go_at_call 18; go_split_ands; refine (toReceiver_any _ _ _ _ _ xs _ _ _ (by assumption) hsm).mono ?_; rintro e w6 ⟨c6, rfl, hc6, d6, k6⟩; have b6 := Bk.belowAll (t := 32) (by assumption) k6; have x6 := Bk.belowAll (t := 25) (by assumption) k6; have s6 := Sg.below (a := a) (by assumption) k6 (Nat.le_refl _); have t6 := Sg.below (a := some ⟨c4, 0, none⟩) (by assumption) k6 (Nat.le_refl _); have l6 := Below.trans (a := w) (by assumption) (k6.mono (Below.size (by assumption))); have u6 := sg_new d6 s1.1 hsm) | (go_at_call 19; go_split_ands; refine (eqReceiver_same _ _ _ _ _ _ _ xs _ _ _ t6 u6).mono ?_; rintro e w7 ⟨rfl, k7⟩; have b7 := b6.belowAll k7; have x7 := x6.belowAll k7; have s7 := s6.below k7 (Nat.le_refl _); have t7 := t6.below k7 (Nat.le_refl _); have l7 := l6.trans (k7.mono l6.size)))
    clear qb qx
    go_wp2
    go_ret
    exact ⟨rfl, l7⟩
end Go.Proofs.Ytnlclifdkhlcpaa
