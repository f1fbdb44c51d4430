/-
  The walks of the laws on drawn queues and senders: each law returns true for every code and turns nothing that was there.
-/
import Derived.Test.YtkfjcamkgigolaaDrawS
import Derived.Test.YtkfjcamkgigolaaSendB
namespace Go.Proofs.Ytkfjcamkgigolaa
open Go.RowKit
set_option linter.unusedVariables false

theorem IsRow.len {k : IntKind} {w : World} {a : Option Addr} {len cap : Nat} {zs : List Int} (h : IsRow k w a len cap zs) : (len : Int) ≤ 9223372036854775807 := by
  rcases h with ⟨_, rfl, _, _⟩ | ⟨x, _, hlc, hm, _⟩
  · omega
  · unfold maxLen at hm; omega

theorem dFifoValid_any (a : Option Addr) (len cap : Nat) (zs : List Int) (w : World) (h : IsRow .u8 w a len cap zs) :
    Calls Try.prog 10 #[.slice a len cap] w fun e w' => ∃ (room : Int) (b : Option Addr) (k c : Nat) (xs : List Int), e = .returned (.agg #[.int .i64 room, .slice b k c]) ∧ Sl w' b k c xs ∧ Below w.heap.size w w' := by
  go_enter Try.func10, Try.ntmps10
  go_wp2_with fail
  refine (open_any a len cap zs _ (h.alloc _)).mono ?_
  rintro e w1 ⟨rfl, hr1, hz1, k1⟩
  have b1 : Bk w1 w.heap.size 25 _ := (Bk.new w 25 _).belowAll k1
  have k1 := ((Below.refl w.heap.size w).alloc (Nat.le_refl _) _).trans (k1.mono (by simp))
  simp at hr1 hz1
  have Z1 := hide hz1
  clear hz1
  go_wp2_with fail
  refine (l91Fifo_any _ _ _ hr1 (by omega)).mono ?_
  rintro e w2 ⟨room, h', k, c, xs, rfl, _, _, ow, k2⟩
  have b2 := (b1.but k2 (by omega))
  have q2 := b2.cell
  have f2 := b2.free
  have hne := hide (ow.ne b2 (by decide))
  have k3 := k1.trans (k2.toBelow (B := w.heap.size) (by omega) (by have := Z1.out; omega))
  clear k1 k2
  go_wp2
  refine bodyPost_ret (by simp [results, Try.results10, go_sem, q2]; first | rfl | (and_intros <;> rfl)) rfl ⟨_, _, _, _, xs, rfl, ((ow.far hne.out _).far hne.out _).sl, ?_⟩
  exact (k3.setCell (Nat.le_refl _) _).setCell (Nat.le_refl _) _

theorem dDrawSendValid_any (a : Option Addr) (len cap : Nat) (zs : List Int) (w : World) (h : IsRow .u8 w a len cap zs) :
    Calls Try.prog 16 #[.slice a len cap] w fun e w' => ∃ (room : Int) (b : Option Addr) (k c : Nat) (xs : List Int) (shift left : Int), e = .returned (.agg (sndV room b k c shift left)) ∧ Sl w' b k c xs ∧ Below w.heap.size w w' := by
  go_enter Try.func16, Try.ntmps16
  go_wp2_with fail
  refine (open_any a len cap zs _ (h.alloc _)).mono ?_
  rintro e w1 ⟨rfl, hr1, hz1, k1⟩
  have b1 : Bk w1 w.heap.size 35 _ := (Bk.new w 35 _).belowAll k1
  have k1 := ((Below.refl w.heap.size w).alloc (Nat.le_refl _) _).trans (k1.mono (by simp))
  simp at hr1 hz1
  have Z1 := hide hz1
  clear hz1
  go_wp2_with fail
  refine (l91Send_any _ _ _ hr1 (by omega)).mono ?_
  rintro e w2 ⟨room, h', k, c, xs, shift, left, rfl, ow, k2⟩
  have b2 := (b1.but k2 (by omega))
  have q2 := b2.cell
  have f2 := b2.free
  have hne := hide (ow.ne b2 (by decide))
  have k3 := k1.trans (k2.toBelow (B := w.heap.size) (by omega) (by have := Z1.out; omega))
  clear k1 k2
  go_wp2
  refine bodyPost_ret (by simp [results, Try.results16, go_sem, q2]; first | rfl | (and_intros <;> rfl)) rfl ⟨_, _, _, _, xs, _, _, rfl, ((((ow.far hne.out _).far hne.out _).far hne.out _).far hne.out _).sl, ?_⟩
  exact (((k3.setCell (Nat.le_refl _) _).setCell (Nat.le_refl _) _).setCell (Nat.le_refl _) _).setCell (Nat.le_refl _) _
theorem dDrawSendStatus_any (a : Option Addr) (len cap : Nat) (zs : List Int) (w : World) (h : IsRow .u8 w a len cap zs) :
    Calls Try.prog 22 #[.slice a len cap] w fun e w' => ∃ (room : Int) (b : Option Addr) (k c : Nat) (xs : List Int) (shift left : Int), e = .returned (.agg (sndV room b k c shift left)) ∧ Sl w' b k c xs ∧ Below w.heap.size w w' := by
  go_enter Try.func22, Try.ntmps22
  go_wp2_with fail
  refine (open_any a len cap zs _ (h.alloc _)).mono ?_
  rintro e w1 ⟨rfl, hr1, hz1, k1⟩
  have b1 : Bk w1 w.heap.size 35 _ := (Bk.new w 35 _).belowAll k1
  have k1 := ((Below.refl w.heap.size w).alloc (Nat.le_refl _) _).trans (k1.mono (by simp))
  simp at hr1 hz1
  have Z1 := hide hz1
  clear hz1
  go_wp2_with fail
  refine (l91Send_any _ _ _ hr1 (by omega)).mono ?_
  rintro e w2 ⟨room, h', k, c, xs, shift, left, rfl, ow, k2⟩
  have b2 := (b1.but k2 (by omega))
  have q2 := b2.cell
  have f2 := b2.free
  have hne := hide (ow.ne b2 (by decide))
  have k3 := k1.trans (k2.toBelow (B := w.heap.size) (by omega) (by have := Z1.out; omega))
  clear k1 k2
  go_wp2
  refine bodyPost_ret (by simp [results, Try.results22, go_sem, q2]; first | rfl | (and_intros <;> rfl)) rfl ⟨_, _, _, _, xs, _, _, rfl, ((((ow.far hne.out _).far hne.out _).far hne.out _).far hne.out _).sl, ?_⟩
  exact (((k3.setCell (Nat.le_refl _) _).setCell (Nat.le_refl _) _).setCell (Nat.le_refl _) _).setCell (Nat.le_refl _) _
theorem allB_tail {zs : List Int} (h : allB zs = true) : allB (zs.drop 1) = true := by
  unfold allB at h ⊢
  rw [List.all_eq_true] at h ⊢
  exact fun z hz => h z (List.mem_of_mem_drop hz)
/-- A slice without its first number. -/
theorem Sl.tail {w : World} {a : Option Addr} {len cap : Nat} {zs : List Int} (h : Sl w a len cap zs) (hl : 0 < len) : Sl w (if cap = 1 then a else a.map (·.add 1)) (len - 1) (cap - 1) (zs.drop 1) := by
  refine ⟨by rw [List.length_drop, h.1], by have := h.2.1; omega, by have := h.2.2.1; omega, fun h1 => ?_⟩
  obtain ⟨x, rfl, hc⟩ := h.2.2.2 hl
  have hc1 : cap ≠ 1 := by have := h.2.1; omega
  rw [if_neg hc1]
  refine ⟨x.add 1, rfl, fun i hi => ?_⟩
  have e : (x.add 1).add i = x.add (i + 1) := by
    unfold Addr.add
    by_cases h0 : i = 0
    · simp [h0]
    · simp [h0]; omega
  rw [e, hc (i + 1) (by omega)]
  simp [List.getD_eq_getElem?_getD]

theorem fnSendStatus_walk (a : Option Addr) (len cap : Nat) (zs : List Int) (w : World) (h : IsRow .u8 w a len cap zs) :
    Calls Try.prog 7 #[.slice a len cap] w fun e w' => e = .returned (.bool true) ∧ Below w.heap.size w w' := by
  have hl := h.len
  by_cases hbig : (1048576 : Int) < (len : Int)
  · go_enter Try.func7, Try.ntmps7
    go_wp2
    go_ret
    exact ⟨rfl, Below.refl _ _⟩
  · go_enter Try.func7, Try.ntmps7
    go_wp2_with fail
    refine (dDrawSendStatus_any a len cap zs _ h).mono ?_
    rintro e w1 ⟨room, b, k, c, xs, shift, left, rfl, s1, k1⟩
    have k1 := k1.alloc k1.size (.cells (sndV room b k c shift left) 35)
    have b1 := Bk.new w1 35 (sndV room b k c shift left)
    have s1 := s1.alloc (.cells (sndV room b k c shift left) 35)
    have hk : (k : Int) ≤ 9223372036854775807 := by have := s1.2.1; have := s1.2.2.1; omega
    go_wp2_with fail
    refine (ist_any _ _ _ _ xs _ _ _ s1).mono ?_
    rintro e w2 ⟨rfl, k2⟩
    have b2 := b1.belowAll k2
    have s2 := s1.below k2 (Nat.le_refl _)
    have K := hide (k1.trans (k2.mono k1.size))
    clear k1 k2 b1
    have q2 := b2.cell
    go_wp2_with fail
    refine (sst_any _ _ _ _ xs _ _ _ s2).mono ?_
    rintro e w3 ⟨rfl, k3⟩
    have b3 := b2.belowAll k3
    have K := hide (K.out.trans (k3.mono K.out.size))
    clear k3 q2
    have q3 := b3.cell
    cases hv : sv room k xs shift left
    · have E : stOf room k xs shift left = -1 := by simp [stOf, hv]
      rw [E]
      clear hv E
      go_wp2
      go_ret
      exact ⟨rfl, K.out⟩
    · obtain ⟨_, _, _, f4, _, _⟩ := sv_facts hv
      by_cases hk0 : 0 < k
      · have E : stOf room k xs shift left = 0 := by simp [stOf, hv, hk0]
        rw [E]
        have hk1 : (0 : Int) < (k : Int) := by omega
        clear hv E hk0 f4
        go_wp2
        go_ret
        exact ⟨rfl, K.out⟩
      · obtain rfl : k = 0 := by omega
        by_cases hs : shift = -1
        · subst hs
          have E : stOf room 0 xs (-1) left = 96 := by simp [stOf, hv]
          rw [E]
          clear hv E hk0 f4
          go_wp2
          go_ret
          exact ⟨rfl, K.out⟩
        · have E : stOf room 0 xs shift left = 32 := by simp [stOf, hv, hs]
          have hs0 : 0 ≤ shift := by omega
          rw [E]
          clear hv E hk0 f4 hs
          go_wp2
          go_ret
          exact ⟨rfl, K.out⟩

theorem fnSendPart_walk (a : Option Addr) (len cap : Nat) (zs : List Int) (w : World) (h : IsRow .u8 w a len cap zs) :
    Calls Try.prog 5 #[.slice a len cap] w fun e w' => e = .returned (.bool true) ∧ Below w.heap.size w w' := by
  have hl := h.len
  by_cases hbig : (1048576 : Int) < (len : Int)
  · go_enter Try.func5, Try.ntmps5
    go_wp2
    go_ret
    exact ⟨rfl, Below.refl _ _⟩
  · go_enter Try.func5, Try.ntmps5
    go_wp2_with fail
    refine (dDrawSendValid_any a len cap zs _ h).mono ?_
    rintro e w1 ⟨room, b, k, c, xs, shift, left, rfl, s1, k1⟩
    have k1 := k1.alloc k1.size (.cells (sndV room b k c shift left) 35)
    have b1 := Bk.new w1 35 (sndV room b k c shift left)
    have s1 := s1.alloc (.cells (sndV room b k c shift left) 35)
    go_wp2_with fail
    refine (isv_any _ _ _ _ xs _ _ _ s1).mono ?_
    rintro e w2 ⟨rfl, k2⟩
    have b2 := b1.belowAll k2
    have s2 := s1.below k2 (Nat.le_refl _)
    have K := hide (k1.trans (k2.mono k1.size))
    clear k1 k2 b1
    have q2 := b2.cell
    go_wp2_with fail
    refine (ssv_any _ _ _ _ xs _ _ _ s2).mono ?_
    rintro e w3 ⟨rfl, k3⟩
    have b3 := b2.belowAll k3
    have s3 := s2.below k3 (Nat.le_refl _)
    have K := hide (K.out.trans (k3.mono K.out.size))
    clear k3 q2
    have q3 := b3.cell
    have l3 := b3.lt
    cases hv : sv room k xs shift left
    · go_wp2
      go_ret
      exact ⟨rfl, K.out⟩
    · have v4 : sv room k xs shift 4 = false := by
        cases e : sv room k xs shift 4
        · rfl
        · have := sv_facts e; omega
      have v17 : sv 17 k xs shift left = false := sv_no1 (ffv_no (by omega))
      go_wp2_with fail
      refine (isv_any _ _ _ _ xs _ _ _ ((s3.alloc _).alloc _)).mono ?_
      rintro e w4 ⟨rfl, k4⟩
      rw [v4]
      have b5 : Bk w4 (w3.heap.size + 1) 35 (sndV 17 b k c shift left) := by
        have := (Bk.new (w3.alloc (.cells (sndV room b k c shift 4) 35)) 35 (sndV 17 b k c shift left)).belowAll k4
        simpa using this
      have s4 := ((s3.alloc (.cells (sndV room b k c shift 4) 35)).alloc (.cells (sndV 17 b k c shift left) 35)).below k4 (Nat.le_refl _)
      have K := hide (((K.out.alloc K.out.size (.cells (sndV room b k c shift 4) 35)).alloc (by have := K.out.size; simp; omega) (.cells (sndV 17 b k c shift left) 35)).trans (k4.mono (by have := K.out.size; simp; omega)))
      clear k4 q3
      have q5 := b5.cell
      go_wp2_with fail
      refine (isv_any _ _ _ _ xs _ _ _ s4).mono ?_
      rintro e w5 ⟨rfl, k5⟩
      rw [v17]
      have K := K.out.trans (k5.mono K.out.size)
      clear q5
      go_wp2
      go_ret
      exact ⟨rfl, K⟩

theorem fnFifoPart_walk (a : Option Addr) (len cap : Nat) (zs : List Int) (w : World) (h : IsRow .u8 w a len cap zs) :
    Calls Try.prog 3 #[.slice a len cap] w fun e w' => e = .returned (.bool true) ∧ Below w.heap.size w w' := by
  have hl := h.len
  by_cases hbig : (1048576 : Int) < (len : Int)
  · go_enter Try.func3, Try.ntmps3
    go_wp2
    go_ret
    exact ⟨rfl, Below.refl _ _⟩
  · go_enter Try.func3, Try.ntmps3
    go_wp2_with fail
    refine (dFifoValid_any a len cap zs _ h).mono ?_
    rintro e w1 ⟨room, b, k, c, xs, rfl, s1, k1⟩
    have k1 := k1.alloc k1.size (.cells #[.int .i64 room, .slice b k c] 25)
    have b1 := Bk.new w1 25 #[.int .i64 room, .slice b k c]
    have s1 := s1.alloc (.cells #[.int .i64 room, .slice b k c] 25)
    have hk : (k : Int) ≤ 9223372036854775807 := by have := s1.2.1; have := s1.2.2.1; omega
    go_wp2_with fail
    refine (iffv_any _ _ _ _ xs _ s1).mono ?_
    rintro e w2 ⟨rfl, k2⟩
    have b2 := b1.belowAll k2
    have s2 := s1.below k2 (Nat.le_refl _)
    have K := hide (k1.trans (k2.mono k1.size))
    clear k1 k2 b1
    have q2 := b2.cell
    go_wp2_with fail
    refine (sffv_any _ _ _ _ xs _ s2).mono ?_
    rintro e w3 ⟨rfl, k3⟩
    have b3 := b2.belowAll k3
    have s3 := s2.below k3 (Nat.le_refl _)
    have K := hide (K.out.trans (k3.mono K.out.size))
    clear k3 q2
    have q3 := b3.cell
    have l3 := b3.lt
    cases hv : ffv room k xs
    · go_wp2
      go_ret
      exact ⟨rfl, K.out⟩
    · have v17 : ffv 17 k xs = false := ffv_no (by omega)
      obtain ⟨r1, r2, r3, r4⟩ := ffv_iff.1 hv
      by_cases hk0 : 0 < k
      · have hk1 : (0 : Int) < (k : Int) := by omega
        have hkc : (k : Int) ≤ (c : Int) := by have := s3.2.1; omega
        have st := s3.tail hk0
        obtain ⟨x, rfl, hx0⟩ := s3.at_ hk0
        have hk2 : (1 : Int) ≤ (k : Int) := by omega
        have vt : ffv room (k - 1) (xs.drop 1) = true := ffv_iff.2 ⟨r1, r2, by omega, allB_tail r4⟩
        have HVT := hide vt
        by_cases hc1 : c = 1
        · subst hc1
          rw [if_pos rfl] at st
          clear hv vt hk0 r1 r2 r3 r4 hx0
          go_wp2_with fail
          refine (iffv_any _ _ _ _ (xs.drop 1) _ ((st.alloc _).alloc _)).mono ?_
          rintro e w4 ⟨rfl, k4⟩
          rw [HVT.out]
          have b5 : Bk w4 (w3.heap.size + 1) 25 #[.int .i64 17, .slice (some x) k 1] := by
            have := (Bk.new (w3.alloc (.cells #[.int .i64 room, .slice (some x) (k - 1) (1 - 1)] 25)) 25 #[.int .i64 17, .slice (some x) k 1]).belowAll k4
            simpa using this
          have s4 := ((s3.alloc (.cells #[.int .i64 room, .slice (some x) (k - 1) (1 - 1)] 25)).alloc (.cells #[.int .i64 17, .slice (some x) k 1] 25)).below k4 (Nat.le_refl _)
          have K := hide (((K.out.alloc K.out.size (.cells #[.int .i64 room, .slice (some x) (k - 1) (1 - 1)] 25)).alloc (by have := K.out.size; simp; omega) (.cells #[.int .i64 17, .slice (some x) k 1] 25)).trans (k4.mono (by have := K.out.size; simp; omega)))
          clear k4 q3
          have q5 := b5.cell
          go_wp2_with fail
          refine (iffv_any _ _ _ _ xs _ s4).mono ?_
          rintro e w5 ⟨rfl, k5⟩
          rw [v17]
          have K := K.out.trans (k5.mono K.out.size)
          clear q5
          go_wp2
          go_ret
          exact ⟨rfl, K⟩
        · rw [if_neg hc1] at st
          have eA : x.add 1 = ⟨x.block, x.off + 1, none⟩ := by
            unfold Addr.add
            simp
          simp only [Option.map_some, eA] at st
          clear hv vt hk0 r1 r2 r3 r4 hx0 eA
          go_wp2_with fail
          refine (iffv_any _ _ _ _ (xs.drop 1) _ ((st.alloc _).alloc _)).mono ?_
          rintro e w4 ⟨rfl, k4⟩
          rw [HVT.out]
          have b5 : Bk w4 (w3.heap.size + 1) 25 #[.int .i64 17, .slice (some x) k c] := by
            have := (Bk.new (w3.alloc (.cells #[.int .i64 room, .slice (some ⟨x.block, x.off + 1, none⟩) (k - 1) (c - 1)] 25)) 25 #[.int .i64 17, .slice (some x) k c]).belowAll k4
            simpa using this
          have s4 := ((s3.alloc (.cells #[.int .i64 room, .slice (some ⟨x.block, x.off + 1, none⟩) (k - 1) (c - 1)] 25)).alloc (.cells #[.int .i64 17, .slice (some x) k c] 25)).below k4 (Nat.le_refl _)
          have K := hide (((K.out.alloc K.out.size (.cells #[.int .i64 room, .slice (some ⟨x.block, x.off + 1, none⟩) (k - 1) (c - 1)] 25)).alloc (by have := K.out.size; simp; omega) (.cells #[.int .i64 17, .slice (some x) k c] 25)).trans (k4.mono (by have := K.out.size; simp; omega)))
          clear k4 q3
          have q5 := b5.cell
          go_wp2_with fail
          refine (iffv_any _ _ _ _ xs _ s4).mono ?_
          rintro e w5 ⟨rfl, k5⟩
          rw [v17]
          have K := K.out.trans (k5.mono K.out.size)
          clear q5
          go_wp2
          go_ret
          exact ⟨rfl, K⟩
      · obtain rfl : k = 0 := by omega
        have HV := hide hv
        clear hv hk0 r1 r2 r3 r4
        go_wp2_with fail
        refine (iffv_any _ _ _ _ xs _ ((s3.alloc _).alloc _)).mono ?_
        rintro e w4 ⟨rfl, k4⟩
        rw [HV.out]
        have b5 : Bk w4 (w3.heap.size + 1) 25 #[.int .i64 17, .slice b 0 c] := by
          have := (Bk.new (w3.alloc (.cells #[.int .i64 room, .slice b 0 c] 25)) 25 #[.int .i64 17, .slice b 0 c]).belowAll k4
          simpa using this
        have s4 := ((s3.alloc (.cells #[.int .i64 room, .slice b 0 c] 25)).alloc (.cells #[.int .i64 17, .slice b 0 c] 25)).below k4 (Nat.le_refl _)
        have K := hide (((K.out.alloc K.out.size (.cells #[.int .i64 room, .slice b 0 c] 25)).alloc (by have := K.out.size; simp; omega) (.cells #[.int .i64 17, .slice b 0 c] 25)).trans (k4.mono (by have := K.out.size; simp; omega)))
        clear k4 q3
        have q5 := b5.cell
        go_wp2_with fail
        refine (iffv_any _ _ _ _ xs _ s4).mono ?_
        rintro e w5 ⟨rfl, k5⟩
        rw [v17]
        have K := K.out.trans (k5.mono K.out.size)
        clear q5
        go_wp2
        go_ret
        exact ⟨rfl, K⟩
end Go.Proofs.Ytkfjcamkgigolaa
