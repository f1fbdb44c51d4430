/-
  Walks of the function that draws a sender. The contract says that the parts are integers, that the items read as some list, and that of what was there the reader's own block alone may turn.
-/
import Derived.Test.YtkfjcamkgigolaaDrawQ
namespace Go.Proofs.Ytkfjcamkgigolaa
open Go.RowKit
set_option linter.unusedVariables false

/-- A drawn sender. -/
def Sd (g : Nat) (w : World) (e : Ending) (w' : World) : Prop :=
  ∃ (room : Int) (h k cap : Nat) (zs : List Int) (shift left : Int), e = .returned (.agg #[.int .i64 room, .slice (some ⟨h, 0, none⟩) k cap, .int .i64 shift, .int .i64 left]) ∧ Own w' w.heap.size h k cap zs ∧ But g w w'

theorem Bk.cast {w : World} {g : Nat} {t : TypeId} {cs cs' : Array Value} (h : Bk w g t cs) (e : cs = cs') : Bk w g t cs' := e ▸ h
theorem four_at {w : World} {g : Nat} {t : TypeId} {a b c d x : Int} (k : Bk w g t #[.int .i64 a, .int .i64 b, .int .i64 c, .int .i64 d]) (h0 : 0 ≤ x) (h1 : x < 4) : ∃ y : Int, w.cell? ⟨g, x.toNat, none⟩ = some (.int .i64 y) := by
  obtain rfl | rfl | rfl | rfl : x = 0 ∨ x = 1 ∨ x = 2 ∨ x = 3 := by omega
  · exact ⟨a, k.cell 0⟩
  · exact ⟨b, k.cell 1⟩
  · exact ⟨c, k.cell 2⟩
  · exact ⟨d, k.cell 3⟩
theorem two_at {w : World} {g : Nat} {t : TypeId} {a b x : Int} (k : Bk w g t #[.int .i64 a, .int .i64 b]) (h0 : 0 ≤ x) (h1 : x < 2) : ∃ y : Int, w.cell? ⟨g, x.toNat, none⟩ = some (.int .i64 y) := by
  obtain rfl | rfl : x = 0 ∨ x = 1 := by omega
  · exact ⟨a, k.cell 0⟩
  · exact ⟨b, k.cell 1⟩
set_option maxHeartbeats 4000000 in
theorem l91Send_any (w : World) (g : Nat) (p : Int) (h : Rdr w g p) (hp : p ≤ 900000) :
    Calls Try.prog 35 #[.pointer (some ⟨g, 0, none⟩)] w (Sd g w) := by
  have hg := h.lt
  obtain ⟨i0, hi0, hz0, hz1, hz2⟩ := info_parts intInfo
  go_enter Try.func35, Try.ntmps35
  go_wp2_with fail
  refine (pick_any _ g p 6 (h.alloc _) (by omega) (by omega) (by omega)).mono ?_
  rintro e w1 ⟨r, rfl, hr0, hr1, hR1, k1⟩
  have b1 := (Bk.new w 35 #[.int .i64 0, .slice none 0 0, .int .i64 0, .int .i64 0]).just k1 (by omega)
  have HZ := hide (show w1.heap.size = w.heap.size + 1 by rw [k1.size]; simp)
  have HB := hide (((But.refl g w).alloc _).just k1)
  clear k1
  go_wp2_with fail
  refine (pick_any _ g (p + 1) _ ((hR1.alloc _).alloc _) (by omega) (by omega) (by omega)).mono ?_
  rintro e w2 ⟨n, rfl, hn0, hn1, hR2, k2⟩
  have b2 := ((b1.alloc (.cells #[] 3)).alloc (.cells #[.int .i64 (1 + r), .slice (some ⟨w1.heap.size, 0, none⟩) 0 0, .int .i64 (-1), .int .i64 0] 35)).just k2 (by omega)
  have o2 : Own w2 (w.heap.size + 1) w1.heap.size 0 0 [] := Own.new (by have := HZ.out; omega) (((Bk.new w1 3 #[]).alloc (.cells #[.int .i64 (1 + r), .slice (some ⟨w1.heap.size, 0, none⟩) 0 0, .int .i64 (-1), .int .i64 0] 35)).just k2 (by have := HZ.out; omega))
  have f2 : Bk w2 (w1.heap.size + 1) 35 #[.int .i64 (1 + r), .slice (some ⟨w1.heap.size, 0, none⟩) 0 0, .int .i64 (-1), .int .i64 0] := by
    have := (Bk.new (w1.alloc (.cells #[] 3)) 35 #[.int .i64 (1 + r), .slice (some ⟨w1.heap.size, 0, none⟩) 0 0, .int .i64 (-1), .int .i64 0]).just k2 (by have := HZ.out; simp; omega)
    simpa using this
  have HB := hide (((HB.out.alloc _).alloc _).just k2)
  clear k2 b1
  obtain ⟨n, rfl⟩ := Int.eq_ofNat_of_zero_le hn0
  obtain ⟨F, hF⟩ : ∃ F, w1.heap.size + 1 = F := ⟨_, rfl⟩
  rw [hF] at f2
  have HF := hide hF
  have hFg : F ≠ g := by have := HZ.out; omega
  have HFg := hide hFg
  have HFw := hide (show w.heap.size < F by have := HZ.out; omega)
  clear hFg
  go_wp2_with fail
  clear hF
  go_loopw [5] (fun i wr => ∃ (k h cap : Nat) (zs : List Int) (q : Int), i = .int .i64 k ∧ k ≤ n ∧ Rdr wr g q ∧ q ≤ p + 2 + k ∧ Bk wr F 35 #[.int .i64 (1 + r), .slice (some ⟨h, 0, none⟩) k cap, .int .i64 (-1), .int .i64 0] ∧ Own wr (w.heap.size + 1) h k cap zs ∧ Bk wr w.heap.size 35 #[.int .i64 0, .slice none 0 0, .int .i64 0, .int .i64 0] ∧ But g w wr) (fun i _ => n - (intOf i).toNat)
  case atStart => exact ⟨0, _, _, _, _, rfl, by omega, hR2, by omega, f2, o2, b2, HB.out⟩
  case round =>
    obtain ⟨k, h', cap, zs, q, rfl, hkn, hR, hq, fb, ob, rb, hbut⟩ := hrel
    have hgl := hR.lt
    by_cases hlt : k < n
    · have hlt' : (k : Int) < (n : Int) := by omega
      have hRd : Rdr wr.drew g q := hR
      have obd : Own wr.drew (w.heap.size + 1) h' k cap zs := ob
      have hne : h' ≠ g := by have := ob.lt; omega
      have hkm : k + 1 ≤ maxLen := by unfold maxLen; omega
      have HKM := hide hkm
      have HNE := hide hne
      have HFH := hide (ob.ne fb (by decide))
      have hwr : w.heap.size ≤ wr.heap.size := hbut.size
      clear hkm hne
      have qF := fb.cell
      have fF := fb.free
      go_wp2
      go_region_law (first | (go_simp; go_at_call 38; refine (pick_any wr.drew g q 256 hRd (by omega) (by omega) (by omega)).mono ?_; rintro e w4 ⟨x, rfl, hx0, hx1, hR4, k4⟩; have o4 := obd.just k4 HNE.out; have s4 : w.heap.size ≤ w4.heap.size := Nat.le_trans hwr (Nat.le_of_eq k4.size.symm); have f4 := Bk.just (w := wr.drew) fb k4 HFg.out; have q4 := f4.cell; have fr4 := f4.free; have lF4 := f4.lt) | (refine step_append_lies _ (by rfl) (.tmp 22) (.tmp 25) 23 (by rfl) (w.heap.size + 1) 3 i0 _ 1 8 Try.underlying23 hi0 hz0 hz1 hz2 rfl (by omega) (.slice (some ⟨h', 0, none⟩) k cap) k (zs.map (Value.int .i64)) (by rfl) (World.ownsRow.alloc o4 _) ⟨w4.heap.size, 0, none⟩ 1 1 [.int .i64 x] (by rfl) (by rfl) (World.news_of_block (cs := #[.int .i64 x]) (t := 3) (fr := (0, 0)) (heap_alloc_new w4 _)) (by simp [Value.oneCell']) (by omega) HKM.out (by omega) (by simp; omega) (w4.heap.size + 1) (by simp) ?_; intro gg cap' w5 ho5 hgrow hat hlt5; have f5 := Bk.grow (f4.alloc (.cells #[.int .i64 x] 3)) hgrow (by simpa [Value.ownBlock] using HFH.out); have q5 := f5.cell; have fr5 := f5.free))
      all_goals
        have r5 := ((hR4.alloc (.cells #[.int .i64 x] 3)).grow hgrow (by intro h hh; have := ob.lt; simp [Value.ownBlock] at hh; omega)).set (q := ⟨F, 1, none⟩) (by have := HFw.out; simp; omega) (.slice (some ⟨gg, 0, none⟩) (k + 1) cap')
        have F5 : Bk (w5.setCell ⟨F, 1, none⟩ (.slice (some ⟨gg, 0, none⟩) (k + 1) cap')) F 35 #[.int .i64 (1 + r), .slice (some ⟨gg, 0, none⟩) (k + 1) cap', .int .i64 (-1), .int .i64 0] := by simpa using f5.put 1 (.slice (some ⟨gg, 0, none⟩) (k + 1) cap')
        have O5 : Own w5 (w.heap.size + 1) gg (k + 1) cap' (zs ++ [x]) := by simpa [Own] using ho5
        have O6 := O5.far (p := ⟨F, 1, none⟩) (O5.ne f5 (by decide)) (.slice (some ⟨gg, 0, none⟩) (k + 1) cap')
        have R5 := (((Bk.just (w := wr.drew) rb k4 (by omega)).alloc (.cells #[.int .i64 x] 3)).grow hgrow (by have := ob.lt; simp [Value.ownBlock]; omega)).far (p := ⟨F, 1, none⟩) (by have := HFw.out; simp; omega) (.slice (some ⟨gg, 0, none⟩) (k + 1) cap')
        have B5 := ((((But.just (b := wr.drew) ⟨hbut.os, hbut.tape, hbut.output, hbut.size, hbut.block⟩ k4).alloc (.cells #[.int .i64 x] 3)).grow hgrow (by intro i hi; have := ob.lt; simp [Value.ownBlock] at hi; omega)).set (p := ⟨F, 1, none⟩) (.inr (by have := HFw.out; simp; omega)) (.slice (some ⟨gg, 0, none⟩) (k + 1) cap'))
        clear q5 fr5 q4 fr4 f5 f4
        go_wp2
        go_roundw
        case rel => exact ⟨k + 1, gg, cap', zs ++ [x], q + 1, by go_num, by omega, r5, by omega, F5, O6, R5, B5⟩
        case measure => simp [intOf]; omega
    · have hge : ¬ (k : Int) < (n : Int) := by omega
      have n1 : ¬ F = w.heap.size := by have := HFw.out; omega
      have n2 : ¬ w.heap.size = F := fun e => n1 e.symm
      have hFh := hide (ob.ne fb (by decide))
      have hRh := hide (ob.ne rb (by decide))
      go_wp2_with fail
      refine (pick_any _ g q 2 hR (by omega) (by omega) (by omega)).mono ?_
      rintro e wn ⟨m, rfl, hm0, hm1, hR, kn⟩
      have fb := fb.just kn HFg.out
      have ob := ob.just kn (by have := ob.lt; omega)
      have rb := rb.just kn (by omega)
      have hbut := hbut.just kn
      clear kn
      have qF := fb.cell
      have fF := fb.free
      have qR := rb.cell
      have fR := rb.free
      have lF := fb.lt
      have lR := rb.lt
      by_cases ee : m = 0
      · subst ee
        go_wp2_with fail
        refine (pick_any _ g _ 256 hR (by omega) (by omega) (by omega)).mono ?_
        rintro e wn ⟨x, rfl, hm0, hm1, hR, kn⟩
        have fb := (fb).just kn HFg.out
        have ob := (ob).just kn (by have := ob.lt; omega)
        have rb := (rb).just kn (by omega)
        have hbut := (hbut).just kn
        clear kn
        clear qF fF qR fR lF lR
        have qF := fb.cell
        have fF := fb.free
        have qR := rb.cell
        have fR := rb.free
        have lF := fb.lt
        have lR := rb.lt
        have hR := hR.set (q := ⟨F, 2, none⟩) (by have := HFw.out; simp; omega) (.int .i64 x)
        have fb := Bk.cast (fb.put 2 (.int .i64 x)) (cs' := #[.int .i64 (1 + r), .slice (some ⟨h', 0, none⟩) k cap, .int .i64 x, .int .i64 0]) (by simp)
        have ob := ob.far (p := ⟨F, 2, none⟩) hFh.out (.int .i64 x)
        have rb := rb.far (p := ⟨F, 2, none⟩) n2 (.int .i64 x)
        have hbut := hbut.set (p := ⟨F, 2, none⟩) (.inr (by have := HFw.out; simp; omega)) (.int .i64 x)
        go_wp2_with fail
        refine (pick_any _ g _ 3 hR (by omega) (by omega) (by omega)).mono ?_
        rintro e wn ⟨y1, rfl, hm0, hm1, hR, kn⟩
        have fb := (fb).just kn HFg.out
        have ob := (ob).just kn (by have := ob.lt; omega)
        have rb := (rb).just kn (by omega)
        have hbut := (hbut).just kn
        clear kn
        clear qF fF qR fR lF lR
        have qF := fb.cell
        have fF := fb.free
        have qR := rb.cell
        have fR := rb.free
        have lF := fb.lt
        have lR := rb.lt
        have hR := hR.set (q := ⟨F, 3, none⟩) (by have := HFw.out; simp; omega) (.int .i64 (1 + y1))
        have fb := Bk.cast (fb.put 3 (.int .i64 (1 + y1))) (cs' := #[.int .i64 (1 + r), .slice (some ⟨h', 0, none⟩) k cap, .int .i64 x, .int .i64 (1 + y1)]) (by simp)
        have ob := ob.far (p := ⟨F, 3, none⟩) hFh.out (.int .i64 (1 + y1))
        have rb := rb.far (p := ⟨F, 3, none⟩) n2 (.int .i64 (1 + y1))
        have hbut := hbut.set (p := ⟨F, 3, none⟩) (.inr (by have := HFw.out; simp; omega)) (.int .i64 (1 + y1))
        go_wp2_with fail
        refine (pick_any _ g _ 30 hR (by omega) (by omega) (by omega)).mono ?_
        rintro e wn ⟨m9, rfl, hm0, hm1, hR, kn⟩
        have fb := (fb).just kn HFg.out
        have ob := (ob).just kn (by have := ob.lt; omega)
        have rb := (rb).just kn (by omega)
        have hbut := (hbut).just kn
        clear qF fF qR fR lF lR
        clear kn
        have qF := fb.cell
        have fF := fb.free
        have qR := rb.cell
        have fR := rb.free
        have lF := fb.lt
        have lR := rb.lt
        by_cases e0 : m9 = 0
        · subst e0
          go_wp2_with fail
          refine (pick_any _ g _ 4 (hR.alloc _) (by omega) (by omega) (by omega)).mono ?_
          rintro e wn ⟨m, rfl, hm0, hm1, hR, kn⟩
          have fb := (fb.alloc (.cells #[.int .i64 (-1), .int .i64 0, .int .i64 1, .int .i64 4] 3)).just kn HFg.out
          have ob := (ob.alloc (.cells #[.int .i64 (-1), .int .i64 0, .int .i64 1, .int .i64 4] 3)).just kn (by have := ob.lt; omega)
          have rb := (rb.alloc (.cells #[.int .i64 (-1), .int .i64 0, .int .i64 1, .int .i64 4] 3)).just kn (by omega)
          have hbut := (hbut.alloc (.cells #[.int .i64 (-1), .int .i64 0, .int .i64 1, .int .i64 4] 3)).just kn
          have b3 := (Bk.new _ 3 #[.int .i64 (-1), .int .i64 0, .int .i64 1, .int .i64 4]).just kn (by omega)
          clear kn
          clear qF fF qR fR lF lR
          have qF := fb.cell
          have fF := fb.free
          have qR := rb.cell
          have fR := rb.free
          have lF := fb.lt
          have lR := rb.lt
          obtain ⟨y, hy⟩ := four_at b3 hm0 hm1
          go_wp2
          refine bodyPost_ret (by simp [results, Try.results35, go_sem, qR]; first | rfl | (and_intros <;> rfl)) rfl ⟨_, _, _, _, zs, _, _, rfl, ?_, ?_⟩
          · refine Own.le_ (base := w.heap.size + 1) ?_ (by omega)
            repeat (first | refine Own.far ?_ hFh.out _ | refine Own.far ?_ hRh.out _)
            exact ob
          · repeat (first | refine But.set ?_ (.inr (Nat.le_of_lt HFw.out)) _ | refine But.set ?_ (.inr (Nat.le_refl _)) _)
            exact hbut
        · have t0 : (m9 == 0) = false := by simpa using e0
          clear e0
          by_cases e1 : m9 = 1
          · subst e1
            go_wp2_with fail
            refine (pick_any _ g _ 2 (hR.alloc _) (by omega) (by omega) (by omega)).mono ?_
            rintro e wn ⟨m, rfl, hm0, hm1, hR, kn⟩
            have fb := (fb.alloc (.cells #[.int .i64 0, .int .i64 17] 3)).just kn HFg.out
            have ob := (ob.alloc (.cells #[.int .i64 0, .int .i64 17] 3)).just kn (by have := ob.lt; omega)
            have rb := (rb.alloc (.cells #[.int .i64 0, .int .i64 17] 3)).just kn (by omega)
            have hbut := (hbut.alloc (.cells #[.int .i64 0, .int .i64 17] 3)).just kn
            have b3 := (Bk.new _ 3 #[.int .i64 0, .int .i64 17]).just kn (by omega)
            clear kn
            clear qF fF qR fR lF lR
            have qF := fb.cell
            have fF := fb.free
            have qR := rb.cell
            have fR := rb.free
            have lF := fb.lt
            have lR := rb.lt
            obtain ⟨y, hy⟩ := two_at b3 hm0 hm1
            go_wp2
            refine bodyPost_ret (by simp [results, Try.results35, go_sem, qR]; first | rfl | (and_intros <;> rfl)) rfl ⟨_, _, _, _, zs, _, _, rfl, ?_, ?_⟩
            · refine Own.le_ (base := w.heap.size + 1) ?_ (by omega)
              repeat (first | refine Own.far ?_ hFh.out _ | refine Own.far ?_ hRh.out _)
              exact ob
            · repeat (first | refine But.set ?_ (.inr (Nat.le_of_lt HFw.out)) _ | refine But.set ?_ (.inr (Nat.le_refl _)) _)
              exact hbut
          · have t1 : (m9 == 1) = false := by simpa using e1
            clear e1
            go_wp2
            refine bodyPost_ret (by simp [results, Try.results35, go_sem, qR]; first | rfl | (and_intros <;> rfl)) rfl ⟨_, _, _, _, zs, _, _, rfl, ?_, ?_⟩
            · refine Own.le_ (base := w.heap.size + 1) ?_ (by omega)
              repeat (first | refine Own.far ?_ hFh.out _ | refine Own.far ?_ hRh.out _)
              exact ob
            · repeat (first | refine But.set ?_ (.inr (Nat.le_of_lt HFw.out)) _ | refine But.set ?_ (.inr (Nat.le_refl _)) _)
              exact hbut
      · have tt : (m == 0) = false := by simpa using ee
        clear ee
        go_wp2_with fail
        refine (pick_any _ g _ 30 hR (by omega) (by omega) (by omega)).mono ?_
        rintro e wn ⟨m9, rfl, hm0, hm1, hR, kn⟩
        have fb := (fb).just kn HFg.out
        have ob := (ob).just kn (by have := ob.lt; omega)
        have rb := (rb).just kn (by omega)
        have hbut := (hbut).just kn
        clear qF fF qR fR lF lR
        clear kn
        have qF := fb.cell
        have fF := fb.free
        have qR := rb.cell
        have fR := rb.free
        have lF := fb.lt
        have lR := rb.lt
        by_cases e0 : m9 = 0
        · subst e0
          go_wp2_with fail
          refine (pick_any _ g _ 4 (hR.alloc _) (by omega) (by omega) (by omega)).mono ?_
          rintro e wn ⟨m, rfl, hm0, hm1, hR, kn⟩
          have fb := (fb.alloc (.cells #[.int .i64 (-1), .int .i64 0, .int .i64 1, .int .i64 4] 3)).just kn HFg.out
          have ob := (ob.alloc (.cells #[.int .i64 (-1), .int .i64 0, .int .i64 1, .int .i64 4] 3)).just kn (by have := ob.lt; omega)
          have rb := (rb.alloc (.cells #[.int .i64 (-1), .int .i64 0, .int .i64 1, .int .i64 4] 3)).just kn (by omega)
          have hbut := (hbut.alloc (.cells #[.int .i64 (-1), .int .i64 0, .int .i64 1, .int .i64 4] 3)).just kn
          have b3 := (Bk.new _ 3 #[.int .i64 (-1), .int .i64 0, .int .i64 1, .int .i64 4]).just kn (by omega)
          clear kn
          clear qF fF qR fR lF lR
          have qF := fb.cell
          have fF := fb.free
          have qR := rb.cell
          have fR := rb.free
          have lF := fb.lt
          have lR := rb.lt
          obtain ⟨y, hy⟩ := four_at b3 hm0 hm1
          go_wp2
          refine bodyPost_ret (by simp [results, Try.results35, go_sem, qR]; first | rfl | (and_intros <;> rfl)) rfl ⟨_, _, _, _, zs, _, _, rfl, ?_, ?_⟩
          · refine Own.le_ (base := w.heap.size + 1) ?_ (by omega)
            repeat (first | refine Own.far ?_ hFh.out _ | refine Own.far ?_ hRh.out _)
            exact ob
          · repeat (first | refine But.set ?_ (.inr (Nat.le_of_lt HFw.out)) _ | refine But.set ?_ (.inr (Nat.le_refl _)) _)
            exact hbut
        · have t0 : (m9 == 0) = false := by simpa using e0
          clear e0
          by_cases e1 : m9 = 1
          · subst e1
            go_wp2_with fail
            refine (pick_any _ g _ 2 (hR.alloc _) (by omega) (by omega) (by omega)).mono ?_
            rintro e wn ⟨m, rfl, hm0, hm1, hR, kn⟩
            have fb := (fb.alloc (.cells #[.int .i64 0, .int .i64 17] 3)).just kn HFg.out
            have ob := (ob.alloc (.cells #[.int .i64 0, .int .i64 17] 3)).just kn (by have := ob.lt; omega)
            have rb := (rb.alloc (.cells #[.int .i64 0, .int .i64 17] 3)).just kn (by omega)
            have hbut := (hbut.alloc (.cells #[.int .i64 0, .int .i64 17] 3)).just kn
            have b3 := (Bk.new _ 3 #[.int .i64 0, .int .i64 17]).just kn (by omega)
            clear kn
            clear qF fF qR fR lF lR
            have qF := fb.cell
            have fF := fb.free
            have qR := rb.cell
            have fR := rb.free
            have lF := fb.lt
            have lR := rb.lt
            obtain ⟨y, hy⟩ := two_at b3 hm0 hm1
            go_wp2
            refine bodyPost_ret (by simp [results, Try.results35, go_sem, qR]; first | rfl | (and_intros <;> rfl)) rfl ⟨_, _, _, _, zs, _, _, rfl, ?_, ?_⟩
            · refine Own.le_ (base := w.heap.size + 1) ?_ (by omega)
              repeat (first | refine Own.far ?_ hFh.out _ | refine Own.far ?_ hRh.out _)
              exact ob
            · repeat (first | refine But.set ?_ (.inr (Nat.le_of_lt HFw.out)) _ | refine But.set ?_ (.inr (Nat.le_refl _)) _)
              exact hbut
          · have t1 : (m9 == 1) = false := by simpa using e1
            clear e1
            go_wp2
            refine bodyPost_ret (by simp [results, Try.results35, go_sem, qR]; first | rfl | (and_intros <;> rfl)) rfl ⟨_, _, _, _, zs, _, _, rfl, ?_, ?_⟩
            · refine Own.le_ (base := w.heap.size + 1) ?_ (by omega)
              repeat (first | refine Own.far ?_ hFh.out _ | refine Own.far ?_ hRh.out _)
              exact ob
            · repeat (first | refine But.set ?_ (.inr (Nat.le_of_lt HFw.out)) _ | refine But.set ?_ (.inr (Nat.le_refl _)) _)
              exact hbut
end Go.Proofs.Ytkfjcamkgigolaa
