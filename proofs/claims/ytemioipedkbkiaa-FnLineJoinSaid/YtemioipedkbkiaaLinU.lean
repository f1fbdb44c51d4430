/-
  The walk of the function that draws bytes for a line. The contract says that the bytes are a slice of the call's own and that nothing that was there has turned.
-/
import Derived.Test.YtemioipedkbkiaaLinD
import Derived.Deep.RegionLaw
namespace Go.Proofs.Ytemioipedkbkiaa
open Go.RowKit
set_option linter.unusedVariables false

theorem below3u {w w' : World} {B R : Nat} (h : Below B w w') (hp : B ≤ R) (a b c : Value) : Below B w (((w'.setCell ⟨R, 0, none⟩ a).setCell ⟨R, 1, none⟩ b).setCell ⟨R, 2, none⟩ c) :=
  ((h.setCell (p := ⟨R, 0, none⟩) hp a).setCell (p := ⟨R, 1, none⟩) hp b).setCell (p := ⟨R, 2, none⟩) hp c
/-- Drawn bytes and a number of quiet samples. -/
def Dl (w : World) (e : Ending) (w' : World) : Prop :=
  ∃ (x y z : Int) (h k cap : Nat) (zs : List Int) (idle : Int), e = .returned (.tuple #[.agg #[.int .i64 x, .int .i64 y, .int .i64 z], .slice (some ⟨h, 0, none⟩) k cap, .int .i64 idle]) ∧ Own w' w.heap.size h k cap zs ∧ k ≤ 9 ∧ 0 ≤ idle ∧ idle ≤ 21 ∧ Below w.heap.size w w'
set_option maxHeartbeats 4000000 in
theorem dDrawLineOf_any (a : Option Addr) (len cap : Nat) (zs : List Int) (w : World) (h : IsRow .u8 w a len cap zs) :
    Calls Try.prog 15 #[.slice a len cap] w (Dl w) := by
  go_enter Try.func15, Try.ntmps15
  go_wp2_with fail
  refine (open_any a len cap zs _ (h.alloc _)).mono ?_
  rintro e w1 ⟨rfl, hr1, hz1, k1⟩
  have b1 : Bk w1 w.heap.size 27 #[.int .i64 0, .int .i64 0, .int .i64 0] := (Bk.new w 27 _).belowAll k1
  have k1 := ((Below.refl w.heap.size w).alloc (Nat.le_refl _) _).trans (k1.mono (by simp))
  obtain ⟨g, hg⟩ : ∃ g, (w.alloc (.cells #[.int .i64 0, .int .i64 0, .int .i64 0] 27)).heap.size = g := ⟨_, rfl⟩
  rw [hg] at hr1 hz1 ⊢
  have HG := hide (show w.heap.size + 1 = g by rw [← hg]; simp)
  have Z1 := hide hz1
  clear hg hz1
  go_wp2_with fail
  refine (format_any _ _ _ hr1 (by omega)).mono ?_
  rintro e w2 ⟨x, y, z, q, rfl, hx, hq1, hq2, hr2, k2⟩
  have b2 := (b1.but k2 (by have := HG.out; omega))
  have K := hide (k1.trans (k2.toBelow (B := w.heap.size) (by have := HG.out; omega) (by have := Z1.out; have := HG.out; omega)))
  clear k1 k2 b1 hr1
  have lg := hr2.lt
  have lw := b2.lt
  obtain ⟨F, hF⟩ : ∃ F, w2.heap.size = F := ⟨_, rfl⟩
  have fb := Bk.new w2 27 #[.int .i64 x, .int .i64 y, .int .i64 z]
  have rb := b2.alloc (.cells #[.int .i64 x, .int .i64 y, .int .i64 z] 27)
  have hr3 := hr2.alloc (.cells #[.int .i64 x, .int .i64 y, .int .i64 z] 27)
  have K := hide (K.out.alloc K.out.size (.cells #[.int .i64 x, .int .i64 y, .int .i64 z] 27))
  rw [hF] at fb lg lw
  have NG := hide (show F ≠ g by omega)
  have HGW := hide (show w.heap.size ≠ g by have := HG.out; omega)
  have HFW := hide (show w.heap.size < F by omega)
  have qF := fb.cell
  go_wp2_with fail
  clear hF
  obtain ⟨w3, hw3⟩ : ∃ w3, w2.alloc (.cells #[.int .i64 x, .int .i64 y, .int .i64 z] 27) = w3 := ⟨_, rfl⟩
  rw [hw3] at fb rb hr3 K ⊢
  clear hw3 hr2 b2 qF
  refine (l91Bytes_any _ _ _ _ _ g q hr3 (by omega) (by omega) (by omega)).mono ?_
  rintro e w4 ⟨h4, n4, c4, ys, q4, rfl, o4, hn4, hq40, hq41, hr4, k4⟩
  have HH4 := hide (show F < h4 from Nat.lt_of_lt_of_le fb.lt o4.lt.1)
  have HG4 := hide (show g < h4 from Nat.lt_of_lt_of_le hr3.lt o4.lt.1)
  have o4 := o4.le_ (base' := w.heap.size) (Nat.le_of_lt rb.lt)
  have f4 := fb.but k4 NG.out
  have r4 := rb.but k4 HGW.out
  have K := hide (K.out.trans (k4.toBelow (B := w.heap.size) (by have := HG.out; omega) (Nat.le_of_lt rb.lt)))
  clear k4 fb rb hr3
  go_wp2_with fail
  refine (pick_any _ g q4 _ hr4 (by omega) (by omega) (by omega)).mono ?_
  rintro e w5 ⟨m5, rfl, hm50, hm51, hr5, k5⟩
  have f5 := f4.just k5 NG.out
  have r5 := r4.just k5 HGW.out
  have o5 := o4.just k5 (by have := HG4.out; omega)
  have K := hide (k5.below K.out (by have := HG.out; omega))
  clear k5 f4 r4 o4 hr4
  have qF := f5.cell
  have qR := r5.cell
  have fR := r5.free
  have lF := f5.lt
  have lR := r5.lt
  have n1 : ¬ F = w.heap.size := by have := HFW.out; omega
  have n2 : ¬ w.heap.size = F := by have := HFW.out; omega
  have n3 : ¬ h4 = w.heap.size := by have := HFW.out; have := HH4.out; omega
  have n4' : ¬ w.heap.size = h4 := by have := HFW.out; have := HH4.out; omega
  by_cases e0 : m5 = 0
  · have t0 : (m5 == 0) = true := by simpa using e0
    clear e0
    go_wp2_with fail
    obtain ⟨i0, hi0, hz⟩ := Option.map_eq_some_iff.1 int_info1
    simp only [Prod.mk.injEq] at hz
    obtain ⟨hz0, hz1, hz2⟩ := hz
    have KA : Below w.heap.size w (w5.drew.alloc (.cells #[.int .i64 256] 3)) := (K.out.drew).alloc (by have := K.out.size; simpa using this) _
    have HSA := hide KA.size
    have HWH := hide (show w.heap.size ≤ h4 by have := HFW.out; have := HH4.out; omega)
    have o7 : Own (w5.drew.alloc (.cells #[.int .i64 256] 3)) w.heap.size h4 n4 c4 ys := Own.alloc (w := w5.drew) o5 _
    go_region_law (first | (refine step_append_lies _ (by rfl) (.tmp 19) (.tmp 20) 24 (by rfl) w.heap.size 3 i0 _ 1 8 Try.underlying24 hi0 hz0 hz1 hz2 rfl (by omega) (.slice (some ⟨h4, 0, none⟩) n4 c4) n4 (ys.map (Value.int .i64)) (by rfl) (by exact o7) ⟨w5.heap.size, 0, none⟩ 1 1 [.int .i64 256] (by rfl) (by rfl) (World.news_of_block (cs := #[.int .i64 256]) (t := 3) (fr := (0, 0)) (heap_alloc_new w5.drew _)) (by simp [Value.oneCell']) (by omega) (by unfold maxLen; omega) (by omega) (by have := K.out.size; simp; omega) (w5.heap.size + 1) (by simp) ?_; intro gg cap' w6 ho6 hgrow hat hlt6; have f6 := Bk.grow (w := w5.drew.alloc _) (Bk.alloc (w := w5.drew) f5 _) hgrow (by have := HH4.out; simp [Value.ownBlock]; omega); have r6 := Bk.grow (w := w5.drew.alloc _) (Bk.alloc (w := w5.drew) r5 _) hgrow (by simp [Value.ownBlock]; omega); have K6 := KA.trans (grown_below (show World.grownBy _ w6 (some h4) from hgrow) HWH.out HSA.out); have qF6 := f6.cell; have qR6 := r6.cell; have fR6 := r6.free; have lR6 := r6.lt; have n6 : gg ≠ w.heap.size := (by have := HFW.out; have := HH4.out; have := lR; rcases hat with e | e <;> first | (simp [Value.ownBlock] at e; omega) | omega)))
    all_goals
      go_wp2
      refine bodyPost_ret (by simp [results, Try.results15, go_sem, qR6] <;> first | rfl | (and_intros <;> rfl)) rfl ⟨x, y, z, gg, n4 + 1, cap', ys ++ [256], 21, rfl, ?_, by omega, by omega, by omega, ?_⟩
      · exact Own.set3 (by simpa [Own] using ho6) (by omega) _ _ _
      · exact below3u K6 (Nat.le_refl _) _ _ _
  · have t0 : (m5 == 0) = false := by simpa using e0
    clear e0
    have hr6 : Rdr w5.drew g (q4 + 1) := hr5
    have KD := K.out.drew
    go_wp2_with fail
    go_region_law (first | (go_simp; go_at_call 31; refine (pick_any _ g (q4 + 1) _ hr6 (by omega) (by omega) (by omega)).mono ?_; rintro e w6 ⟨m6, rfl, hm60, hm61, hr7, k6⟩; have f6 := Bk.just (w := w5.drew) f5 k6 NG.out; have r6 := Bk.just (w := w5.drew) r5 k6 HGW.out; have o6 := Own.just (w := w5.drew) o5 k6 (by have := HG4.out; omega); have K6 := k6.below KD (by have := HG.out; omega); have qF6 := f6.cell; have qR6 := r6.cell; have fR6 := r6.free; have lR6 := r6.lt))
    all_goals
      go_wp2
      refine bodyPost_ret (by simp [results, Try.results15, go_sem, qR6] <;> first | rfl | (and_intros <;> rfl)) rfl ⟨x, y, z, h4, n4, c4, ys, m6, rfl, ?_, by omega, by omega, by omega, ?_⟩
      · exact o6.set3 (by omega) _ _ _
      · exact below3u K6 (Nat.le_refl _) _ _ _
end Go.Proofs.Ytemioipedkbkiaa
