/-
  Walks of the functions that draw samples with a place. Each contract says that the samples are a slice of the call's own and that nothing that was there has turned.
-/
import Derived.Test.YtnbomcglkgbblaaLinD
import Derived.Test.YtnbomcglkgbblaaSmpL
namespace Go.Proofs.Ytnbomcglkgbblaa
open Go.RowKit
set_option linter.unusedVariables false

theorem below3' {w w' : World} {B R : Nat} (h : Below B w w') (hp : B ≤ R) (a b c : Value) : Below B w (((w'.setCell ⟨R, 0, none⟩ a).setCell ⟨R, 1, none⟩ b).setCell ⟨R, 2, none⟩ c) :=
  ((h.setCell (p := ⟨R, 0, none⟩) hp a).setCell (p := ⟨R, 1, none⟩) hp b).setCell (p := ⟨R, 2, none⟩) hp c
/-- Drawn samples and a place. -/
def Ls (w : World) (e : Ending) (w' : World) : Prop :=
  ∃ (h k cap : Nat) (zs : List Int) (at_ : Int), e = .returned (.tuple #[.slice (some ⟨h, 0, none⟩) k cap, .int .i64 at_]) ∧ Own w' w.heap.size h k cap zs ∧ k ≤ 500 ∧ -1 ≤ at_ ∧ at_ ≤ 502 ∧ Below w.heap.size w w'
set_option maxHeartbeats 1000000 in
theorem dDrawLineStart_any (a : Option Addr) (len cap : Nat) (zs : List Int) (w : World) (h : IsRow .u8 w a len cap zs) :
    Calls Try.prog 15 #[.slice a len cap] w (Ls w) := by
  go_enter Try.func15, Try.ntmps15
  go_wp2_with fail
  refine (open_any a len cap zs _ h).mono ?_
  rintro e w1 ⟨rfl, hr1, hz1, k1⟩
  obtain ⟨g, hg⟩ : ∃ g, w.heap.size = g := ⟨_, rfl⟩
  rw [hg] at hr1 hz1 ⊢
  have HG := hide hg
  have Z1 := hide hz1
  have K1 := hide k1
  clear hg hz1 k1
  go_wp2_with fail
  refine (l91Line_any _ _ _ hr1 (by omega)).mono ?_
  rintro e w2 ⟨x, y, z, h2, n, cp, ys, q, rfl, o, hn, hq0, hq1, hr2, k2⟩
  have K := hide (K1.out.trans (k2.toBelow (B := w.heap.size) (by have := HG.out; omega) (by have := Z1.out; have := HG.out; omega)))
  have o := o.le_ (base' := w.heap.size + 1) (by have := Z1.out; have := HG.out; omega)
  have o := o.alloc (.cells #[.int .i64 x, .int .i64 y, .int .i64 z] 36)
  have hr3 := hr2.alloc (.cells #[.int .i64 x, .int .i64 y, .int .i64 z] 36)
  have K := hide (K.out.alloc K.out.size (.cells #[.int .i64 x, .int .i64 y, .int .i64 z] 36))
  have hn' : (n : Int) ≤ 500 := by omega
  clear k2 hr1 hr2
  go_wp2_with fail
  refine (pick_any _ _ _ _ hr3 (by omega) (by omega) (by omega)).mono ?_
  rintro e w3 ⟨m, rfl, hm0, hm1, hr4, k3⟩
  have o := o.just k3 (by have := o.lt; have := HG.out; omega)
  have K := hide (k3.below K.out (by have := HG.out; omega))
  clear k3 hr3
  go_wp2_with fail
  refine (pick_any _ _ _ _ hr4 (by omega) (by omega) (by omega)).mono ?_
  rintro e w4 ⟨m2, rfl, hm20, hm21, hr5, k4⟩
  have o := o.just k4 (by have := o.lt; have := HG.out; omega)
  have K := hide (k4.below K.out (by have := HG.out; omega))
  clear k4 hr4
  go_wp2
  go_ret2
  exact ⟨h2, n, cp, ys, _, rfl, o.le_ (by have := HG.out; omega), hn, by omega, by omega, K.out⟩
/-- A drawn format and samples. -/
def Lr (w : World) (e : Ending) (w' : World) : Prop :=
  ∃ (a b c : Int) (h k cap : Nat) (zs : List Int), e = .returned (.tuple #[.agg #[.int .i64 a, .int .i64 b, .int .i64 c], .slice (some ⟨h, 0, none⟩) k cap]) ∧ Own w' w.heap.size h k cap zs ∧ k ≤ 500 ∧ Below w.heap.size w w'
set_option maxHeartbeats 1000000 in
theorem dDrawLineRead_any (a : Option Addr) (len cap : Nat) (zs : List Int) (w : World) (h : IsRow .u8 w a len cap zs) :
    Calls Try.prog 29 #[.slice a len cap] w (Lr w) := by
  go_enter Try.func29, Try.ntmps29
  go_wp2_with fail
  refine (open_any a len cap zs _ (h.alloc _)).mono ?_
  rintro e w1 ⟨rfl, hr1, hz1, k1⟩
  have b1 : Bk w1 w.heap.size 36 #[.int .i64 0, .int .i64 0, .int .i64 0] := (Bk.new w 36 _).belowAll k1
  have k1 := ((Below.refl w.heap.size w).alloc (Nat.le_refl _) _).trans (k1.mono (by simp))
  obtain ⟨g, hg⟩ : ∃ g, (w.alloc (.cells #[.int .i64 0, .int .i64 0, .int .i64 0] 36)).heap.size = g := ⟨_, rfl⟩
  rw [hg] at hr1 hz1 ⊢
  have HG := hide (show w.heap.size + 1 = g by rw [← hg]; simp)
  have Z1 := hide hz1
  have K1 := hide k1
  clear hg hz1 k1
  go_wp2_with fail
  refine (l91Line_any _ _ _ hr1 (by omega)).mono ?_
  rintro e w2 ⟨x, y, z, h2, n, cp, ys, q, rfl, o, hn, hq0, hq1, hr2, k2⟩
  have K := hide (K1.out.trans (k2.toBelow (B := w.heap.size) (by have := HG.out; omega) (by have := Z1.out; have := HG.out; omega)))
  have rb := b1.but k2 (by have := HG.out; omega)
  have o := o.le_ (base' := w.heap.size + 1) (by have := Z1.out; have := HG.out; omega)
  clear k2 hr1 hr2
  have qR := rb.cell
  have fR := rb.free
  have lR := rb.lt
  go_wp2
  refine bodyPost_ret (by simp [results, Try.results29, go_sem, qR] <;> first | rfl | (and_intros <;> rfl)) rfl ⟨x, y, z, h2, n, cp, ys, rfl, ?_, hn, ?_⟩
  · exact (o.set3 (R := w.heap.size) (by have := o.lt; omega) _ _ _).le_ (by omega)
  · exact below3' K.out (Nat.le_refl _) _ _ _
/-- A drawn format, samples and a place. -/
def Lb (w : World) (e : Ending) (w' : World) : Prop :=
  ∃ (a b c : Int) (h k cap : Nat) (zs : List Int) (at_ : Int), e = .returned (.tuple #[.agg #[.int .i64 a, .int .i64 b, .int .i64 c], .slice (some ⟨h, 0, none⟩) k cap, .int .i64 at_]) ∧ Own w' w.heap.size h k cap zs ∧ k ≤ 500 ∧ -1 ≤ at_ ∧ at_ ≤ 502 ∧ Below w.heap.size w w'
theorem ls_bd {n : Nat} {zs : List Int} (hl : zs.length = n) (hn : n ≤ 500) : -1 ≤ ls n zs 0 ∧ ls n zs 0 ≤ 500 := by
  unfold ls
  split
  · rcases sf_cases zs 0 with ⟨e, _⟩ | ⟨p, e, _, h2, _⟩
    · simp [e]
    · simp [e]; omega
  · omega
set_option maxHeartbeats 2000000 in
theorem dDrawLineByte_any (a : Option Addr) (len cap : Nat) (zs : List Int) (w : World) (h : IsRow .u8 w a len cap zs) :
    Calls Try.prog 20 #[.slice a len cap] w (Lb w) := by
  go_enter Try.func20, Try.ntmps20
  go_wp2_with fail
  refine (open_any a len cap zs _ (h.alloc _)).mono ?_
  rintro e w1 ⟨rfl, hr1, hz1, k1⟩
  have b1 : Bk w1 w.heap.size 36 #[.int .i64 0, .int .i64 0, .int .i64 0] := (Bk.new w 36 _).belowAll k1
  have k1 := ((Below.refl w.heap.size w).alloc (Nat.le_refl _) _).trans (k1.mono (by simp))
  obtain ⟨g, hg⟩ : ∃ g, (w.alloc (.cells #[.int .i64 0, .int .i64 0, .int .i64 0] 36)).heap.size = g := ⟨_, rfl⟩
  rw [hg] at hr1 hz1 ⊢
  have HG := hide (show w.heap.size + 1 = g by rw [← hg]; simp)
  have Z1 := hide hz1
  have K1 := hide k1
  clear hg hz1 k1
  go_wp2_with fail
  refine (l91Line_any _ _ _ hr1 (by omega)).mono ?_
  rintro e w2 ⟨x, y, z, h2, n, cp, ys, q, rfl, o, hn, hq0, hq1, hr2, k2⟩
  have K := hide (K1.out.trans (k2.toBelow (B := w.heap.size) (by have := HG.out; omega) (by have := Z1.out; have := HG.out; omega)))
  have rb := b1.but k2 (by have := HG.out; omega)
  have HOW := hide o.lt.2
  have o := o.le_ (base' := g + 1) (by have := Z1.out; omega)
  obtain ⟨F, hF⟩ : ∃ F, w2.heap.size = F := ⟨_, rfl⟩
  have fb := Bk.new w2 36 #[.int .i64 x, .int .i64 y, .int .i64 z]
  have lg := hr2.lt
  have lR0 := rb.lt
  rw [hF] at fb lg lR0 HOW
  have o := o.alloc (.cells #[.int .i64 x, .int .i64 y, .int .i64 z] 36)
  have hr3 := hr2.alloc (.cells #[.int .i64 x, .int .i64 y, .int .i64 z] 36)
  have rb := rb.alloc (.cells #[.int .i64 x, .int .i64 y, .int .i64 z] 36)
  have K := hide (K.out.alloc K.out.size (.cells #[.int .i64 x, .int .i64 y, .int .i64 z] 36))
  have hn' : (n : Int) ≤ 500 := by omega
  have n1 : ¬ F = w.heap.size := by omega
  have n2 : ¬ w.heap.size = F := by omega
  have NG := hide (show F ≠ g by omega)
  have HGW := hide (show w.heap.size ≠ g by have := HG.out; omega)
  have HLS := hide (ls_bd o.len hn)
  clear k2 hr1 hr2
  go_wp2_with fail
  refine (spec_ls _ _ _ ys 0 _ o.sl (by omega)).mono ?_
  rintro e w3 ⟨rfl, hw3⟩
  rw [← hw3]
  clear hw3 hF
  obtain ⟨A, hA⟩ : ∃ A, ls n ys 0 = A := ⟨_, rfl⟩
  rw [hA] at HLS ⊢
  obtain ⟨hA0, hA1⟩ := HLS.out
  obtain ⟨w4, hw4⟩ : ∃ w4, w2.alloc (.cells #[.int .i64 x, .int .i64 y, .int .i64 z] 36) = w4 := ⟨_, rfl⟩
  rw [hw4] at fb rb hr3 K o ⊢
  clear hw4 hA
  by_cases hneg : A < 0
  · have qF := fb.cell
    have qR := rb.cell
    have fR := rb.free
    have lF := fb.lt
    have lR := rb.lt
    have hr5 : Rdr w4.drew g q := hr3
    have x1 : IntKind.i64.wrap ((n : Int) + 2) = (n : Int) + 2 := IntWalk.i64_in _ (by omega)
    go_wp2
    go_region_law (first | (go_simp; go_at_call 37; refine (pick_any _ g q _ hr5 (by omega) (by omega) (by omega)).mono ?_; rintro e w5 ⟨m5, rfl, hm50, hm51, hr6, k6⟩; have f5 := Bk.just (w := w4.drew) fb k6 NG.out; have q5 := f5.cell; have r5 := Bk.just (w := w4.drew) rb k6 HGW.out; have q5' := r5.cell; have fr5' := r5.free; have lR5 := r5.lt; have x2 : IntKind.i64.wrap (m5 - 1) = m5 - 1 := IntWalk.i64_in _ (by omega)))
    all_goals
      have o5 := Own.just (w := w4.drew) o k6 (by have := o.lt; omega)
      have K5 := k6.below (K.out.drew) (by have := HG.out; omega)
      go_wp2
      refine bodyPost_ret (by simp [results, Try.results20, go_sem, q5'] <;> first | rfl | (and_intros <;> rfl)) rfl ⟨x, y, z, h2, n, cp, ys, m5 - 1, rfl, ?_, hn, by omega, by omega, ?_⟩
      · exact (o5.set3 (R := w.heap.size) (by have := o.lt; have := HG.out; omega) _ _ _).le_ (by have := HG.out; omega)
      · exact below3' K5 (Nat.le_refl _) _ _ _
  · go_wp2_with fail
    refine (pick_any _ _ _ _ hr3 (by omega) (by omega) (by omega)).mono ?_
    rintro e w5 ⟨m, rfl, hm0, hm1, hr4, k5⟩
    have fb := fb.just k5 NG.out
    have rb := rb.just k5 HGW.out
    have o := o.just k5 (by have := o.lt; omega)
    have K := hide (k5.below K.out (by have := HG.out; omega))
    clear k5 hr3
    have qF := fb.cell
    have qR := rb.cell
    have fR := rb.free
    have lF := fb.lt
    have lR := rb.lt
    by_cases em : m = 0
    · subst em
      have hr5 : Rdr w5.drew g (q + 1) := hr4
      have x1 : IntKind.i64.wrap ((n : Int) + 2) = (n : Int) + 2 := IntWalk.i64_in _ (by omega)
      go_wp2
      go_region_law (first | (go_simp; go_at_call 37; refine (pick_any _ g (q + 1) _ hr5 (by omega) (by omega) (by omega)).mono ?_; rintro e w6 ⟨m5, rfl, hm50, hm51, hr6, k6⟩; have f5 := Bk.just (w := w5.drew) fb k6 NG.out; have q5 := f5.cell; have r5 := Bk.just (w := w5.drew) rb k6 HGW.out; have q5' := r5.cell; have fr5' := r5.free; have lR5 := r5.lt; have x2 : IntKind.i64.wrap (m5 - 1) = m5 - 1 := IntWalk.i64_in _ (by omega)))
      all_goals
        have o5 := Own.just (w := w5.drew) o k6 (by have := o.lt; omega)
        have K5 := k6.below (K.out.drew) (by have := HG.out; omega)
        go_wp2
        refine bodyPost_ret (by simp [results, Try.results20, go_sem, q5'] <;> first | rfl | (and_intros <;> rfl)) rfl ⟨x, y, z, h2, n, cp, ys, m5 - 1, rfl, ?_, hn, by omega, by omega, ?_⟩
        · exact (o5.set3 (R := w.heap.size) (by have := o.lt; have := HG.out; omega) _ _ _).le_ (by have := HG.out; omega)
        · exact below3' K5 (Nat.le_refl _) _ _ _
    · have tm : (m == 0) = false := by simpa using em
      clear em
      go_wp2
      refine bodyPost_ret (by simp [results, Try.results20, go_sem, qR] <;> first | rfl | (and_intros <;> rfl)) rfl ⟨x, y, z, h2, n, cp, ys, A, rfl, ?_, hn, by omega, by omega, ?_⟩
      · exact (o.set3 (R := w.heap.size) (by have := o.lt; have := HG.out; omega) _ _ _).le_ (by have := HG.out; omega)
      · exact below3' K.out (Nat.le_refl _) _ _ _
end Go.Proofs.Ytnbomcglkgbblaa
