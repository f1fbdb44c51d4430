/-
  Walks of the two functions LineByte. Each contract says what the function returns for what the slice reads as, and that nothing that was there has turned.
-/
import Derived.Test.YtnbomcglkgbblaaLinB
namespace Go.Proofs.Ytnbomcglkgbblaa
open Go.RowKit
set_option linter.unusedVariables false

def lbOk (a b c : Int) (n : Nat) (zs : List Int) (x : Int) : Prop := fv a b c = true ∧ smp n zs = true ∧ 0 ≤ x ∧ x < (n : Int)
instance (a b c : Int) (n : Nat) (zs : List Int) (x : Int) : Decidable (lbOk a b c n zs x) := by unfold lbOk; infer_instance
def lbv (a b c : Int) (n : Nat) (zs : List Int) (x : Int) : Int := if lbOk a b c n zs x then byv a b c zs x.toNat else 0
def lbc (a b c : Int) (n : Nat) (zs : List Int) (x : Int) : Int := if lbOk a b c n zs x then byc a b c zs x.toNat else 3
theorem lb_in {a b c : Int} {n : Nat} {zs : List Int} {x : Int} (h1 : fv a b c = true) (h2 : smp n zs = true) (h3 : 0 ≤ x) (h4 : x < (n : Int)) : lbv a b c n zs x = byv a b c zs x.toNat ∧ lbc a b c n zs x = byc a b c zs x.toNat := by
  unfold lbv lbc; rw [if_pos ⟨h1, h2, h3, h4⟩, if_pos ⟨h1, h2, h3, h4⟩]; exact ⟨rfl, rfl⟩
theorem lb_out {a b c : Int} {n : Nat} {zs : List Int} {x : Int} (h : ¬ lbOk a b c n zs x) : lbv a b c n zs x = 0 ∧ lbc a b c n zs x = 3 := by
  unfold lbv lbc; rw [if_neg h, if_neg h]; exact ⟨rfl, rfl⟩
set_option maxHeartbeats 1000000 in
theorem iLb_any (a b c : Int) (p : Option Addr) (len cap : Nat) (zs : List Int) (at_ : Int) (w : World) (h : Sl w p len cap zs) :
    Calls Try.prog 18 #[.agg #[.int .i64 a, .int .i64 b, .int .i64 c], .slice p len cap, .int .i64 at_] w fun e w' => e = .returned (.agg #[.int .i64 (lbv a b c len zs at_), .int .i64 (lbc a b c len zs at_)]) ∧ Below w.heap.size w w' := by
  have hlc : (len : Int) ≤ 9223372036854775807 := by have := h.2.1; have := h.2.2.1; omega
  have K := hide (((Below.refl w.heap.size w).alloc (Nat.le_refl _) (.cells #[.int .i64 a, .int .i64 b, .int .i64 c] 36)).alloc (by simp) (.cells #[.int .i64 0, .int .i64 0] 34))
  have f := (Bk.new w 36 #[.int .i64 a, .int .i64 b, .int .i64 c]).alloc (.cells #[.int .i64 0, .int .i64 0] 34)
  have r : Bk ((w.alloc (.cells #[.int .i64 a, .int .i64 b, .int .i64 c] 36)).alloc (.cells #[.int .i64 0, .int .i64 0] 34)) (w.heap.size + 1) 34 #[.int .i64 0, .int .i64 0] := by
    have := Bk.new (w.alloc (.cells #[.int .i64 a, .int .i64 b, .int .i64 c] 36)) 34 #[.int .i64 0, .int .i64 0]
    simpa using this
  have hs := (h.alloc (.cells #[.int .i64 a, .int .i64 b, .int .i64 c] 36)).alloc (.cells #[.int .i64 0, .int .i64 0] 34)
  clear h
  by_cases hv : fv a b c = true
  · have HV := hide hv
    by_cases hm : smp len zs = true
    · have HS := hide hm
      have hl5 : len ≤ 500 := by simp [smp] at hm; exact hm.1
      have hl5' : (len : Int) ≤ 500 := by omega
      by_cases hr : 0 ≤ at_ ∧ at_ < (len : Int)
      · obtain ⟨e1, e2⟩ := lb_in (c := c) hv hm hr.1 hr.2
        rw [e1, e2]
        obtain ⟨h0, h1⟩ := hr
        obtain ⟨q0, rfl⟩ := Int.eq_ofNat_of_zero_le h0
        simp only [Int.toNat_natCast]
        have HR := hide (show (decide (0 ≤ (q0 : Int)) && decide ((q0 : Int) ≤ (len : Int) - 1)) = true by simp; omega)
        have hq : q0 < len := by omega
        clear hv hm e1 e2
        go_enter Try.func18, Try.ntmps18
        go_wp2_with fail
        refine (ifv_any _ _ _ _).mono ?_
        rintro e w1 ⟨rfl, k1⟩
        rw [HV.out]
        have f := f.belowAll k1
        have r := r.belowAll k1
        have hs := hs.below k1 (Nat.le_refl _)
        have K := hide (K.out.trans (k1.mono (by have := K.out.size; first | exact this | simpa using this)))
        clear k1
        have q := f.cell
        have qR := r.cell
        have fR := r.free
        have lR := r.lt
        go_wp2_with fail
        refine (samplesValid_any _ _ _ zs _ hs).mono ?_
        rintro e w2 ⟨rfl, hw2⟩
        subst hw2
        rw [HS.out]
        go_wp2_with fail
        refine (iba_any _ _ _ _ _ _ zs q0 _ hs HV.out hq hl5).mono ?_
        rintro e w3 ⟨rfl, k3⟩
        have r := r.belowAll k3
        have K := hide (K.out.trans (k3.mono K.out.size))
        clear k3 q qR fR lR
        have qR := r.cell
        have fR := r.free
        have lR := r.lt
        go_wp2
        refine bodyPost_ret (by simp [results, Try.results18, go_sem, qR] <;> first | rfl | (and_intros <;> rfl)) rfl ⟨rfl, ?_⟩
        exact (K.out.setCell (by simp) _).setCell (by simp) _
      · obtain ⟨e1, e2⟩ := lb_out (a := a) (b := b) (c := c) (n := len) (zs := zs) (x := at_) (by rintro ⟨_, _, h⟩; exact hr h)
        rw [e1, e2]
        have HR := hide (show (decide (0 ≤ at_) && decide (at_ ≤ (len : Int) - 1)) = false by simp; omega)
        clear hv hm e1 e2
        by_cases hneg : at_ < 0
        · have hr' := hneg
          clear hr hneg
          go_enter Try.func18, Try.ntmps18
          go_wp2_with fail
          refine (ifv_any _ _ _ _).mono ?_
          rintro e w1 ⟨rfl, k1⟩
          rw [HV.out]
          have f := f.belowAll k1
          have r := r.belowAll k1
          have hs := hs.below k1 (Nat.le_refl _)
          have K := hide (K.out.trans (k1.mono (by have := K.out.size; first | exact this | simpa using this)))
          clear k1
          have q := f.cell
          have qR := r.cell
          have fR := r.free
          have lR := r.lt
          go_wp2_with fail
          refine (samplesValid_any _ _ _ zs _ hs).mono ?_
          rintro e w2 ⟨rfl, hw2⟩
          subst hw2
          rw [HS.out]
          go_wp2
          refine bodyPost_ret (by simp [results, Try.results18, go_sem, qR] <;> first | rfl | (and_intros <;> rfl)) rfl ⟨rfl, ?_⟩
          exact (K.out.setCell (by simp) _).setCell (by simp) _
        · have hge : (len : Int) ≤ at_ := by omega
          have hnn : 0 ≤ at_ := by omega
          clear hr hneg
          go_enter Try.func18, Try.ntmps18
          go_wp2_with fail
          refine (ifv_any _ _ _ _).mono ?_
          rintro e w1 ⟨rfl, k1⟩
          rw [HV.out]
          have f := f.belowAll k1
          have r := r.belowAll k1
          have hs := hs.below k1 (Nat.le_refl _)
          have K := hide (K.out.trans (k1.mono (by have := K.out.size; first | exact this | simpa using this)))
          clear k1
          have q := f.cell
          have qR := r.cell
          have fR := r.free
          have lR := r.lt
          go_wp2_with fail
          refine (samplesValid_any _ _ _ zs _ hs).mono ?_
          rintro e w2 ⟨rfl, hw2⟩
          subst hw2
          rw [HS.out]
          go_wp2
          refine bodyPost_ret (by simp [results, Try.results18, go_sem, qR] <;> first | rfl | (and_intros <;> rfl)) rfl ⟨rfl, ?_⟩
          exact (K.out.setCell (by simp) _).setCell (by simp) _
    · obtain ⟨e1, e2⟩ := lb_out (a := a) (b := b) (c := c) (n := len) (zs := zs) (x := at_) (by rintro ⟨_, h, _⟩; exact hm h)
      rw [e1, e2]
      have HS := hide (show smp len zs = false by simpa using hm)
      clear hv hm e1 e2
      go_enter Try.func18, Try.ntmps18
      go_wp2_with fail
      refine (ifv_any _ _ _ _).mono ?_
      rintro e w1 ⟨rfl, k1⟩
      rw [HV.out]
      have f := f.belowAll k1
      have r := r.belowAll k1
      have hs := hs.below k1 (Nat.le_refl _)
      have K := hide (K.out.trans (k1.mono (by have := K.out.size; first | exact this | simpa using this)))
      clear k1
      have q := f.cell
      have qR := r.cell
      have fR := r.free
      have lR := r.lt
      go_wp2_with fail
      refine (samplesValid_any _ _ _ zs _ hs).mono ?_
      rintro e w2 ⟨rfl, hw2⟩
      subst hw2
      rw [HS.out]
      go_wp2
      refine bodyPost_ret (by simp [results, Try.results18, go_sem, qR] <;> first | rfl | (and_intros <;> rfl)) rfl ⟨rfl, ?_⟩
      exact (K.out.setCell (by simp) _).setCell (by simp) _
  · obtain ⟨e1, e2⟩ := lb_out (a := a) (b := b) (c := c) (n := len) (zs := zs) (x := at_) (by rintro ⟨h, _⟩; exact hv h)
    rw [e1, e2]
    have HV := hide (show fv a b c = false by simpa using hv)
    clear hv e1 e2
    go_enter Try.func18, Try.ntmps18
    go_wp2_with fail
    refine (ifv_any _ _ _ _).mono ?_
    rintro e w1 ⟨rfl, k1⟩
    rw [HV.out]
    have f := f.belowAll k1
    have r := r.belowAll k1
    have hs := hs.below k1 (Nat.le_refl _)
    have K := hide (K.out.trans (k1.mono (by have := K.out.size; first | exact this | simpa using this)))
    clear k1
    have q := f.cell
    have qR := r.cell
    have fR := r.free
    have lR := r.lt
    go_wp2
    refine bodyPost_ret (by simp [results, Try.results18, go_sem, qR] <;> first | rfl | (and_intros <;> rfl)) rfl ⟨rfl, ?_⟩
    exact (K.out.setCell (by simp) _).setCell (by simp) _
set_option maxHeartbeats 1000000 in
theorem sLb_any (a b c : Int) (p : Option Addr) (len cap : Nat) (zs : List Int) (at_ : Int) (w : World) (h : Sl w p len cap zs) :
    Calls Try.prog 16 #[.agg #[.int .i64 a, .int .i64 b, .int .i64 c], .slice p len cap, .int .i64 at_] w fun e w' => e = .returned (.agg #[.int .i64 (lbv a b c len zs at_), .int .i64 (lbc a b c len zs at_)]) ∧ Below w.heap.size w w' := by
  have hlc : (len : Int) ≤ 9223372036854775807 := by have := h.2.1; have := h.2.2.1; omega
  have K := hide (((Below.refl w.heap.size w).alloc (Nat.le_refl _) (.cells #[.int .i64 a, .int .i64 b, .int .i64 c] 36)).alloc (by simp) (.cells #[.int .i64 0, .int .i64 0] 34))
  have f := (Bk.new w 36 #[.int .i64 a, .int .i64 b, .int .i64 c]).alloc (.cells #[.int .i64 0, .int .i64 0] 34)
  have r : Bk ((w.alloc (.cells #[.int .i64 a, .int .i64 b, .int .i64 c] 36)).alloc (.cells #[.int .i64 0, .int .i64 0] 34)) (w.heap.size + 1) 34 #[.int .i64 0, .int .i64 0] := by
    have := Bk.new (w.alloc (.cells #[.int .i64 a, .int .i64 b, .int .i64 c] 36)) 34 #[.int .i64 0, .int .i64 0]
    simpa using this
  have hs := (h.alloc (.cells #[.int .i64 a, .int .i64 b, .int .i64 c] 36)).alloc (.cells #[.int .i64 0, .int .i64 0] 34)
  clear h
  by_cases hv : fv a b c = true
  · have HV := hide hv
    by_cases hm : smp len zs = true
    · have HS := hide hm
      have hl5 : len ≤ 500 := by simp [smp] at hm; exact hm.1
      have hl5' : (len : Int) ≤ 500 := by omega
      by_cases hr : 0 ≤ at_ ∧ at_ < (len : Int)
      · obtain ⟨e1, e2⟩ := lb_in (c := c) hv hm hr.1 hr.2
        rw [e1, e2]
        obtain ⟨h0, h1⟩ := hr
        obtain ⟨q0, rfl⟩ := Int.eq_ofNat_of_zero_le h0
        simp only [Int.toNat_natCast]
        have HR := hide (show (decide (0 ≤ (q0 : Int)) && decide ((q0 : Int) ≤ (len : Int) - 1)) = true by simp; omega)
        have hq : q0 < len := by omega
        clear hv hm e1 e2
        go_enter Try.func16, Try.ntmps16
        go_wp2_with fail
        refine (sfv_any _ _ _ _).mono ?_
        rintro e w1 ⟨rfl, k1⟩
        rw [HV.out]
        have f := f.belowAll k1
        have r := r.belowAll k1
        have hs := hs.below k1 (Nat.le_refl _)
        have K := hide (K.out.trans (k1.mono (by have := K.out.size; first | exact this | simpa using this)))
        clear k1
        have q := f.cell
        have qR := r.cell
        have fR := r.free
        have lR := r.lt
        go_wp2_with fail
        refine (l3Samples_any _ _ _ zs _ hs).mono ?_
        rintro e w2 ⟨rfl, hw2⟩
        subst hw2
        rw [HS.out]
        go_wp2_with fail
        refine (l6In_any _ _ _ _).mono ?_
        rintro e w2 ⟨rfl, hw2⟩
        subst hw2
        rw [HR.out]
        go_wp2_with fail
        refine (sba_any _ _ _ _ _ _ zs q0 _ hs HV.out hq hl5).mono ?_
        rintro e w3 ⟨rfl, k3⟩
        have r := r.belowAll k3
        have K := hide (K.out.trans (k3.mono K.out.size))
        clear k3 q qR fR lR
        have qR := r.cell
        have fR := r.free
        have lR := r.lt
        go_wp2
        refine bodyPost_ret (by simp [results, Try.results16, go_sem, qR] <;> first | rfl | (and_intros <;> rfl)) rfl ⟨rfl, ?_⟩
        exact (K.out.setCell (by simp) _).setCell (by simp) _
      · obtain ⟨e1, e2⟩ := lb_out (a := a) (b := b) (c := c) (n := len) (zs := zs) (x := at_) (by rintro ⟨_, _, h⟩; exact hr h)
        rw [e1, e2]
        have HR := hide (show (decide (0 ≤ at_) && decide (at_ ≤ (len : Int) - 1)) = false by simp; omega)
        clear hv hm e1 e2
        by_cases hneg : at_ < 0
        · have hr' := hneg
          clear hr hneg
          go_enter Try.func16, Try.ntmps16
          go_wp2_with fail
          refine (sfv_any _ _ _ _).mono ?_
          rintro e w1 ⟨rfl, k1⟩
          rw [HV.out]
          have f := f.belowAll k1
          have r := r.belowAll k1
          have hs := hs.below k1 (Nat.le_refl _)
          have K := hide (K.out.trans (k1.mono (by have := K.out.size; first | exact this | simpa using this)))
          clear k1
          have q := f.cell
          have qR := r.cell
          have fR := r.free
          have lR := r.lt
          go_wp2_with fail
          refine (l3Samples_any _ _ _ zs _ hs).mono ?_
          rintro e w2 ⟨rfl, hw2⟩
          subst hw2
          rw [HS.out]
          go_wp2_with fail
          refine (l6In_any _ _ _ _).mono ?_
          rintro e w2 ⟨rfl, hw2⟩
          subst hw2
          rw [HR.out]
          go_wp2
          refine bodyPost_ret (by simp [results, Try.results16, go_sem, qR] <;> first | rfl | (and_intros <;> rfl)) rfl ⟨rfl, ?_⟩
          exact (K.out.setCell (by simp) _).setCell (by simp) _
        · have hge : (len : Int) ≤ at_ := by omega
          have hnn : 0 ≤ at_ := by omega
          clear hr hneg
          go_enter Try.func16, Try.ntmps16
          go_wp2_with fail
          refine (sfv_any _ _ _ _).mono ?_
          rintro e w1 ⟨rfl, k1⟩
          rw [HV.out]
          have f := f.belowAll k1
          have r := r.belowAll k1
          have hs := hs.below k1 (Nat.le_refl _)
          have K := hide (K.out.trans (k1.mono (by have := K.out.size; first | exact this | simpa using this)))
          clear k1
          have q := f.cell
          have qR := r.cell
          have fR := r.free
          have lR := r.lt
          go_wp2_with fail
          refine (l3Samples_any _ _ _ zs _ hs).mono ?_
          rintro e w2 ⟨rfl, hw2⟩
          subst hw2
          rw [HS.out]
          go_wp2_with fail
          refine (l6In_any _ _ _ _).mono ?_
          rintro e w2 ⟨rfl, hw2⟩
          subst hw2
          rw [HR.out]
          go_wp2
          refine bodyPost_ret (by simp [results, Try.results16, go_sem, qR] <;> first | rfl | (and_intros <;> rfl)) rfl ⟨rfl, ?_⟩
          exact (K.out.setCell (by simp) _).setCell (by simp) _
    · obtain ⟨e1, e2⟩ := lb_out (a := a) (b := b) (c := c) (n := len) (zs := zs) (x := at_) (by rintro ⟨_, h, _⟩; exact hm h)
      rw [e1, e2]
      have HS := hide (show smp len zs = false by simpa using hm)
      clear hv hm e1 e2
      go_enter Try.func16, Try.ntmps16
      go_wp2_with fail
      refine (sfv_any _ _ _ _).mono ?_
      rintro e w1 ⟨rfl, k1⟩
      rw [HV.out]
      have f := f.belowAll k1
      have r := r.belowAll k1
      have hs := hs.below k1 (Nat.le_refl _)
      have K := hide (K.out.trans (k1.mono (by have := K.out.size; first | exact this | simpa using this)))
      clear k1
      have q := f.cell
      have qR := r.cell
      have fR := r.free
      have lR := r.lt
      go_wp2_with fail
      refine (l3Samples_any _ _ _ zs _ hs).mono ?_
      rintro e w2 ⟨rfl, hw2⟩
      subst hw2
      rw [HS.out]
      go_wp2
      refine bodyPost_ret (by simp [results, Try.results16, go_sem, qR] <;> first | rfl | (and_intros <;> rfl)) rfl ⟨rfl, ?_⟩
      exact (K.out.setCell (by simp) _).setCell (by simp) _
  · obtain ⟨e1, e2⟩ := lb_out (a := a) (b := b) (c := c) (n := len) (zs := zs) (x := at_) (by rintro ⟨h, _⟩; exact hv h)
    rw [e1, e2]
    have HV := hide (show fv a b c = false by simpa using hv)
    clear hv e1 e2
    go_enter Try.func16, Try.ntmps16
    go_wp2_with fail
    refine (sfv_any _ _ _ _).mono ?_
    rintro e w1 ⟨rfl, k1⟩
    rw [HV.out]
    have f := f.belowAll k1
    have r := r.belowAll k1
    have hs := hs.below k1 (Nat.le_refl _)
    have K := hide (K.out.trans (k1.mono (by have := K.out.size; first | exact this | simpa using this)))
    clear k1
    have q := f.cell
    have qR := r.cell
    have fR := r.free
    have lR := r.lt
    go_wp2
    refine bodyPost_ret (by simp [results, Try.results16, go_sem, qR] <;> first | rfl | (and_intros <;> rfl)) rfl ⟨rfl, ?_⟩
    exact (K.out.setCell (by simp) _).setCell (by simp) _
end Go.Proofs.Ytnbomcglkgbblaa
