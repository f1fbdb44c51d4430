/-
  Walks of the functions that draw bytes and samples. Each contract says that the numbers are a slice of the call's own, and that of what was there the reader's own block alone may turn.
-/
import Derived.Test.YtnbomcglkgbblaaLinS
import Derived.Test.YtnbomcglkgbblaaDrawB
import Derived.RegionTactic
import Derived.Deep.DeepCutAuto
namespace Go.Proofs.Ytnbomcglkgbblaa
open Go.RowKit
set_option linter.unusedVariables false

theorem but_grow {g r : Nat} {a b c : World} (h : But g a b) (k : b.grownBy c (some r)) (hr : r ≠ g → a.heap.size ≤ r) : But g a c :=
  ⟨k.os.trans h.os, k.tape.trans h.tape, k.output.trans h.output, Nat.le_trans h.size k.size, fun i hi hg => (k.block i (Nat.lt_of_lt_of_le hi h.size) (by
    rintro e
    injection e with e
    subst e
    have := hr hg
    omega)).trans (h.block i hi hg)⟩
theorem rdr_grow {w w' : World} {g r : Nat} {p : Int} (h : Rdr w g p) (k : w.grownBy w' (some r)) (hr : g < r) : Rdr w' g p :=
  h.keep fun i hi => k.block i (by have := h.lt; omega) (by intro e; injection e with e; omega)
/-- Bytes were drawn. -/
def By (g : Nat) (p most : Int) (w : World) (e : Ending) (w' : World) : Prop :=
  ∃ (h k cap : Nat) (zs : List Int) (q : Int), e = .returned (.slice (some ⟨h, 0, none⟩) k cap) ∧ Own w' w.heap.size h k cap zs ∧ (k : Int) ≤ most ∧ p ≤ q ∧ q ≤ p + 1 + most ∧ Rdr w' g q ∧ But g w w'
set_option maxHeartbeats 2000000 in
theorem l91Bytes_any (a b c most : Int) (w : World) (g : Nat) (p : Int) (hr : Rdr w g p) (hp : p ≤ 900000) (hm0 : 0 ≤ most) (hm1 : most ≤ 20) :
    Calls Try.prog 49 #[.pointer (some ⟨g, 0, none⟩), .agg #[.int .i64 a, .int .i64 b, .int .i64 c], .int .i64 most] w (By g p most w) := by
  have hg := hr.lt
  have HP0 := hide hr.1
  have B := hide ((But.refl g w).alloc (.cells #[.int .i64 a, .int .i64 b, .int .i64 c] 36))
  have b0 := Bk.new w 36 #[.int .i64 a, .int .i64 b, .int .i64 c]
  have b1 := b0.alloc (.cells #[] 3)
  have o : Own ((w.alloc (.cells #[.int .i64 a, .int .i64 b, .int .i64 c] 36)).alloc (.cells #[] 3)) (w.heap.size + 1) (w.heap.size + 1) 0 0 [] := Own.new (by omega) (by have := Bk.new (w.alloc (.cells #[.int .i64 a, .int .i64 b, .int .i64 c] 36)) 3 #[]; simpa using this)
  have r1 := (hr.alloc (.cells #[.int .i64 a, .int .i64 b, .int .i64 c] 36)).alloc (.cells #[] 3)
  have K := hide (B.out.alloc (.cells #[] 3))
  have hgw : w.heap.size ≠ g := by omega
  go_enter Try.func49, Try.ntmps49
  go_wp2_with fail
  refine (pick_any _ g p _ r1 (by omega) (by omega) (by omega)).mono ?_
  rintro e w1 ⟨n, rfl, hn0, hn1, hr1, k1⟩
  have b1 := b1.just k1 hgw
  have o := o.just k1 (by omega)
  have K := hide (K.out.just k1)
  clear k1 r1 b0
  obtain ⟨n, rfl⟩ := Int.eq_ofNat_of_zero_le hn0
  obtain ⟨hc0, hc1⟩ := cl_bd a
  obtain ⟨hp0, hp1⟩ : (1 : Int) ≤ 2 ^ (cl a).toNat ∧ (2 : Int) ^ (cl a).toNat ≤ 128 := by
    obtain e | e | e : cl a = 5 ∨ cl a = 6 ∨ cl a = 7 := by omega
    all_goals (rw [e]; decide)
  have hp2 : (2 : Int) ^ (cl a).toNat ≤ 1000000 := by omega
  go_wp2
  go_loopw [7, 9] (fun v i wr => ∃ (k h cp : Nat) (zs : List Int) (q : Int), v = .slice (some ⟨h, 0, none⟩) k cp ∧ i = .int .i64 k ∧ k ≤ n ∧ Own wr (w.heap.size + 1) h k cp zs ∧ Rdr wr g q ∧ p + 1 ≤ q ∧ q ≤ p + 1 + k ∧ Bk wr w.heap.size 36 #[.int .i64 a, .int .i64 b, .int .i64 c] ∧ But g w wr) (fun _ i _ => n - (intOf i).toNat)
  case atStart => exact ⟨0, _, _, [], _, rfl, rfl, by omega, o, hr1, by omega, by omega, b1, K.out⟩
  case round =>
    clear o hr1 b1
    obtain ⟨k, h5, cp5, zs, q, rfl, rfl, hkn, o, hr5, hq0, hq1, f, HB⟩ := hrel
    have HBB := hide HB
    clear HB
    have q5 := f.cell
    by_cases hlt : k < n
    · have hlt' : (k : Int) < (n : Int) := by omega
      go_wp2_with (first | (go_at_call 55; refine (clamp_any _ _).mono ?_; rintro e w' ⟨rfl, rfl⟩) | (go_at_call 54; refine (pow_any _ _ (by omega) (by omega)).mono ?_; rintro e w' ⟨rfl, rfl⟩) | (go_at_call 37; refine (pick_any _ g q _ hr5 (by omega) hp0 hp2).mono ?_; rintro e w4 ⟨m4, rfl, hm40, hm41, hr6, k6⟩; have f6 := f.just k6 hgw; have o6 := o.just k6 (by have := o.lt; omega); have B6 := HBB.out.just k6; clear k6 q5) | (refine app_int2 rfl (.tmp 20) (.tmp 27) rfl rfl rfl (Own.alloc o6 _) (Bk.new w4 _ _) (by omega) (by have := f6.lt; simp; omega) ?_; intro g7 cap7 w7 o7 k7 hg7; have f7 := Bk.grow (f6.alloc _) k7 (by have := o6.lt; simp; omega); have r7 := rdr_grow (hr6.alloc _) k7 (by have := o6.lt; omega); have B7 := but_grow (B6.alloc _) k7 (by have := o6.lt; omega); clear k7 hg7))
      go_roundw
      case rel => exact ⟨k + 1, g7, cap7, _, q + 1, by rfl, by go_num, by omega, o7, r7, by omega, by omega, f7, B7⟩
      case measure => simp [intOf]; omega
    · have hge : ¬ (k : Int) < (n : Int) := by omega
      go_wp2
      go_ret
      exact ⟨h5, k, cp5, zs, q, rfl, o.le_ (by omega), by omega, by omega, by omega, hr5, HBB.out⟩
theorem Own.take2 {w : World} {base h k cap : Nat} {zs : List Int} (o : Own w base h k cap zs) {m : Nat} (hm : m ≤ k) : Own w base h m cap (zs.take m) := by
  have hl := o.len
  rcases o.2 with ⟨hv, _⟩ | ⟨g, c, cur, hv, hg, hb, h1, h2, h3, h4⟩
  · cases hv
  · injection hv with ha _ hc
    subst hc
    refine ⟨by simp; omega, .inr ⟨g, cap, cur, ?_, hg, hb, by omega, h2, h3, ?_⟩⟩
    · rw [ha]
    · rw [List.map_take, ← h4, List.take_take]
      congr 1; omega
theorem Own.all {w : World} {base h n : Nat} {zs : List Int} (hb : base ≤ h) (b : Bk w h 3 (zs.map (Value.int .i64)).toArray) (hl : zs.length = n) (hm : n ≤ 1000000) : Own w base h n n zs :=
  ⟨by simp [hl], .inr ⟨h, n, (zs.map (Value.int .i64)).toArray, rfl, hb, b, Nat.le_refl _, by unfold maxLen; omega, by simp [hl], by simp [← hl, List.take_of_length_le]⟩⟩
theorem Own.set3 {w : World} {base h k cap R : Nat} {zs : List Int} (o : Own w base h k cap zs) (hp : h ≠ R) (a b c : Value) : Own (((w.setCell ⟨R, 0, none⟩ a).setCell ⟨R, 1, none⟩ b).setCell ⟨R, 2, none⟩ c) base h k cap zs :=
  ((o.far (p := ⟨R, 0, none⟩) hp a).far (p := ⟨R, 1, none⟩) hp b).far (p := ⟨R, 2, none⟩) hp c
theorem but3 {w w' : World} {g R : Nat} (h : But g w w') (hp : w.heap.size ≤ R) (a b c : Value) : But g w (((w'.setCell ⟨R, 0, none⟩ a).setCell ⟨R, 1, none⟩ b).setCell ⟨R, 2, none⟩ c) :=
  ((h.set (p := ⟨R, 0, none⟩) (.inr hp) a).set (p := ⟨R, 1, none⟩) (.inr hp) b).set (p := ⟨R, 2, none⟩) (.inr hp) c
theorem rdr3 {w : World} {g R : Nat} {q : Int} (h : Rdr w g q) (hp : g < R) (a b c : Value) : Rdr (((w.setCell ⟨R, 0, none⟩ a).setCell ⟨R, 1, none⟩ b).setCell ⟨R, 2, none⟩ c) g q :=
  ((h.set (q := ⟨R, 0, none⟩) hp a).set (q := ⟨R, 1, none⟩) hp b).set (q := ⟨R, 2, none⟩) hp c
theorem lo_bits {a b c idle : Int} {xs zs : List Int} (h : zs = if lok a b c idle xs = true then lin a b c idle.toNat xs else []) : zs.length ≤ 500 ∧ allBt zs = true := by
  subst h
  split
  · rename_i hl
    refine ⟨?_, lin_bits⟩
    simp only [lok, pre1, Bool.and_eq_true, decide_eq_true_eq] at hl
    rw [lin_len _ hl.1.1]
    exact hl.2.2
  · exact ⟨by simp, rfl⟩
/-- Samples were drawn. -/
def Ln (g : Nat) (p : Int) (w : World) (e : Ending) (w' : World) : Prop :=
  ∃ (a b c : Int) (h k cap : Nat) (zs : List Int) (q : Int), e = .returned (.tuple #[.agg #[.int .i64 a, .int .i64 b, .int .i64 c], .slice (some ⟨h, 0, none⟩) k cap]) ∧ Own w' w.heap.size h k cap zs ∧ k ≤ 500 ∧ p ≤ q ∧ q ≤ p + 30 ∧ Rdr w' g q ∧ But g w w'
/-- What the drawn region leaves. -/
def CutL (w : World) (g F : Nat) (x y z p : Int) (s5 s6 : Value) (wx : World) : Prop :=
  ∃ (h n cap : Nat) (zs : List Int) (ok : Bool) (q : Int), s5 = .slice (some ⟨h, 0, none⟩) n cap ∧ s6 = .bool ok ∧ Own wx (F + 1) h n cap zs ∧ n ≤ 500 ∧ allBt zs = true ∧
    Bk wx F 36 #[.int .i64 x, .int .i64 y, .int .i64 z] ∧ Bk wx w.heap.size 36 #[.int .i64 0, .int .i64 0, .int .i64 0] ∧ Rdr wx g q ∧ p ≤ q ∧ q ≤ p + 20 ∧ But g w wx
set_option maxHeartbeats 4000000 in
theorem l91Line_any (w : World) (g : Nat) (p : Int) (hr : Rdr w g p) (hp : p ≤ 800000) :
    Calls Try.prog 36 #[.pointer (some ⟨g, 0, none⟩)] w (Ln g p w) := by
  have hg := hr.lt
  have hp0 := hr.1
  go_enter Try.func36, Try.ntmps36
  go_wp2_with fail
  refine (format_any _ g p (hr.alloc _) (by omega)).mono ?_
  rintro e w2 ⟨x, y, z, q, rfl, hx, hq1, hq2, hr2, k2⟩
  have rb := (Bk.new w 36 #[.int .i64 0, .int .i64 0, .int .i64 0]).but k2 (by omega)
  have B2 := ((But.refl g w).alloc _).trans k2
  have lg := hr2.lt
  have lw := rb.lt
  clear k2
  obtain ⟨F, hF⟩ : ∃ F, w2.heap.size = F := ⟨_, rfl⟩
  have fb := Bk.new w2 36 #[.int .i64 x, .int .i64 y, .int .i64 z]
  have rb := rb.alloc (.cells #[.int .i64 x, .int .i64 y, .int .i64 z] 36)
  have hr3 := hr2.alloc (.cells #[.int .i64 x, .int .i64 y, .int .i64 z] 36)
  have B3 := B2.alloc (.cells #[.int .i64 x, .int .i64 y, .int .i64 z] 36)
  rw [hF] at fb lg lw
  have n1 : ¬ F = w.heap.size := by omega
  have n2 : ¬ w.heap.size = F := by omega
  have NG := hide (show F ≠ g by omega)
  have HGW := hide (show w.heap.size ≠ g by omega)
  have HGR := hide (show g < w.heap.size from hg)
  go_upto_region 2 with fail
  clear hF
  obtain ⟨w3, hw3⟩ : ∃ w3, w2.alloc (.cells #[.int .i64 x, .int .i64 y, .int .i64 z] 36) = w3 := ⟨_, rfl⟩
  rw [hw3] at fb rb hr3 B3 ⊢
  clear hw3 hr2 B2
  have qF := fb.cell
  have lF := fb.lt
  have hr5 : Rdr w3.drew g q := hr3
  have HBB := hide B3
  clear B3
  go_cut [5, 6] (fun s5 s6 wx => CutL w g F x y z p s5 s6 wx)
  case first =>
   go_region_law (first | (go_simp; go_at_call 49; refine (l91Bytes_any _ _ _ _ _ g q hr5 (by omega) (by omega) (by omega)).mono ?_; rintro e w4 ⟨h4, n4, c4, ys, q4, rfl, o4, hn4, hq40, hq41, hr4, k4⟩; have f4 := Bk.but (w := w3.drew) fb k4 NG.out; have qf4 := f4.cell; have r4 := Bk.but (w := w3.drew) rb k4 HGW.out; have B4 := But.trans (b := w3.drew) (HBB.out.drewN 1) k4) | (go_simp; go_at_call 37; refine (pick_any _ g q4 _ hr4 (by omega) (by omega) (by omega)).mono ?_; rintro e w5 ⟨m5, rfl, hm50, hm51, hr6, k6⟩; have f5 := Bk.just f4 k6 NG.out; have qf5 := f5.cell; have r5 := Bk.just r4 k6 HGW.out; have B5 := B4.just k6; have o5 := o4.just k6 (by have := o4.lt; have : w3.drew.heap.size = w3.heap.size := rfl; omega)) | (go_simp; go_at_call 48; refine (slf_any _ _ _ _ _ _ _ ys _ o5.sl).mono ?_; rintro e w6 ⟨h6, n6, c6, zs, rfl, o6, hz6, k7⟩; have hlb := lo_bits hz6; have f6 := f5.belowAll k7; have r6 := r5.belowAll k7; have B6 := B5.below k7 B5.size; have hr7 := hr6.below k7 (by have := hr6.lt; omega)))
   all_goals
    go_wp2_with fail
    go_meet
    exact ⟨h6, n6, c6, zs, _, q4 + 1, rfl, rfl, o6.le_ (by have := f5.lt; omega), by have := o6.len; omega, hlb.2, f6, r6, hr7, by omega, by omega, B6⟩
  case rest =>
    obtain ⟨h5, n5, cp5, ys, ok, q5, rfl, rfl, o5, hn5, hA, f5, r5, hr7, hq50, hq51, B5⟩ := hcut
    have HHR := hide (show w.heap.size < h5 by have := o5.lt; omega)
    have HHF := hide (show F < h5 by have := o5.lt; omega)
    have HHG := hide (show g < h5 by have := o5.lt; omega)
    have o5 := o5.le_ (base' := w.heap.size) (by omega)
    have nR : ¬ h5 = w.heap.size := by have := HHR.out; omega
    have nR2 : ¬ w.heap.size = h5 := by have := HHR.out; omega
    have nF : ¬ h5 = F := by have := HHF.out; omega
    have nF2 : ¬ F = h5 := by have := HHF.out; omega
    have HK5 := hide B5
    have HA := hide hA
    clear qF lF fb rb hr3 hr5 HBB B5 hA
    generalize wc = w5 at *
    have qF := f5.cell
    have qR := r5.cell
    have fR := r5.free
    have lF := f5.lt
    have lR := r5.lt
    cases ok
    · go_wp2
      refine gen_ret (q := fun wz => Bk wz w.heap.size 36 #[.int .i64 x, .int .i64 y, .int .i64 z] ∧ Own wz w.heap.size w5.heap.size 3 3 [1, 0, 1] ∧ Rdr wz g q5 ∧ But g w wz) ?_ ?_
      · exact ⟨Bk.cast ((((r5.put 0 _).put 1 _).put 2 _).alloc _) (by simp), Own.all (zs := [1, 0, 1]) (by have := HK5.out.size; omega) (by have := Bk.new (((w5.setCell ⟨w.heap.size, 0, none⟩ (.int .i64 x)).setCell ⟨w.heap.size, 1, none⟩ (.int .i64 y)).setCell ⟨w.heap.size, 2, none⟩ (.int .i64 z)) 3 #[.int .i64 1, .int .i64 0, .int .i64 1]; simpa [World.setCell] using this) rfl (by omega), (rdr3 hr7 HGR.out _ _ _).alloc _, (but3 HK5.out (Nat.le_refl _) _ _ _).alloc _⟩
      · rintro wz ⟨bz, oz, rz, kz⟩
        have qz := bz.cell
        refine bodyPost_ret (by simp [results, Try.results36, go_sem, qz] <;> first | rfl | (and_intros <;> rfl)) rfl ⟨x, y, z, w5.heap.size, 3, 3, [1, 0, 1], q5, rfl, oz, by omega, by omega, by omega, rz, kz⟩
    · by_cases h0 : n5 = 0
      · have h0' : ¬ (0 : Int) < (n5 : Int) := by omega
        clear h0
        go_wp2
        refine bodyPost_ret (by simp [results, Try.results36, go_sem, qR] <;> first | rfl | (and_intros <;> rfl)) rfl ⟨x, y, z, h5, n5, cp5, (ys), q5, rfl, ?_, by omega, by omega, by omega, ?_, ?_⟩
        · exact o5.set3 (by omega) _ _ _
        · exact rdr3 hr7 HGR.out _ _ _
        · exact but3 HK5.out (Nat.le_refl _) _ _ _
      · have h0' : (0 : Int) < (n5 : Int) := by omega
        have hn5' : (n5 : Int) ≤ 500 := by omega
        clear h0
        go_wp2_with fail
        refine (pick_any _ g q5 _ hr7 (by omega) (by omega) (by omega)).mono ?_
        rintro e w6 ⟨m6, rfl, hm60, hm61, hr8, k6⟩
        have f5 := f5.just k6 NG.out
        have r5 := r5.just k6 HGW.out
        have o5 := o5.just k6 (by have := HHG.out; omega)
        have HK5 := hide (HK5.out.just k6)
        clear k6
        clear qF qR fR lF lR
        have qF := f5.cell
        have qR := r5.cell
        have fR := r5.free
        have lF := f5.lt
        have lR := r5.lt
        obtain ⟨M, rfl⟩ := Int.eq_ofNat_of_zero_le hm60
        have hMn : M < n5 := by omega
        go_wp2_with fail
        refine (pick_any _ g (q5 + 1) _ hr8 (by omega) (by omega) (by omega)).mono ?_
        rintro e w7 ⟨m7, rfl, hm70, hm71, hr9, k7⟩
        have f5 := f5.just k7 NG.out
        have r5 := r5.just k7 HGW.out
        have o5 := o5.just k7 (by have := HHG.out; omega)
        have HK5 := hide (HK5.out.just k7)
        clear k7
        clear qF qR fR lF lR
        have qF := f5.cell
        have qR := r5.cell
        have fR := r5.free
        have lF := f5.lt
        have lR := r5.lt
        have c5 := o5.cellAt (j := M) hMn
        have fr5 := o5.free M
        have hb5 := allBt_at HA.out (j := M) (by rw [o5.len]; exact hMn)
        obtain ⟨u, hu⟩ : ∃ u, ys.getD M 0 = u := ⟨_, rfl⟩
        rw [hu] at c5 hb5
        clear hu
        by_cases e01 : m7 = 0 ∨ m7 = 1
        · obtain rfl | rfl := e01
          all_goals
            go_wp2
            refine bodyPost_ret (by simp [results, Try.results36, go_sem, qR] <;> first | rfl | (and_intros <;> rfl)) rfl ⟨x, y, z, h5, n5, cp5, (ys.set M (1 - u)), q5 + 1 + 1, rfl, ?_, by omega, by omega, by omega, ?_, ?_⟩
            · exact (o5.put hMn (1 - u)).set3 (by omega) _ _ _
            · exact rdr3 (hr9.set (q := ⟨h5, M, none⟩) HHG.out _) HGR.out _ _ _
            · exact but3 (HK5.out.set (p := ⟨h5, M, none⟩) (.inr (Nat.le_of_lt HHR.out)) _) (Nat.le_refl _) _ _ _
        · have t0 : (m7 == 0) = false := by simp; omega
          have t1 : (m7 == 1) = false := by simp; omega
          by_cases e2 : m7 = 2
          · have t2 : (m7 == 2) = true := by simpa using e2
            have hMc : M ≤ cp5 := by have := o5.sl.2.1; omega
            clear e2 e01 c5
            go_wp2
            refine bodyPost_ret (by simp [results, Try.results36, go_sem, qR] <;> first | rfl | (and_intros <;> rfl)) rfl ⟨x, y, z, h5, M, cp5, (ys.take M), q5 + 1 + 1, rfl, ?_, by omega, by omega, by omega, ?_, ?_⟩
            · exact (o5.take2 (m := M) (by omega)).set3 (by omega) _ _ _
            · exact rdr3 hr9 HGR.out _ _ _
            · exact but3 HK5.out (Nat.le_refl _) _ _ _
          · have t2 : (m7 == 2) = false := by simpa using e2
            by_cases e3 : m7 = 3
            · have t3 : (m7 == 3) = true := by simpa using e3
              clear e2 e01 e3
              go_wp2_with fail
              refine (pick_any _ g (q5 + 1 + 1) _ hr9 (by omega) (by omega) (by omega)).mono ?_
              rintro e w8 ⟨m8, rfl, hm80, hm81, hr10, k8⟩
              have f5 := f5.just k8 NG.out
              have r5 := r5.just k8 HGW.out
              have o5 := o5.just k8 (by have := HHG.out; omega)
              have HK5 := hide (HK5.out.just k8)
              clear k8 c5 fr5
              clear qF qR fR lF lR
              have qF := f5.cell
              have qR := r5.cell
              have fR := r5.free
              have lF := f5.lt
              have lR := r5.lt
              have c5 := o5.cellAt (j := M) hMn
              have fr5 := o5.free M
              go_wp2
              refine bodyPost_ret (by simp [results, Try.results36, go_sem, qR] <;> first | rfl | (and_intros <;> rfl)) rfl ⟨x, y, z, h5, n5, cp5, (ys.set M m8), q5 + 1 + 1 + 1, rfl, ?_, by omega, by omega, by omega, ?_, ?_⟩
              · exact (o5.put hMn m8).set3 (by omega) _ _ _
              · exact rdr3 (hr10.set (q := ⟨h5, M, none⟩) HHG.out _) HGR.out _ _ _
              · exact but3 (HK5.out.set (p := ⟨h5, M, none⟩) (.inr (Nat.le_of_lt HHR.out)) _) (Nat.le_refl _) _ _ _
            · have t3 : (m7 == 3) = false := by simpa using e3
              clear e2 e01 e3
              go_wp2
              refine bodyPost_ret (by simp [results, Try.results36, go_sem, qR] <;> first | rfl | (and_intros <;> rfl)) rfl ⟨x, y, z, h5, n5, cp5, (ys), q5 + 1 + 1, rfl, ?_, by omega, by omega, by omega, ?_, ?_⟩
              · exact o5.set3 (by omega) _ _ _
              · exact rdr3 hr9 HGR.out _ _ _
              · exact but3 HK5.out (Nat.le_refl _) _ _ _
end Go.Proofs.Ytnbomcglkgbblaa
