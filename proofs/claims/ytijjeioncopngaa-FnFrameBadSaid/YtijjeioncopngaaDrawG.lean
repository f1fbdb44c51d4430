/-
  The walk of the function that draws a format and bits. The contract says that the bits are a slice of the call's own of at most 12 numbers and that nothing that was there has turned.
-/
import Derived.Test.YtijjeioncopngaaDrawB
import Derived.Test.YtijjeioncopngaaOwnB
import Derived.Test.YtijjeioncopngaaFrmP
import Derived.RegionTactic
import Derived.Deep.DeepCutAuto
namespace Go.Proofs.Ytijjeioncopngaa
open Go.RowKit
set_option linter.unusedVariables false

theorem Own.take_ {w : World} {base h k cap : Nat} {zs : List Int} (o : Own w base h k cap zs) {m : Nat} (hm : m ≤ k) : Own w base h m cap (zs.take m) := by
  have hl := o.len
  rcases o.2 with ⟨hv, _⟩ | ⟨g, c, cur, hv, hg, hb, h1, h2, h3, h4⟩
  · cases hv
  · injection hv with ha _ hc
    subst hc
    refine ⟨by simp; omega, .inr ⟨g, cap, cur, ?_, hg, hb, by omega, h2, h3, ?_⟩⟩
    · rw [ha]
    · rw [List.map_take, ← h4, List.take_take]
      congr 1; omega
theorem Own.whole {w : World} {base h n : Nat} {zs : List Int} (hb : base ≤ h) (b : Bk w h 3 (zs.map (Value.int .i64)).toArray) (hl : zs.length = n) (hm : n ≤ 1000000) : Own w base h n n zs :=
  ⟨by simp [hl], .inr ⟨h, n, (zs.map (Value.int .i64)).toArray, rfl, hb, b, Nat.le_refl _, by unfold maxLen; omega, by simp [hl], by simp [← hl, List.take_of_length_le]⟩⟩
theorem Own.far3 {w : World} {base h k cap R : Nat} {zs : List Int} (o : Own w base h k cap zs) (hp : h ≠ R) (a b c : Value) : Own (((w.setCell ⟨R, 0, none⟩ a).setCell ⟨R, 1, none⟩ b).setCell ⟨R, 2, none⟩ c) base h k cap zs :=
  ((o.far (p := ⟨R, 0, none⟩) hp a).far (p := ⟨R, 1, none⟩) hp b).far (p := ⟨R, 2, none⟩) hp c
theorem below3 {w w' : World} {B R : Nat} (h : Below B w w') (hp : B ≤ R) (a b c : Value) : Below B w (((w'.setCell ⟨R, 0, none⟩ a).setCell ⟨R, 1, none⟩ b).setCell ⟨R, 2, none⟩ c) :=
  ((h.setCell (p := ⟨R, 0, none⟩) hp a).setCell (p := ⟨R, 1, none⟩) hp b).setCell (p := ⟨R, 2, none⟩) hp c
theorem sfb_some (a b c x : Int) (w : World) :
    Calls Try.prog 13 #[.agg #[.int .i64 a, .int .i64 b, .int .i64 c], .int .i64 x] w fun e w' => ∃ h k cap zs, e = .returned (.tuple #[.slice (some ⟨h, 0, none⟩) k cap, .bool (fok a b c x)]) ∧ Own w' w.heap.size h k cap zs ∧ k ≤ 12 ∧ (fok a b c x = true → 7 ≤ k ∧ allBt zs = true) ∧ Below w.heap.size w w' := by
  cases hv : fok a b c x
  · refine (sfb_no a b c x w hv).mono ?_
    rintro e w' ⟨h, rfl, o, k⟩
    exact ⟨h, 0, 0, [], rfl, o, by omega, (fun h => by cases h), k⟩
  · refine (sfb_yes a b c x w hv).mono ?_
    rintro e w' ⟨h, n, cap, rfl, o, k⟩
    have := frm_len hv
    have hl := o.len
    exact ⟨h, n, cap, _, rfl, o, by omega, fun _ => ⟨by omega, frm_bits a b c x⟩, k⟩
/-- A drawn format and bits. -/
def Ff (w : World) (e : Ending) (w' : World) : Prop :=
  ∃ (a b c : Int) (h k cap : Nat) (zs : List Int), e = .returned (.tuple #[.agg #[.int .i64 a, .int .i64 b, .int .i64 c], .slice (some ⟨h, 0, none⟩) k cap]) ∧ Own w' w.heap.size h k cap zs ∧ k ≤ 12 ∧ Below w.heap.size w w'
/-- What the drawn region leaves. -/
def Cut3 (w : World) (g F : Nat) (x y z q : Int) (s6 s7 : Value) (wx : World) : Prop :=
  ∃ (h n cap : Nat) (zs : List Int) (ok : Bool), s6 = .slice (some ⟨h, 0, none⟩) n cap ∧ s7 = .bool ok ∧ Own wx (F + 1) h n cap zs ∧ n ≤ 12 ∧ (ok = true → 7 ≤ n ∧ allBt zs = true) ∧
    Bk wx F 27 #[.int .i64 x, .int .i64 y, .int .i64 z] ∧ Bk wx w.heap.size 27 #[.int .i64 0, .int .i64 0, .int .i64 0] ∧ Rdr wx g (q + 1) ∧ Below w.heap.size w wx
set_option maxHeartbeats 4000000 in
theorem dDrawFrameFrom_any (a : Option Addr) (len cap : Nat) (zs : List Int) (w : World) (h : IsRow .u8 w a len cap zs) :
    Calls Try.prog 25 #[.slice a len cap] w (Ff w) := by
  go_enter Try.func25, Try.ntmps25
  go_wp2_with fail
  refine (open_any a len cap zs _ (h.alloc _)).mono ?_
  rintro e w1 ⟨rfl, hr1, hz1, k1⟩
  have b1 : Bk w1 w.heap.size 27 #[.int .i64 0, .int .i64 0, .int .i64 0] := (Bk.new w 27 _).belowAll k1
  have k1 := ((Below.refl w.heap.size w).alloc (Nat.le_refl _) _).trans (k1.mono (by simp))
  obtain ⟨g, hg⟩ : ∃ g, (w.alloc (.cells #[.int .i64 0, .int .i64 0, .int .i64 0] 27)).heap.size = g := ⟨_, rfl⟩
  rw [hg] at hr1 hz1 ⊢
  have HG := hide (show w.heap.size + 1 = g by rw [← hg]; simp)
  have Z1 := hide hz1
  clear hg hz1
  go_wp2_with fail
  refine (format_any _ _ _ hr1 (by omega)).mono ?_
  rintro e w2 ⟨x, y, z, q, rfl, hx, hq1, hq2, hr2, k2⟩
  have b2 := (b1.but k2 (by have := HG.out; omega))
  have K := hide (k1.trans (k2.toBelow (B := w.heap.size) (by have := HG.out; omega) (by have := Z1.out; have := HG.out; omega)))
  clear k1 k2 b1 hr1
  have lg := hr2.lt
  have lw := b2.lt
  obtain ⟨F, hF⟩ : ∃ F, w2.heap.size = F := ⟨_, rfl⟩
  have fb := Bk.new w2 27 #[.int .i64 x, .int .i64 y, .int .i64 z]
  have rb := b2.alloc (.cells #[.int .i64 x, .int .i64 y, .int .i64 z] 27)
  have hr3 := hr2.alloc (.cells #[.int .i64 x, .int .i64 y, .int .i64 z] 27)
  have K := hide (K.out.alloc K.out.size (.cells #[.int .i64 x, .int .i64 y, .int .i64 z] 27))
  rw [hF] at fb lg lw
  have n1 : ¬ F = w.heap.size := by omega
  have n2 : ¬ w.heap.size = F := by omega
  have NG := hide (show F ≠ g by omega)
  have HGW := hide (show w.heap.size ≠ g by have := HG.out; omega)
  go_upto_region 3 with fail
  clear hF
  obtain ⟨w3, hw3⟩ : ∃ w3, w2.alloc (.cells #[.int .i64 x, .int .i64 y, .int .i64 z] 27) = w3 := ⟨_, rfl⟩
  rw [hw3] at fb rb hr3 K ⊢
  clear hw3 hr2 b2
  have qF := fb.cell
  have fF := fb.free
  have lF := fb.lt
  obtain ⟨hx0, hx1, hy0, hy1, hz0, hz1⟩ := hx
  obtain ⟨hc0, hc1⟩ := cl_bd x
  obtain ⟨hp0, hp1⟩ : (1 : Int) ≤ 2 ^ (cl x).toNat ∧ (2 : Int) ^ (cl x).toNat ≤ 128 := by
    obtain e | e | e : cl x = 5 ∨ cl x = 6 ∨ cl x = 7 := by omega
    all_goals (rw [e]; decide)
  have hp2 : (2 : Int) ^ (cl x).toNat ≤ 1000000 := by omega
  have hr5 : Rdr w3.drew g q := hr3
  go_cut [6, 7] (fun s6 s7 wx => Cut3 w g F x y z q s6 s7 wx)
  case first =>
   go_region_law (first | (go_simp; go_at_call 40; refine (clamp_any _ _).mono ?_; rintro e w' ⟨rfl, rfl⟩) | (go_simp; go_at_call 39; refine (pow_any _ _ (by omega) (by omega)).mono ?_; rintro e w' ⟨rfl, rfl⟩) | (go_simp; go_at_call 38; refine (pick_any _ g q _ hr5 (by omega) hp0 hp2).mono ?_; rintro e w4 ⟨m4, rfl, hm40, hm41, hr6, k6⟩; have f4 := Bk.just (w := w3.drew) fb k6 NG.out; have q4 := f4.cell; have r4 := Bk.just (w := w3.drew) rb k6 HGW.out; have K4 := k6.below (K.out.drew) (by have := HG.out; omega)) | (go_simp; go_at_call 13; refine (sfb_some _ _ _ _ _).mono ?_; rintro e w5 ⟨h5, n5, cp5, ys, rfl, o5, hn5, hok, k5⟩; have f5 := f4.belowAll k5; have r5 := r4.belowAll k5; have hr7 := hr6.below k5 (by have := hr6.lt; omega); have K5 := K4.trans (k5.mono K4.size)))
   all_goals
    go_wp2_with fail
    go_meet
    exact ⟨h5, n5, cp5, ys, _, rfl, rfl, o5.le_ (by have := f4.lt; omega), hn5, hok, f5, r5, hr7, K5⟩
  case rest =>
    obtain ⟨h5, n5, cp5, ys, ok, rfl, rfl, o5, hn5, hok, f5, r5, hr7, K5⟩ := hcut
    have HHR := hide (show w.heap.size < h5 by have := o5.lt; omega)
    have HHF := hide (show F < h5 by have := o5.lt; omega)
    have HHG := hide (show g < h5 by have := o5.lt; omega)
    have o5 := o5.le_ (base' := w.heap.size) (by omega)
    have nR : ¬ h5 = w.heap.size := by have := HHR.out; omega
    have nR2 : ¬ w.heap.size = h5 := by have := HHR.out; omega
    have nF : ¬ h5 = F := by have := HHF.out; omega
    have nF2 : ¬ F = h5 := by have := HHF.out; omega
    have HK5 := hide K5
    clear qF fF lF K5 K fb rb hr3 hr5
    generalize wc = w5 at *
    have qF := f5.cell
    have qR := r5.cell
    have fR := r5.free
    have lF := f5.lt
    have lR := r5.lt
    cases ok
    · clear hok
      go_wp2
      refine gen_ret (q := fun wz => Bk wz w.heap.size 27 #[.int .i64 x, .int .i64 y, .int .i64 z] ∧ Own wz w.heap.size w5.heap.size 3 3 [0, 1, 1] ∧ Below w.heap.size w wz) ?_ ?_
      · exact ⟨Bk.cast ((((r5.put 0 _).put 1 _).put 2 _).alloc _) (by simp), Own.whole (zs := [0, 1, 1]) (by have := HK5.out.size; omega) (by have := Bk.new (((w5.setCell ⟨w.heap.size, 0, none⟩ (.int .i64 x)).setCell ⟨w.heap.size, 1, none⟩ (.int .i64 y)).setCell ⟨w.heap.size, 2, none⟩ (.int .i64 z)) 3 #[.int .i64 0, .int .i64 1, .int .i64 1]; simpa [World.setCell] using this) rfl (by omega), but_alloc (below3 HK5.out (Nat.le_refl _) _ _ _) _ (Nat.le_refl _)⟩
      · rintro wz ⟨bz, oz, kz⟩
        have qz := bz.cell
        refine bodyPost_ret (by simp [results, Try.results25, go_sem, qz] <;> first | rfl | (and_intros <;> rfl)) rfl ⟨x, y, z, w5.heap.size, 3, 3, [0, 1, 1], rfl, oz, by omega, kz⟩
    · obtain ⟨h7, hA⟩ := hok rfl
      have HA := hide hA
      have h7' : (7 : Int) ≤ (n5 : Int) := by omega
      have hn5' : (n5 : Int) ≤ 12 := by omega
      clear hok hA
      go_wp2_with fail
      refine (pick_any _ g (q + 1) _ hr7 (by omega) (by omega) (by omega)).mono ?_
      rintro e w6 ⟨m6, rfl, hm60, hm61, hr8, k6⟩
      have f5 := f5.just k6 NG.out
      have r5 := r5.just k6 HGW.out
      have o5 := o5.just k6 (by have := HHG.out; omega)
      have HK5 := hide (k6.below HK5.out (by have := HG.out; omega))
      clear k6
      clear qF qR fR lF lR
      have qF := f5.cell
      have qR := r5.cell
      have fR := r5.free
      have lF := f5.lt
      have lR := r5.lt
      obtain ⟨M, rfl⟩ := Int.eq_ofNat_of_zero_le hm60
      have hMn : M < n5 := by omega
      go_wp2_with fail
      refine (pick_any _ g (q + 1 + 1) _ hr8 (by omega) (by omega) (by omega)).mono ?_
      rintro e w7 ⟨m7, rfl, hm70, hm71, hr9, k7⟩
      have f5 := f5.just k7 NG.out
      have r5 := r5.just k7 HGW.out
      have o5 := o5.just k7 (by have := HHG.out; omega)
      have HK5 := hide (k7.below HK5.out (by have := HG.out; omega))
      clear k7
      clear qF qR fR lF lR
      have qF := f5.cell
      have qR := r5.cell
      have fR := r5.free
      have lF := f5.lt
      have lR := r5.lt
      have c5 := o5.cellAt (j := M) hMn
      have fr5 := o5.free M
      have hb5 := allBt_at HA.out (j := M) (by rw [o5.len]; exact hMn)
      obtain ⟨u, hu⟩ : ∃ u, ys.getD M 0 = u := ⟨_, rfl⟩
      rw [hu] at c5 hb5
      clear hu
      by_cases e01 : m7 = 0 ∨ m7 = 1
      · obtain rfl | rfl := e01
        all_goals
          go_wp2
          refine bodyPost_ret (by simp [results, Try.results25, go_sem, qR] <;> first | rfl | (and_intros <;> rfl)) rfl ⟨x, y, z, h5, n5, cp5, (ys.set M (1 - u)), rfl, ?_, by omega, ?_⟩
          · exact (o5.put hMn (1 - u)).far3 (by omega) _ _ _
          · exact below3 (HK5.out.setCell (p := ⟨h5, M, none⟩) (by have := HHR.out; simp; omega) _) (Nat.le_refl _) _ _ _
      · have t0 : (m7 == 0) = false := by simp; omega
        have t1 : (m7 == 1) = false := by simp; omega
        by_cases e2 : m7 = 2
        · have t2 : (m7 == 2) = true := by simpa using e2
          clear e2 e01
          go_wp2_with fail
          refine (pick_any _ g (q + 1 + 1 + 1) _ hr9 (by omega) (by omega) (by omega)).mono ?_
          rintro e w8 ⟨m8, rfl, hm80, hm81, hr10, k8⟩
          have f5 := f5.just k8 NG.out
          have r5 := r5.just k8 HGW.out
          have o5 := o5.just k8 (by have := HHG.out; omega)
          have HK5 := hide (k8.below HK5.out (by have := HG.out; omega))
          clear k8 c5 fr5
          clear qF qR fR lF lR
          have qF := f5.cell
          have qR := r5.cell
          have fR := r5.free
          have lF := f5.lt
          have lR := r5.lt
          have c5 := o5.cellAt (j := M) hMn
          have fr5 := o5.free M
          by_cases e8 : m8 = 0
          · subst e8
            go_wp2
            refine bodyPost_ret (by simp [results, Try.results25, go_sem, qR] <;> first | rfl | (and_intros <;> rfl)) rfl ⟨x, y, z, h5, n5, cp5, (ys.set M 2), rfl, ?_, by omega, ?_⟩
            · exact (o5.put hMn 2).far3 (by omega) _ _ _
            · exact below3 (HK5.out.setCell (p := ⟨h5, M, none⟩) (by have := HHR.out; simp; omega) _) (Nat.le_refl _) _ _ _
          · have t8 : (m8 == 0) = false := by simpa using e8
            have hMc : M ≤ cp5 := by have := o5.sl.2.1; omega
            clear e8 c5
            go_wp2
            go_region
            all_goals
              go_wp2
              refine bodyPost_ret (by simp [results, Try.results25, go_sem, qR] <;> first | rfl | (and_intros <;> rfl)) rfl ⟨x, y, z, h5, M, cp5, (ys.take M), rfl, ?_, by omega, ?_⟩
              · exact Own.far3 (Own.drewN (o5.take_ (m := M) (by omega)) 1) (by omega) _ _ _
              · exact below3 (below_drewN HK5.out 1) (Nat.le_refl _) _ _ _
        · have t2 : (m7 == 2) = false := by simpa using e2
          clear e2 e01
          go_wp2
          refine bodyPost_ret (by simp [results, Try.results25, go_sem, qR] <;> first | rfl | (and_intros <;> rfl)) rfl ⟨x, y, z, h5, n5, cp5, (ys), rfl, ?_, by omega, ?_⟩
          · exact o5.far3 (by omega) _ _ _
          · exact below3 HK5.out (Nat.le_refl _) _ _ _
end Go.Proofs.Ytijjeioncopngaa
