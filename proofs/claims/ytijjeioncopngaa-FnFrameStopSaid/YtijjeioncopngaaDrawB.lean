/-
  Walks of the functions that draw a format with a byte, and a format with bits. Each contract says that the parts are small integers and that nothing that was there has turned.
-/
import Derived.Test.YtijjeioncopngaaDrawF
import Derived.Test.YtijjeioncopngaaFrmE
import Derived.Deep.RegionLaw
import Derived.Deep.RegionHeld3
import Derived.Outline
import Derived.StillTailTactics
namespace Go.Proofs.Ytijjeioncopngaa
open Go.RowKit
set_option linter.unusedVariables false

theorem Bk.cast {w : World} {g : Nat} {t : TypeId} {cs cs' : Array Value} (h : Bk w g t cs) (e : cs = cs') : Bk w g t cs' := e ▸ h
theorem gen_ret {P : Program} {F : Func} {Q : Ending → World → Prop} {X : Exit} {A : Act} {q : World → Prop} {wz : World} (h1 : q wz) (h2 : ∀ w, q w → bodyPost P F Q X A w) : bodyPost P F Q X A wz := h2 wz h1
theorem but_alloc {w w' : World} {B : Nat} (h : Below B w w') (o : Obj) (hB : B ≤ w.heap.size) : Below B w (w'.alloc o) := h.alloc (Nat.le_trans hB h.size) o
def cl (n : Int) : Int := max (min n 7) 5
theorem cl_bd (n : Int) : 5 ≤ cl n ∧ cl n ≤ 7 := by unfold cl; omega
theorem clamp_any (n : Int) (w : World) :
    Calls Try.prog 40 #[.int .i64 n] w fun e w' => e = .returned (.int .i64 (cl n)) ∧ w = w' := by
  go_enter Try.func40, Try.ntmps40
  go_wp2
  all_goals
    go_ret
    exact ⟨ret_int (by unfold cl; omega), rfl⟩
theorem five_at {w : World} {g : Nat} {x : Int} (k : Bk w g 3 #[.int .i64 (-1), .int .i64 31, .int .i64 32, .int .i64 255, .int .i64 256]) (h0 : 0 ≤ x) (h1 : x < 5) : ∃ y : Int, -1 ≤ y ∧ y ≤ 256 ∧ w.cell? ⟨g, x.toNat, none⟩ = some (.int .i64 y) := by
  obtain rfl | rfl | rfl | rfl | rfl : x = 0 ∨ x = 1 ∨ x = 2 ∨ x = 3 ∨ x = 4 := by omega
  · exact ⟨_, by omega, by omega, k.cell 0⟩
  · exact ⟨_, by omega, by omega, k.cell 1⟩
  · exact ⟨_, by omega, by omega, k.cell 2⟩
  · exact ⟨_, by omega, by omega, k.cell 3⟩
  · exact ⟨_, by omega, by omega, k.cell 4⟩
/-- A drawn format and byte. -/
def Fb (w : World) (e : Ending) (w' : World) : Prop :=
  ∃ a b c x : Int, e = .returned (.tuple #[.agg #[.int .i64 a, .int .i64 b, .int .i64 c], .int .i64 x]) ∧ (0 ≤ a ∧ a ≤ 9 ∧ -1 ≤ b ∧ b ≤ 3 ∧ 0 ≤ c ∧ c ≤ 3 ∧ -1 ≤ x ∧ x ≤ 256) ∧ Below w.heap.size w w'
set_option maxHeartbeats 2000000 in
theorem dDrawFrameBits_any (a : Option Addr) (len cap : Nat) (zs : List Int) (w : World) (h : IsRow .u8 w a len cap zs) :
    Calls Try.prog 22 #[.slice a len cap] w (Fb w) := by
  go_enter Try.func22, Try.ntmps22
  go_wp2_with fail
  refine (open_any a len cap zs _ (h.alloc _)).mono ?_
  rintro e w1 ⟨rfl, hr1, hz1, k1⟩
  have b1 : Bk w1 w.heap.size 27 #[.int .i64 0, .int .i64 0, .int .i64 0] := (Bk.new w 27 _).belowAll k1
  have k1 := ((Below.refl w.heap.size w).alloc (Nat.le_refl _) _).trans (k1.mono (by simp))
  obtain ⟨g, hg⟩ : ∃ g, (w.alloc (.cells #[.int .i64 0, .int .i64 0, .int .i64 0] 27)).heap.size = g := ⟨_, rfl⟩
  rw [hg] at hr1 hz1 ⊢
  have HG := hide (show w.heap.size + 1 = g by rw [← hg]; simp)
  have Z1 := hide hz1
  clear hg hz1
  go_wp2_with fail
  refine (format_any _ _ _ hr1 (by omega)).mono ?_
  rintro e w2 ⟨x, y, z, q, rfl, hx, hq1, hq2, hr2, k2⟩
  have b2 := (b1.but k2 (by have := HG.out; omega))
  have K := hide (k1.trans (k2.toBelow (B := w.heap.size) (by have := HG.out; omega) (by have := Z1.out; have := HG.out; omega)))
  clear k1 k2 b1 hr1
  have lg := hr2.lt
  have lw := b2.lt
  obtain ⟨F, hF⟩ : ∃ F, w2.heap.size = F := ⟨_, rfl⟩
  have fb := Bk.new w2 27 #[.int .i64 x, .int .i64 y, .int .i64 z]
  have rb := b2.alloc (.cells #[.int .i64 x, .int .i64 y, .int .i64 z] 27)
  have hr3 := hr2.alloc (.cells #[.int .i64 x, .int .i64 y, .int .i64 z] 27)
  have K := hide (K.out.alloc K.out.size (.cells #[.int .i64 x, .int .i64 y, .int .i64 z] 27))
  rw [hF] at fb lg lw
  have n1 : ¬ F = w.heap.size := by omega
  have n2 : ¬ w.heap.size = F := by omega
  have NG := hide (show F ≠ g by omega)
  have HGW := hide (show w.heap.size ≠ g by have := HG.out; omega)
  go_wp2_with fail
  clear hF
  refine (pick_any _ _ _ _ hr3 (by omega) (by omega) (by omega)).mono ?_
  rintro e w3 ⟨m, rfl, hm0, hm1, hr4, k3⟩
  have fb := fb.just k3 NG.out
  have rb := rb.just k3 HGW.out
  have K := hide (k3.below K.out (by have := HG.out; omega))
  clear k3 hr3 hr2 b2
  have qF := fb.cell
  have fF := fb.free
  have qR := rb.cell
  have fR := rb.free
  have lF := fb.lt
  have lR := rb.lt
  obtain ⟨hx0, hx1, hy0, hy1, hz0, hz1⟩ := hx
  by_cases e0 : m = 0
  · subst e0
    go_wp2
    have hr5 : Rdr w3.drew g (q + 1) := hr4
    have hr6 : Rdr (w3.alloc (.cells #[.int .i64 (-1), .int .i64 31, .int .i64 32, .int .i64 255, .int .i64 256] 3)).drew g (q + 1) := hr4.alloc _
    have NS := hide (show w3.heap.size ≠ g by have := hr4.lt; omega)
    go_region_law (first | (go_simp; go_at_call 38; refine (pick_any _ g (q + 1) 5 hr5 (by omega) (by omega) (by omega)).mono ?_; rintro e w4 ⟨m4, rfl, hm40, hm41, hr7, k6⟩; have f4 := Bk.just (w := w3.drew) fb k6 NG.out; have q4 := f4.cell; have r4 := Bk.just (w := w3.drew) rb k6 HGW.out; have q4' := r4.cell; have f4' := r4.free; have lF4 := f4.lt; have lR4 := r4.lt; obtain ⟨y4, hy40, hy41, hy4⟩ := five_at (Bk.new w4 3 #[.int .i64 (-1), .int .i64 31, .int .i64 32, .int .i64 255, .int .i64 256]) hm40 hm41; have KK := k6.below (K.out.drew) (by have := HG.out; omega); have KK2 := KK.alloc KK.size (.cells #[.int .i64 (-1), .int .i64 31, .int .i64 32, .int .i64 255, .int .i64 256] 3)) | (go_simp; go_at_call 38; refine (pick_any _ g (q + 1) 5 hr6 (by omega) (by omega) (by omega)).mono ?_; rintro e w4 ⟨m4, rfl, hm40, hm41, hr7, k6⟩; have f4 := Bk.just (w := (w3.alloc (.cells #[.int .i64 (-1), .int .i64 31, .int .i64 32, .int .i64 255, .int .i64 256] 3)).drew) (fb.alloc _) k6 NG.out; have q4 := f4.cell; have r4 := Bk.just (w := (w3.alloc (.cells #[.int .i64 (-1), .int .i64 31, .int .i64 32, .int .i64 255, .int .i64 256] 3)).drew) (rb.alloc _) k6 HGW.out; have q4' := r4.cell; have f4' := r4.free; have lF4 := f4.lt; have lR4 := r4.lt; obtain ⟨y4, hy40, hy41, hy4⟩ := five_at (Bk.just (w := (w3.alloc (.cells #[.int .i64 (-1), .int .i64 31, .int .i64 32, .int .i64 255, .int .i64 256] 3)).drew) (Bk.new w3 3 #[.int .i64 (-1), .int .i64 31, .int .i64 32, .int .i64 255, .int .i64 256]) k6 NS.out) hm40 hm41; have KK2 := k6.below ((K.out.alloc K.out.size (.cells #[.int .i64 (-1), .int .i64 31, .int .i64 32, .int .i64 255, .int .i64 256] 3)).drew) (by have := HG.out; omega)))
    all_goals
      go_wp2
      refine gen_ret (q := fun wz => Bk wz w.heap.size 27 #[.int .i64 x, .int .i64 y, .int .i64 z] ∧ Below w.heap.size w wz) ?_ ?_
      · first
          | ((with_reducible refine ⟨Bk.cast ((((r4.alloc _).put 0 _).put 1 _).put 2 _) ?_, ((KK2.setCell ?_ _).setCell ?_ _).setCell ?_ _⟩) <;> first | exact Nat.le_refl _ | simp)
          | ((with_reducible refine ⟨Bk.cast (((r4.put 0 _).put 1 _).put 2 _) ?_, ((KK2.setCell ?_ _).setCell ?_ _).setCell ?_ _⟩) <;> first | exact Nat.le_refl _ | simp)
          | ((with_reducible refine ⟨Bk.cast ((((r4.put 0 _).put 1 _).put 2 _).alloc _) ?_, but_alloc (((KK.setCell ?_ _).setCell ?_ _).setCell ?_ _) _ ?_⟩) <;> first | exact Nat.le_refl _ | simp)
      · rintro wz ⟨bz, kz⟩
        have qz := bz.cell
        refine bodyPost_ret (by simp [results, Try.results22, go_sem, qz]; first | rfl | (and_intros <;> rfl) | (refine ⟨⟨rfl, rfl, rfl⟩, ?_⟩; (obtain rfl | rfl | rfl | rfl | rfl : m4 = 0 ∨ m4 = 1 ∨ m4 = 2 ∨ m4 = 3 ∨ m4 = 4 := by omega) <;> simpa using hy4)) rfl ⟨_, _, _, y4, rfl, ⟨by omega, by omega, by omega, by omega, by omega, by omega, by omega, by omega⟩, kz⟩
  · have t0 : (m == 0) = false := by simpa using e0
    clear e0
    go_wp2
    obtain ⟨hc0, hc1⟩ := cl_bd x
    obtain ⟨hp0, hp1⟩ : (1 : Int) ≤ 2 ^ (cl x).toNat ∧ (2 : Int) ^ (cl x).toNat ≤ 128 := by
      obtain e | e | e : cl x = 5 ∨ cl x = 6 ∨ cl x = 7 := by omega
      all_goals (rw [e]; decide)
    have hp2 : (2 : Int) ^ (cl x).toNat ≤ 1000000 := by omega
    have hr5 : Rdr w3.drew g (q + 1) := hr4
    go_region_law (first | (go_simp; go_at_call 40; refine (clamp_any _ _).mono ?_; rintro e w' ⟨rfl, rfl⟩) | (go_simp; go_at_call 39; refine (pow_any _ _ (by omega) (by omega)).mono ?_; rintro e w' ⟨rfl, rfl⟩) | (go_simp; go_at_call 38; refine (pick_any _ g (q + 1) _ hr5 (by omega) hp0 hp2).mono ?_; rintro e w4 ⟨m4, rfl, hm40, hm41, hr6, k6⟩; have f4 := Bk.just (w := w3.drew) fb k6 NG.out; have q4 := f4.cell; have r4 := Bk.just (w := w3.drew) rb k6 HGW.out; have q4' := r4.cell; have f4' := r4.free; have lR4 := r4.lt))
    all_goals
      have KK := k6.below (K.out.drew) (by have := HG.out; omega)
      go_wp2
      refine bodyPost_ret (by simp [results, Try.results22, go_sem, q4']; first | rfl | (and_intros <;> rfl)) rfl ⟨_, _, _, m4, rfl, ⟨by omega, by omega, by omega, by omega, by omega, by omega, by omega, by omega⟩, ?_⟩
      exact ((KK.setCell (Nat.le_refl _) _).setCell (Nat.le_refl _) _).setCell (Nat.le_refl _) _
end Go.Proofs.Ytijjeioncopngaa
