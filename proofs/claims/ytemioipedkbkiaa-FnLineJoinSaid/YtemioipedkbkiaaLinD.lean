/-
  Walks of the functions that draw bytes and samples. Each contract says that the numbers are a slice of the call's own, and that of what was there the reader's own block alone may turn.
-/
import Derived.Test.YtemioipedkbkiaaLinS
import Derived.Test.YtemioipedkbkiaaDrawB
import Derived.RegionTactic
import Derived.Deep.DeepCutAuto
namespace Go.Proofs.Ytemioipedkbkiaa
open Go.RowKit
set_option linter.unusedVariables false

theorem but_grow {g r : Nat} {a b c : World} (h : But g a b) (k : b.grownBy c (some r)) (hr : r ≠ g → a.heap.size ≤ r) : But g a c :=
  ⟨k.os.trans h.os, k.tape.trans h.tape, k.output.trans h.output, Nat.le_trans h.size k.size, fun i hi hg => (k.block i (Nat.lt_of_lt_of_le hi h.size) (by
    rintro e
    injection e with e
    subst e
    have := hr hg
    omega)).trans (h.block i hi hg)⟩
theorem rdr_grow {w w' : World} {g r : Nat} {p : Int} (h : Rdr w g p) (k : w.grownBy w' (some r)) (hr : g < r) : Rdr w' g p :=
  h.keep fun i hi => k.block i (by have := h.lt; omega) (by intro e; injection e with e; omega)
/-- Bytes were drawn. -/
def By (g : Nat) (p most : Int) (w : World) (e : Ending) (w' : World) : Prop :=
  ∃ (h k cap : Nat) (zs : List Int) (q : Int), e = .returned (.slice (some ⟨h, 0, none⟩) k cap) ∧ Own w' w.heap.size h k cap zs ∧ (k : Int) ≤ most ∧ p ≤ q ∧ q ≤ p + 1 + most ∧ Rdr w' g q ∧ But g w w'
set_option maxHeartbeats 2000000 in
theorem l91Bytes_any (a b c most : Int) (w : World) (g : Nat) (p : Int) (hr : Rdr w g p) (hp : p ≤ 900000) (hm0 : 0 ≤ most) (hm1 : most ≤ 20) :
    Calls Try.prog 30 #[.pointer (some ⟨g, 0, none⟩), .agg #[.int .i64 a, .int .i64 b, .int .i64 c], .int .i64 most] w (By g p most w) := by
  have hg := hr.lt
  have HP0 := hide hr.1
  have B := hide ((But.refl g w).alloc (.cells #[.int .i64 a, .int .i64 b, .int .i64 c] 27))
  have b0 := Bk.new w 27 #[.int .i64 a, .int .i64 b, .int .i64 c]
  have b1 := b0.alloc (.cells #[] 3)
  have o : Own ((w.alloc (.cells #[.int .i64 a, .int .i64 b, .int .i64 c] 27)).alloc (.cells #[] 3)) (w.heap.size + 1) (w.heap.size + 1) 0 0 [] := Own.new (by omega) (by have := Bk.new (w.alloc (.cells #[.int .i64 a, .int .i64 b, .int .i64 c] 27)) 3 #[]; simpa using this)
  have r1 := (hr.alloc (.cells #[.int .i64 a, .int .i64 b, .int .i64 c] 27)).alloc (.cells #[] 3)
  have K := hide (B.out.alloc (.cells #[] 3))
  have hgw : w.heap.size ≠ g := by omega
  go_enter Try.func30, Try.ntmps30
  go_wp2_with fail
  refine (pick_any _ g p _ r1 (by omega) (by omega) (by omega)).mono ?_
  rintro e w1 ⟨n, rfl, hn0, hn1, hr1, k1⟩
  have b1 := b1.just k1 hgw
  have o := o.just k1 (by omega)
  have K := hide (K.out.just k1)
  clear k1 r1 b0
  obtain ⟨n, rfl⟩ := Int.eq_ofNat_of_zero_le hn0
  obtain ⟨hc0, hc1⟩ := cl_bd a
  obtain ⟨hp0, hp1⟩ : (1 : Int) ≤ 2 ^ (cl a).toNat ∧ (2 : Int) ^ (cl a).toNat ≤ 128 := by
    obtain e | e | e : cl a = 5 ∨ cl a = 6 ∨ cl a = 7 := by omega
    all_goals (rw [e]; decide)
  have hp2 : (2 : Int) ^ (cl a).toNat ≤ 1000000 := by omega
  go_wp2
  go_loopw [7, 9] (fun v i wr => ∃ (k h cp : Nat) (zs : List Int) (q : Int), v = .slice (some ⟨h, 0, none⟩) k cp ∧ i = .int .i64 k ∧ k ≤ n ∧ Own wr (w.heap.size + 1) h k cp zs ∧ Rdr wr g q ∧ p + 1 ≤ q ∧ q ≤ p + 1 + k ∧ Bk wr w.heap.size 27 #[.int .i64 a, .int .i64 b, .int .i64 c] ∧ But g w wr) (fun _ i _ => n - (intOf i).toNat)
  case atStart => exact ⟨0, _, _, [], _, rfl, rfl, by omega, o, hr1, by omega, by omega, b1, K.out⟩
  case round =>
    clear o hr1 b1
    obtain ⟨k, h5, cp5, zs, q, rfl, rfl, hkn, o, hr5, hq0, hq1, f, HB⟩ := hrel
    have HBB := hide HB
    clear HB
    have q5 := f.cell
    by_cases hlt : k < n
    · have hlt' : (k : Int) < (n : Int) := by omega
      go_wp2_with (first | (go_at_call 40; refine (clamp_any _ _).mono ?_; rintro e w' ⟨rfl, rfl⟩) | (go_at_call 36; refine (pow_any _ _ (by omega) (by omega)).mono ?_; rintro e w' ⟨rfl, rfl⟩) | (go_at_call 31; refine (pick_any _ g q _ hr5 (by omega) hp0 hp2).mono ?_; rintro e w4 ⟨m4, rfl, hm40, hm41, hr6, k6⟩; have f6 := f.just k6 hgw; have o6 := o.just k6 (by have := o.lt; omega); have B6 := HBB.out.just k6; clear k6 q5) | (refine app_int2 rfl (.tmp 20) (.tmp 27) rfl rfl rfl (Own.alloc o6 _) (Bk.new w4 _ _) (by omega) (by have := f6.lt; simp; omega) ?_; intro g7 cap7 w7 o7 k7 hg7; have f7 := Bk.grow (f6.alloc _) k7 (by have := o6.lt; simp; omega); have r7 := rdr_grow (hr6.alloc _) k7 (by have := o6.lt; omega); have B7 := but_grow (B6.alloc _) k7 (by have := o6.lt; omega); clear k7 hg7))
      go_roundw
      case rel => exact ⟨k + 1, g7, cap7, _, q + 1, by rfl, by go_num, by omega, o7, r7, by omega, by omega, f7, B7⟩
      case measure => simp [intOf]; omega
    · have hge : ¬ (k : Int) < (n : Int) := by omega
      go_wp2
      go_ret
      exact ⟨h5, k, cp5, zs, q, rfl, o.le_ (by omega), by omega, by omega, by omega, hr5, HBB.out⟩
theorem Own.take2 {w : World} {base h k cap : Nat} {zs : List Int} (o : Own w base h k cap zs) {m : Nat} (hm : m ≤ k) : Own w base h m cap (zs.take m) := by
  have hl := o.len
  rcases o.2 with ⟨hv, _⟩ | ⟨g, c, cur, hv, hg, hb, h1, h2, h3, h4⟩
  · cases hv
  · injection hv with ha _ hc
    subst hc
    refine ⟨by simp; omega, .inr ⟨g, cap, cur, ?_, hg, hb, by omega, h2, h3, ?_⟩⟩
    · rw [ha]
    · rw [List.map_take, ← h4, List.take_take]
      congr 1; omega
theorem Own.all {w : World} {base h n : Nat} {zs : List Int} (hb : base ≤ h) (b : Bk w h 3 (zs.map (Value.int .i64)).toArray) (hl : zs.length = n) (hm : n ≤ 1000000) : Own w base h n n zs :=
  ⟨by simp [hl], .inr ⟨h, n, (zs.map (Value.int .i64)).toArray, rfl, hb, b, Nat.le_refl _, by unfold maxLen; omega, by simp [hl], by simp [← hl, List.take_of_length_le]⟩⟩
theorem Own.set3 {w : World} {base h k cap R : Nat} {zs : List Int} (o : Own w base h k cap zs) (hp : h ≠ R) (a b c : Value) : Own (((w.setCell ⟨R, 0, none⟩ a).setCell ⟨R, 1, none⟩ b).setCell ⟨R, 2, none⟩ c) base h k cap zs :=
  ((o.far (p := ⟨R, 0, none⟩) hp a).far (p := ⟨R, 1, none⟩) hp b).far (p := ⟨R, 2, none⟩) hp c
theorem but3 {w w' : World} {g R : Nat} (h : But g w w') (hp : w.heap.size ≤ R) (a b c : Value) : But g w (((w'.setCell ⟨R, 0, none⟩ a).setCell ⟨R, 1, none⟩ b).setCell ⟨R, 2, none⟩ c) :=
  ((h.set (p := ⟨R, 0, none⟩) (.inr hp) a).set (p := ⟨R, 1, none⟩) (.inr hp) b).set (p := ⟨R, 2, none⟩) (.inr hp) c
theorem rdr3 {w : World} {g R : Nat} {q : Int} (h : Rdr w g q) (hp : g < R) (a b c : Value) : Rdr (((w.setCell ⟨R, 0, none⟩ a).setCell ⟨R, 1, none⟩ b).setCell ⟨R, 2, none⟩ c) g q :=
  ((h.set (q := ⟨R, 0, none⟩) hp a).set (q := ⟨R, 1, none⟩) hp b).set (q := ⟨R, 2, none⟩) hp c
theorem lo_bits {a b c idle : Int} {xs zs : List Int} (h : zs = if lok a b c idle xs = true then lin a b c idle.toNat xs else []) : zs.length ≤ 500 ∧ allBt zs = true := by
  subst h
  split
  · rename_i hl
    refine ⟨?_, lin_bits⟩
    simp only [lok, pre1, Bool.and_eq_true, decide_eq_true_eq] at hl
    rw [lin_len _ hl.1.1]
    exact hl.2.2
  · exact ⟨by simp, rfl⟩
end Go.Proofs.Ytemioipedkbkiaa
