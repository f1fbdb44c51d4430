/-
  Walks of the functions that read the byte at a place of samples. Each contract says what the function returns for what the slice reads as, and that nothing that was there has turned.
-/
import Derived.Test.YtemioipedkbkiaaLinP
import Derived.Test.YtemioipedkbkiaaFrmG
import Derived.Test.YtemioipedkbkiaaOwnB
import Derived.Test.YtemioipedkbkiaaSmpL
import Derived.Laws.MakeOwn
namespace Go.Proofs.Ytemioipedkbkiaa
open Go.RowKit
set_option linter.unusedVariables false

theorem by_end {a b c : Int} {zs : List Int} {p : Nat} (h : ¬ p + 4 * ((flOf a b c).toNat - 1) + 2 < zs.length) : byv a b c zs p = 0 ∧ byc a b c zs p = 3 := by
  unfold byv byc; rw [if_neg h, if_neg h]; exact ⟨rfl, rfl⟩
theorem by_in {a b c : Int} {zs : List Int} {p L : Nat} (hL : flOf a b c = (L : Int)) (h : p + 4 * (L - 1) + 2 < zs.length) : byv a b c zs p = ffv a b c L (pk zs p L) ∧ byc a b c zs p = ffc a b c L (pk zs p L) := by
  unfold byv byc; rw [hL, Int.toNat_natCast, if_pos h, if_pos h]; exact ⟨rfl, rfl⟩
theorem lastRead_any (a b c : Int) (p L : Nat) (w : World) (hL : flOf a b c = (L : Int)) (h7 : 7 ≤ L) (h12 : L ≤ 12) (hp : p ≤ 1000) :
    Calls Try.prog 35 #[.agg #[.int .i64 a, .int .i64 b, .int .i64 c], .int .i64 p] w fun e w' => e = .returned (.int .i64 ((p : Int) + 4 * ((L : Int) - 1) + 2)) ∧ Below w.heap.size w w' := by
  have K := hide ((Below.refl w.heap.size w).alloc (Nat.le_refl _) (.cells #[.int .i64 a, .int .i64 b, .int .i64 c] 27))
  have HL := hide hL
  have f := Bk.new w 27 #[.int .i64 a, .int .i64 b, .int .i64 c]
  have q := f.cell
  clear hL
  go_enter Try.func35, Try.ntmps35
  go_wp2_with fail
  refine (ifl_any _ _ _ _).mono ?_
  rintro e w1 ⟨rfl, k1⟩
  rw [HL.out]
  have K := hide (K.out.trans (k1.mono (by simp)))
  clear k1
  go_wp2
  go_ret
  exact ⟨rfl, K.out⟩
set_option maxHeartbeats 1000000 in
theorem iba_any (a b c : Int) (x : Option Addr) (len cap : Nat) (zs : List Int) (p : Nat) (w : World) (h : Sl w x len cap zs) (hv : fv a b c = true) (hp : p < len) (hlen : len ≤ 500) :
    Calls Try.prog 34 #[.agg #[.int .i64 a, .int .i64 b, .int .i64 c], .slice x len cap, .int .i64 p] w fun e w' => e = .returned (.agg #[.int .i64 (byv a b c zs p), .int .i64 (byc a b c zs p)]) ∧ Below w.heap.size w w' := by
  have HZ := hide h.1
  obtain ⟨L, hL, h7, h12⟩ : ∃ L : Nat, flOf a b c = (L : Int) ∧ 7 ≤ L ∧ L ≤ 12 := ⟨(flOf a b c).toNat, by have := fl_bd hv; omega, by have := fl_bd hv; omega, by have := fl_bd hv; omega⟩
  have K := hide (((Below.refl w.heap.size w).alloc (Nat.le_refl _) (.cells #[.int .i64 a, .int .i64 b, .int .i64 c] 27)).alloc (by simp) (.cells #[.int .i64 0, .int .i64 0] 43))
  have f := (Bk.new w 27 #[.int .i64 a, .int .i64 b, .int .i64 c]).alloc (.cells #[.int .i64 0, .int .i64 0] 43)
  have r : Bk ((w.alloc (.cells #[.int .i64 a, .int .i64 b, .int .i64 c] 27)).alloc (.cells #[.int .i64 0, .int .i64 0] 43)) (w.heap.size + 1) 43 #[.int .i64 0, .int .i64 0] := by
    have := Bk.new (w.alloc (.cells #[.int .i64 a, .int .i64 b, .int .i64 c] 27)) 43 #[.int .i64 0, .int .i64 0]
    simpa using this
  have HS := hide h
  have HL := hide hL
  by_cases hin : p + 4 * (L - 1) + 2 < len
  · obtain ⟨e1, e2⟩ := by_in (p := p) (zs := zs) hL (by rw [HZ.out]; exact hin)
    rw [e1, e2]
    have hin' : ¬ (len : Int) ≤ (p : Int) + 4 * ((L : Int) - 1) + 2 := by omega
    have hin2 : (p : Int) + 4 * ((L : Int) - 1) + 2 < (len : Int) := by omega
    obtain ⟨y, rfl, _⟩ := h.at_ (k := p) hp
    have hlen' : (len : Int) ≤ 500 := by omega
    have hdd : decide ((len : Int) ≤ (p : Int) + 4 * ((L : Int) - 1) + 2) = false := by simp; omega
    have hmk : ∀ W : World, (Instr.makeSlice 24 (.int .i64 0) (.int .i64 (L : Int))).run Try.prog W = .ok (.slice (some ⟨W.heap.size, 0, none⟩) 0 L) (W.alloc (.cells (madeCells #[.int .i64 0] (L * 1)) 3)) := by
      intro W
      obtain ⟨i, hi, hz⟩ := Option.map_eq_some_iff.1 int_info1
      simp only [Prod.mk.injEq] at hz
      obtain ⟨hz0, hz1, hz2⟩ := hz
      have hr := run_make (P := Try.prog) W 24 3 i _ Try.underlying24 hi hz0 .i64 .i64 0 L (by omega) (by omega) (by rw [hz2]; omega) (by omega)
      simpa [hz1, Value.cells] using hr
    clear e1 e2 hL hv h
    go_enter Try.func34, Try.ntmps34
    go_wp2_with fail
    refine (lastRead_any _ _ _ p L _ HL.out h7 h12 (by omega)).mono ?_
    rintro e w1 ⟨rfl, k1⟩
    have f := f.belowAll k1
    have r := r.belowAll k1
    have K := hide (K.out.trans (k1.mono (by have := K.out.size; first | exact this | simpa using this)))
    clear k1
    have q := f.cell
    go_wp2_with fail
    refine (ifl_any _ _ _ _).mono ?_
    rintro e w2 ⟨rfl, k2⟩
    rw [HL.out]
    have f := f.belowAll k2
    have r := r.belowAll k2
    have K := hide (K.out.trans (k2.mono K.out.size))
    clear k2 q
    have q := f.cell
    have HB := hide (show w.heap.size + 2 ≤ w2.heap.size from r.lt)
    have lF2 := f.lt
    have o := Own.room (base := w.heap.size + 2) HB.out (Bk.new w2 3 (madeCells #[.int .i64 0] L)) (size_madeCells _ _) (by omega)
    have f := f.alloc (.cells (madeCells #[.int .i64 0] L) 3)
    have r := r.alloc (.cells (madeCells #[.int .i64 0] L) 3)
    have K := hide (K.out.alloc K.out.size (.cells (madeCells #[.int .i64 0] L) 3))
    go_wp2_with fail
    refine (ifl_any _ _ _ _).mono ?_
    rintro e w3 ⟨rfl, k3⟩
    rw [HL.out]
    have o := o.belowAll k3
    have f := f.belowAll k3
    have r := r.belowAll k3
    have K := hide (K.out.trans (k3.mono K.out.size))
    clear k3 q hmk lF2
    go_wp2
    go_loopw [7, 23] (fun v i wr => ∃ k g cp : Nat, v = .slice (some ⟨g, 0, none⟩) k cp ∧ i = .int .i64 k ∧ k ≤ L ∧ Own wr (w.heap.size + 2) g k cp (pk zs p k) ∧ Bk wr w.heap.size 27 #[.int .i64 a, .int .i64 b, .int .i64 c] ∧ Bk wr (w.heap.size + 1) 43 #[.int .i64 0, .int .i64 0] ∧ Below w.heap.size w wr) (fun _ i _ => L - (intOf i).toNat)
    case atStart => exact ⟨0, _, _, rfl, rfl, by omega, by simpa [pk] using o, f, r, K.out⟩
    case round =>
      clear o f r K
      obtain ⟨k, g, cp, rfl, rfl, hk, o, f, r, K⟩ := hrel
      have HK := hide K
      clear K
      have HB2 := hide (show w.heap.size + 2 ≤ wr.heap.size from r.lt)
      by_cases hlt : k < L
      · have hlt' : (k : Int) < (L : Int) := by omega
        have hs := HS.out.below HK.out (Nat.le_refl _)
        obtain ⟨y', hy', hc⟩ := hs.lit (k := p + 4 * k + 2) (by omega) (by omega)
        obtain rfl : y = y' := by injection hy'
        have hx4 : (p : Int) + 4 * (k : Int) + 2 < (len : Int) := by omega
        obtain ⟨u, hu⟩ : ∃ u, zs.getD (p + 4 * k + 2) 0 = u := ⟨_, rfl⟩
        rw [hu] at hc
        have HU := hide hu
        clear hu hs hy'
        go_wp2_with (refine app_int2 rfl (.tmp 26) (.tmp 35) rfl rfl rfl (Own.alloc o _) (Bk.new _ _ _) (by omega) (by have := HB2.out; simp; omega) ?_; intro g9 cp9 w9 o9 k9 hg9; have f9 := Bk.grow (f.alloc _) k9 (by have := o.lt; simp; omega); have r9 := Bk.grow (r.alloc _) k9 (by have := o.lt; simp; omega); have K9 := (HK.out.alloc HK.out.size _).trans (grown_below k9 (by have := o.lt; omega) (by have := HK.out.size; simp; omega)); clear k9 hg9)
        go_roundw
        case rel => exact ⟨k + 1, g9, cp9, by rfl, by go_num, by omega, by rw [← HU.out, pk_snoc] at o9; exact o9, f9, r9, K9⟩
        case measure => simp [intOf]; omega
      · obtain rfl : L = k := by omega
        have q := f.cell
        go_wp2_with fail
        refine (iff_any _ _ _ _ _ _ (pk zs p L) _ o.sl).mono ?_
        rintro e w4 ⟨rfl, k4⟩
        have r := r.belowAll k4
        have K := HK.out.trans (k4.mono HK.out.size)
        clear k4 q
        have qR := r.cell
        have fR := r.free
        have lR := r.lt
        go_wp2
        refine bodyPost_ret (by simp [results, Try.results34, go_sem, qR] <;> first | rfl | (and_intros <;> rfl)) rfl ⟨rfl, ?_⟩
        exact (K.setCell (by simp) _).setCell (by simp) _
  · obtain ⟨e1, e2⟩ := by_end (a := a) (b := b) (c := c) (p := p) (zs := zs) (by rw [HZ.out, hL, Int.toNat_natCast]; exact hin)
    rw [e1, e2]
    have hin' : (len : Int) ≤ (p : Int) + 4 * ((L : Int) - 1) + 2 := by omega
    clear e1 e2 hL hv h
    go_enter Try.func34, Try.ntmps34
    go_wp2_with fail
    refine (lastRead_any _ _ _ p L _ HL.out h7 h12 (by omega)).mono ?_
    rintro e w1 ⟨rfl, k1⟩
    have r := r.belowAll k1
    have K := hide (K.out.trans (k1.mono (by have := K.out.size; first | exact this | simpa using this)))
    clear k1
    have qR := r.cell
    have fR := r.free
    have lR := r.lt
    go_wp2
    refine bodyPost_ret (by simp [results, Try.results34, go_sem, qR] <;> first | rfl | (and_intros <;> rfl)) rfl ⟨rfl, ?_⟩
    exact (K.out.setCell (by simp) _).setCell (by simp) _
end Go.Proofs.Ytemioipedkbkiaa
