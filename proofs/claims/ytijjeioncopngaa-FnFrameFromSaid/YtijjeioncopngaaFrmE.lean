/-
  The walk of the exact law on the bits of a frame.
-/
import Derived.Test.YtijjeioncopngaaFrmS
import Derived.Test.YtijjeioncopngaaMark
namespace Go.Proofs.Ytijjeioncopngaa
open Go.RowKit
set_option linter.unusedVariables false

theorem Own.drewN {w : World} {base h k cap : Nat} {zs : List Int} (o : Own w base h k cap zs) (q : Nat) : Own (w.drewN q) base h k cap zs := o
theorem frm_len {a b c x : Int} (h : fok a b c x = true) : 7 ≤ (frm a b c x).length ∧ (frm a b c x).length ≤ 12 := by
  have h1 : fv a b c = true := by simp only [fok, Bool.and_eq_true] at h; exact h.1
  obtain ⟨r1, r2, r3, r4, r5, r6⟩ := fv_iff.1 h1
  unfold frm
  simp only [List.length_cons, List.length_append, fbits_len, List.length_replicate]
  split <;> simp <;> omega
set_option maxHeartbeats 4000000 in
theorem fnExactFrameBits_walk (a b c : Int) (wa : (Lit.int .i64 a).wf = true) (wb : (Lit.int .i64 b).wf = true) (wc : (Lit.int .i64 c).wf = true) (x : Int) (wx : (Lit.int .i64 x).wf = true) (w : World) :
    Calls Try.prog 3 #[.agg #[.int .i64 a, .int .i64 b, .int .i64 c], .int .i64 x] w fun e w' => e = .returned (.bool true) ∧ Below w.heap.size w w' := by
  clear wa wb wc wx
  have K := hide ((Below.refl w.heap.size w).alloc (Nat.le_refl _) (.cells #[.int .i64 a, .int .i64 b, .int .i64 c] 23))
  have f := Bk.new w 23 #[.int .i64 a, .int .i64 b, .int .i64 c]
  cases hv : fok a b c x
  · have HV := hide hv
    clear hv
    go_enter Try.func3, Try.ntmps3
    go_wp2_with fail
    refine (toFormat_any _ _ _ _).mono ?_
    rintro e w' ⟨rfl, k⟩
    have f := f.belowAll k
    have K := hide (K.out.trans (k.mono (by have := K.out.size; first | exact this | simpa using this)))
    clear k
    have q := f.cell
    go_wp2_with fail
    refine (sfb_no _ _ _ _ _ HV.out).mono ?_
    rintro e w' ⟨h2, rfl, o, k⟩
    clear q
    have f := f.belowAll k
    have K := hide (K.out.trans (k.mono (by have := K.out.size; first | exact this | simpa using this)))
    clear k
    have q := f.cell
    go_wp2_with fail
    refine (toFormat_any _ _ _ _).mono ?_
    rintro e w' ⟨rfl, k⟩
    clear q
    have o := o.belowAll k
    have f := f.belowAll k
    have K := hide (K.out.trans (k.mono (by have := K.out.size; first | exact this | simpa using this)))
    clear k
    have q := f.cell
    go_wp2_with fail
    refine (ifb_no _ _ _ _ _ HV.out).mono ?_
    rintro e w' ⟨rfl, k⟩
    clear q
    have o := o.belowAll k
    have f := f.belowAll k
    have K := hide (K.out.trans (k.mono (by have := K.out.size; first | exact this | simpa using this)))
    clear k
    have q := f.cell
    go_wp2_with fail
    refine (eqIntS_any _ _ _ _ _ _ [] [] _ (Sl.nil_ _ _ _ (by omega)) o.sl).mono ?_
    rintro e w' ⟨rfl, q5, rfl⟩
    simp only [decide_true]
    clear q
    have K := hide (below_drewN K.out q5)
    have f := f.drewN q5
    have o := Own.drewN o q5
    have q := f.cell
    go_wp2_with fail
    refine (mark_none _ _ _ _).mono ?_
    rintro e w' ⟨rfl, rfl⟩
    go_wp2_with fail
    refine (held_any _ 0 _ [] 1 _ (Sl.nil_ _ _ _ (by omega)) (fun j hj => absurd hj (by simp)) (by omega) (by omega) (by omega)).mono ?_
    rintro e w' ⟨rfl, rfl⟩
    go_wp2_with fail
    refine (toFormat_any _ _ _ _).mono ?_
    rintro e w' ⟨rfl, k⟩
    clear q
    have o := o.belowAll k
    have f := f.belowAll k
    have K := hide (K.out.trans (k.mono (by have := K.out.size; first | exact this | simpa using this)))
    clear k
    have q := f.cell
    go_wp2_with fail
    refine (ifb_no _ _ _ _ _ HV.out).mono ?_
    rintro e w' ⟨rfl, k⟩
    clear q
    have o := o.belowAll k
    have f := f.belowAll k
    have K := hide (K.out.trans (k.mono (by have := K.out.size; first | exact this | simpa using this)))
    clear k
    have q := f.cell
    go_wp2_with fail
    refine (eqIntS_any _ _ _ _ _ _ [] [] _ (Sl.nil_ _ _ _ (by omega)) o.sl).mono ?_
    rintro e w' ⟨rfl, q9, rfl⟩
    simp only [decide_true]
    clear q
    have K := hide (below_drewN K.out q9)
    have f := f.drewN q9
    have o := Own.drewN o q9
    have q := f.cell
    go_wp2_with fail
    refine (held_any _ 0 _ [] 1 _ (Sl.nil_ _ _ _ (by omega)) (fun j hj => absurd hj (by simp)) (by omega) (by omega) (by omega)).mono ?_
    rintro e w' ⟨rfl, rfl⟩
    go_wp2
    go_ret
    exact ⟨rfl, K.out⟩
  · have HV := hide hv
    have HL := hide (frm_len hv)
    clear hv
    go_enter Try.func3, Try.ntmps3
    go_wp2_with fail
    refine (toFormat_any _ _ _ _).mono ?_
    rintro e w' ⟨rfl, k⟩
    have f := f.belowAll k
    have K := hide (K.out.trans (k.mono (by have := K.out.size; first | exact this | simpa using this)))
    clear k
    have q := f.cell
    go_wp2_with fail
    refine (sfb_yes _ _ _ _ _ HV.out).mono ?_
    rintro e w' ⟨h2, n2, c2, rfl, o, k⟩
    clear q
    have f := f.belowAll k
    have K := hide (K.out.trans (k.mono (by have := K.out.size; first | exact this | simpa using this)))
    clear k
    have q := f.cell
    go_wp2_with fail
    refine (toFormat_any _ _ _ _).mono ?_
    rintro e w' ⟨rfl, k⟩
    clear q
    have o := o.belowAll k
    have f := f.belowAll k
    have K := hide (K.out.trans (k.mono (by have := K.out.size; first | exact this | simpa using this)))
    clear k
    have q := f.cell
    have HF := hide f.lt
    have HO := hide o.lt
    go_wp2_with fail
    refine (ifb_yes _ _ _ _ _ HV.out).mono ?_
    rintro e w' ⟨h4, n4, c4, rfl, g, k⟩
    clear q
    have o := o.belowAll k
    have f := f.belowAll k
    have K := hide (K.out.trans (k.mono (by have := K.out.size; first | exact this | simpa using this)))
    clear k
    have q := f.cell
    have HNE := hide (show h2 ≠ h4 by have := HO.out; have := g.lt; omega)
    have HG := hide (show w.heap.size < h4 by have := HF.out; have := g.lt; omega)
    have HN := hide (show n4 ≤ 12 by have := HL.out; have := g.len; omega)
    have hn4 := HN.out
    clear HF HO
    go_wp2_with fail
    refine (eqIntS_any _ _ _ _ _ _ (frm a b c x) (frm a b c x) _ g.sl o.sl).mono ?_
    rintro e w' ⟨rfl, q5, rfl⟩
    simp only [decide_true]
    clear q
    have K := hide (below_drewN K.out q5)
    have f := f.drewN q5
    have o := Own.drewN o q5
    have g := Own.drewN g q5
    have q := f.cell
    go_wp2_with fail
    refine (mark_any _ _ _ _ (frm a b c x) 1 _ g (by omega) (by omega) (by omega)).mono ?_
    rintro e w' ⟨rfl, zs, g, hmk, j⟩
    clear q
    have f := f.just j (by have := HG.out; omega)
    have o := o.just j HNE.out
    have K := hide (j.below K.out (Nat.le_of_lt HG.out))
    have HM := hide hmk
    clear j hmk
    have q := f.cell
    go_wp2_with fail
    refine (held_any _ _ _ zs 1 _ g.sl HM.out (by omega) (by omega) (by omega)).mono ?_
    rintro e w' ⟨rfl, rfl⟩
    go_wp2_with fail
    refine (toFormat_any _ _ _ _).mono ?_
    rintro e w' ⟨rfl, k⟩
    clear q
    have o := o.belowAll k
    have g := g.belowAll k
    have f := f.belowAll k
    have K := hide (K.out.trans (k.mono (by have := K.out.size; first | exact this | simpa using this)))
    clear k
    have q := f.cell
    go_wp2_with fail
    refine (ifb_yes _ _ _ _ _ HV.out).mono ?_
    rintro e w' ⟨h7, n7, c7, rfl, h, k⟩
    clear q
    have o := o.belowAll k
    have g := g.belowAll k
    have f := f.belowAll k
    have K := hide (K.out.trans (k.mono (by have := K.out.size; first | exact this | simpa using this)))
    clear k
    have q := f.cell
    go_wp2_with fail
    refine (eqIntS_any _ _ _ _ _ _ (frm a b c x) (frm a b c x) _ h.sl o.sl).mono ?_
    rintro e w' ⟨rfl, q9, rfl⟩
    simp only [decide_true]
    clear q
    have K := hide (below_drewN K.out q9)
    have f := f.drewN q9
    have o := Own.drewN o q9
    have g := Own.drewN g q9
    have q := f.cell
    go_wp2_with fail
    refine (held_any _ _ _ zs 1 _ g.sl HM.out (by omega) (by omega) (by omega)).mono ?_
    rintro e w' ⟨rfl, rfl⟩
    go_wp2
    go_ret
    exact ⟨rfl, K.out⟩
end Go.Proofs.Ytijjeioncopngaa
