/-
  The walks of the laws on control bytes: each law returns true and turns nothing that was there. The one condition: the sentinel's variable holds a pointer to an errors.errorString.
-/
import Derived.Test.YtkiijeobadlnnaaDoorFmtO
import Derived.Test.YtkiijeobadlnnaaDoorDrawF
import Derived.Test.YtkiijeobadlnnaaDoorDrawN
namespace Go.Proofs.YtkiijeobadlnnaaDoor
open Go.RowKit
set_option linter.unusedVariables false

theorem len_row {k : IntKind} {w : World} {a : Option Addr} {len cap : Nat} {zs : List Int} (h : IsRow k w a len cap zs) : (len : Int) ≤ 9223372036854775807 := by
  rcases h with ⟨_, rfl, _, _⟩ | ⟨x, _, hlc, hm, _⟩
  · omega
  · unfold maxLen at hm; omega
set_option maxHeartbeats 1000000 in
theorem fnExactFormatOf_walk (b : Int) (wb : (Lit.int .i64 b).wf = true) (w : World) (a : Addr) (hg : w.cell? ⟨0, 0, none⟩ = some (.iface 64 (.pointer (some a)))) :
    Calls Tryd.prog 3 #[.int .i64 b] w fun e w' => e = .returned (.bool true) ∧ Below w.heap.size w w' := by
  clear wb
  cases h : foOk b
  · have H := hide h
    clear h
    go_enter Tryd.func3, Tryd.ntmps3
    go_wp2_with fail
    refine (sfo_no _ _ H.out).mono ?_
    rintro e w1 ⟨rfl, k1⟩
    have g1 := keep_cell (keep_cell hg k1) ((Below.refl w1.heap.size w1).alloc (Nat.le_refl _) (.cells #[.int .i64 0, .int .i64 0, .int .i64 0] 23))
    go_wp2_with fail
    refine (iof_no _ _ a H.out g1).mono ?_
    rintro e w2 ⟨rfl, k2⟩
    have b2 := (Bk.new w1 23 #[.int .i64 0, .int .i64 0, .int .i64 0]).belowAll k2
    have q2 := b2.cell
    have l2 := b2.lt
    have n2 : ¬ w1.heap.size = w2.heap.size := by omega
    have K := hide ((k1.alloc k1.size (.cells #[.int .i64 0, .int .i64 0, .int .i64 0] 23)).trans (k2.mono (by have := k1.size; simp; omega)))
    clear k1 k2 g1 hg
    go_wp2_with fail
    refine (eqf_same _ _ _ _).mono ?_
    rintro e w3 ⟨rfl, k3⟩
    have K := (K.out.alloc K.out.size _).trans (k3.mono (by have := K.out.size; simp; omega))
    go_wp2
    go_ret
    exact ⟨rfl, K⟩
  · have H := hide h
    clear h
    go_enter Tryd.func3, Tryd.ntmps3
    go_wp2_with fail
    refine (sfo_yes _ _ H.out).mono ?_
    rintro e w1 ⟨rfl, k1⟩
    have g1 := keep_cell (keep_cell hg k1) ((Below.refl w1.heap.size w1).alloc (Nat.le_refl _) (.cells #[.int .i64 (5 + b % 4), .int .i64 (foP b), .int .i64 (1 + b / 4 % 2)] 23))
    generalize e1 : 5 + b % 4 = x at *
    generalize e2 : foP b = y at *
    generalize e3 : 1 + b / 4 % 2 = z at *
    have E1 := hide e1
    have E2 := hide e2
    have E3 := hide e3
    clear e1 e2 e3
    go_wp2_with fail
    refine (iof_yes _ _ a H.out g1).mono ?_
    rw [E1.out, E2.out, E3.out]
    rintro e w2 ⟨rfl, k2⟩
    have b2 := (Bk.new w1 23 #[.int .i64 x, .int .i64 y, .int .i64 z]).belowAll k2
    have q2 := b2.cell
    have l2 := b2.lt
    have n2 : ¬ w1.heap.size = w2.heap.size := by omega
    have K := hide ((k1.alloc k1.size (.cells #[.int .i64 x, .int .i64 y, .int .i64 z] 23)).trans (k2.mono (by have := k1.size; simp; omega)))
    clear k1 k2 g1 hg
    go_wp2_with fail
    refine (eqf_same _ _ _ _).mono ?_
    rintro e w3 ⟨rfl, k3⟩
    have K := (K.out.alloc K.out.size _).trans (k3.mono (by have := K.out.size; simp; omega))
    go_wp2
    go_ret
    exact ⟨rfl, K⟩
theorem retb {a b : Bool} (h : a = b) : Ending.returned (.bool a) = .returned (.bool b) := by rw [h]
set_option maxHeartbeats 2000000 in
theorem fnFormatOfWhen_walk (a : Option Addr) (len cap : Nat) (zs : List Int) (w : World) (h : IsRow .u8 w a len cap zs) (a0 : Addr) (hg : w.cell? ⟨0, 0, none⟩ = some (.iface 64 (.pointer (some a0)))) :
    Calls Tryd.prog 4 #[.slice a len cap] w fun e w' => e = .returned (.bool true) ∧ Below w.heap.size w w' := by
  have hl := len_row h
  by_cases hbig : (1048576 : Int) < (len : Int)
  · go_enter Tryd.func4, Tryd.ntmps4
    go_wp2
    go_ret
    exact ⟨rfl, Below.refl _ _⟩
  · go_enter Tryd.func4, Tryd.ntmps4
    go_wp2_with fail
    refine (dDrawFormatOf_any a len cap zs _ h).mono ?_
    rintro e w1 ⟨m, rfl, hm0, hm1, k1⟩
    clear h
    cases h : foOk m
    · have H := hide h
      clear h
      have g1 := keep_cell hg k1
      go_wp2_with fail
      refine (iof_no _ _ a0 H.out g1).mono ?_
      rintro e w2 ⟨rfl, k2⟩
      have K := hide (k1.trans (k2.mono k1.size))
      have b2 := Bk.new w2 23 #[.int .i64 0, .int .i64 0, .int .i64 0]
      clear k1 k2 g1 hg
      go_wp2_with fail
      refine (sfo_no _ _ H.out).mono ?_
      rintro e w3 ⟨rfl, k3⟩
      have b3 := b2.belowAll k3
      have l3 := b3.lt
      have q3 := b3.cell
      have n3 : ¬ w2.heap.size = w3.heap.size := by omega
      have n4 : ¬ w3.heap.size = w2.heap.size := by omega
      have b4 := b3.alloc (.cells #[.int .i64 0, .int .i64 0, .int .i64 0] 23)
      have q4 := b4.cell
      have K := hide ((K.out.alloc K.out.size (.cells #[.int .i64 0, .int .i64 0, .int .i64 0] 23)).trans (k3.mono (by have := K.out.size; simp; omega)))
      clear k3
      have hb := H.out
      simp [foOk] at hb
      go_wp2
      all_goals
        go_ret
        exact ⟨retb (by first | rfl | (have := H.out; simp [foOk] at this ⊢; omega)), K.out.alloc K.out.size _⟩
    · have H := hide h
      clear h
      have g1 := keep_cell hg k1
      go_wp2_with fail
      refine (iof_yes _ _ a0 H.out g1).mono ?_
      rintro e w2 ⟨rfl, k2⟩
      have K := hide (k1.trans (k2.mono k1.size))
      have b2 := Bk.new w2 23 #[.int .i64 (5 + m % 4), .int .i64 (foP m), .int .i64 (1 + m / 4 % 2)]
      clear k1 k2 g1 hg
      go_wp2_with fail
      refine (sfo_yes _ _ H.out).mono ?_
      rintro e w3 ⟨rfl, k3⟩
      have b3 := b2.belowAll k3
      have l3 := b3.lt
      have q3 := b3.cell
      have n3 : ¬ w2.heap.size = w3.heap.size := by omega
      have n4 : ¬ w3.heap.size = w2.heap.size := by omega
      have b4 := b3.alloc (.cells #[.int .i64 (5 + m % 4), .int .i64 (foP m), .int .i64 (1 + m / 4 % 2)] 23)
      have q4 := b4.cell
      have K := hide ((K.out.alloc K.out.size (.cells #[.int .i64 (5 + m % 4), .int .i64 (foP m), .int .i64 (1 + m / 4 % 2)] 23)).trans (k3.mono (by have := K.out.size; simp; omega)))
      clear k3
      have hb := H.out
      simp [foOk] at hb
      go_wp2
      all_goals
        go_ret
        exact ⟨retb (by first | rfl | (have := H.out; simp [foOk] at this ⊢; omega)), K.out.alloc K.out.size _⟩
set_option maxHeartbeats 2000000 in
theorem fnFormatOf_walk (a : Option Addr) (len cap : Nat) (zs : List Int) (w : World) (h : IsRow .u8 w a len cap zs) (a0 : Addr) (hg : w.cell? ⟨0, 0, none⟩ = some (.iface 64 (.pointer (some a0)))) :
    Calls Tryd.prog 5 #[.slice a len cap] w fun e w' => e = .returned (.bool true) ∧ Below w.heap.size w w' := by
  have hl := len_row h
  by_cases hbig : (1048576 : Int) < (len : Int)
  · go_enter Tryd.func5, Tryd.ntmps5
    go_wp2
    go_ret
    exact ⟨rfl, Below.refl _ _⟩
  · go_enter Tryd.func5, Tryd.ntmps5
    go_wp2_with fail
    refine (dDrawFormatOf_any a len cap zs _ h).mono ?_
    rintro e w1 ⟨m, rfl, hm0, hm1, k1⟩
    clear h
    cases h : foOk m
    · have H := hide h
      clear h
      have g1 := keep_cell hg k1
      go_wp2_with fail
      refine (iof_no _ _ a0 H.out g1).mono ?_
      rintro e w2 ⟨rfl, k2⟩
      have K := hide (k1.trans (k2.mono k1.size))
      have b2 := Bk.new w2 23 #[.int .i64 0, .int .i64 0, .int .i64 0]
      clear k1 k2 g1 hg
      go_wp2_with fail
      refine (sfo_no _ _ H.out).mono ?_
      rintro e w3 ⟨rfl, k3⟩
      have b3 := b2.belowAll k3
      have l3 := b3.lt
      have q3 := b3.cell
      have n3 : ¬ w2.heap.size = w3.heap.size := by omega
      have n4 : ¬ w3.heap.size = w2.heap.size := by omega
      have b4 := b3.alloc (.cells #[.int .i64 0, .int .i64 0, .int .i64 0] 23)
      have q4 := b4.cell
      have K := hide ((K.out.alloc K.out.size (.cells #[.int .i64 0, .int .i64 0, .int .i64 0] 23)).trans (k3.mono (by have := K.out.size; simp; omega)))
      clear k3
      go_wp2
      all_goals
        go_ret
        exact ⟨retb (by first | rfl | (have := H.out; simp [foOk] at this ⊢; omega)), K.out.alloc K.out.size _⟩
    · have H := hide h
      clear h
      have g1 := keep_cell hg k1
      go_wp2_with fail
      refine (iof_yes _ _ a0 H.out g1).mono ?_
      rintro e w2 ⟨rfl, k2⟩
      have K := hide (k1.trans (k2.mono k1.size))
      have b2 := Bk.new w2 23 #[.int .i64 (5 + m % 4), .int .i64 (foP m), .int .i64 (1 + m / 4 % 2)]
      clear k1 k2 g1 hg
      go_wp2_with fail
      refine (sfo_yes _ _ H.out).mono ?_
      rintro e w3 ⟨rfl, k3⟩
      have b3 := b2.belowAll k3
      have l3 := b3.lt
      have q3 := b3.cell
      have n3 : ¬ w2.heap.size = w3.heap.size := by omega
      have n4 : ¬ w3.heap.size = w2.heap.size := by omega
      have b4 := b3.alloc (.cells #[.int .i64 (5 + m % 4), .int .i64 (foP m), .int .i64 (1 + m / 4 % 2)] 23)
      have q4 := b4.cell
      have K := hide ((K.out.alloc K.out.size (.cells #[.int .i64 (5 + m % 4), .int .i64 (foP m), .int .i64 (1 + m / 4 % 2)] 23)).trans (k3.mono (by have := K.out.size; simp; omega)))
      clear k3
      have F := hide (fb_fo H.out)
      go_wp2_with fail
      refine (ifv_any _ _ _ _).mono ?_
      rintro e w4 ⟨rfl, k4⟩
      rw [F.out.1]
      have b5 := b4.belowAll k4
      have q5 := b5.cell
      have K := hide ((K.out.alloc K.out.size _).trans (k4.mono (by have := K.out.size; simp; omega)))
      clear q4 q3 k4
      go_wp2_with fail
      refine (ifb_any _ _ _ _).mono ?_
      rintro e w5 ⟨rfl, k5⟩
      rw [F.out.2]
      have K := K.out.trans (k5.mono K.out.size)
      go_wp2
      all_goals
        go_ret
        exact ⟨rfl, K⟩
set_option maxHeartbeats 2000000 in
theorem fnFormatByte_walk (a : Option Addr) (len cap : Nat) (zs : List Int) (w : World) (h : IsRow .u8 w a len cap zs) (a0 : Addr) (hg : w.cell? ⟨0, 0, none⟩ = some (.iface 64 (.pointer (some a0)))) :
    Calls Tryd.prog 6 #[.slice a len cap] w fun e w' => e = .returned (.bool true) ∧ Below w.heap.size w w' := by
  have hl := len_row h
  by_cases hbig : (1048576 : Int) < (len : Int)
  · go_enter Tryd.func6, Tryd.ntmps6
    go_wp2
    go_ret
    exact ⟨rfl, Below.refl _ _⟩
  · go_enter Tryd.func6, Tryd.ntmps6
    go_wp2_with fail
    refine (dDrawFormatByte_any a len cap zs _ h).mono ?_
    rintro e w1 ⟨x, y, z, rfl, hx, k1⟩
    clear h
    have b1 := Bk.new w1 23 #[.int .i64 x, .int .i64 y, .int .i64 z]
    have g1 := keep_cell hg (k1.alloc k1.size (.cells #[.int .i64 x, .int .i64 y, .int .i64 z] 23))
    have K := hide (k1.alloc k1.size (.cells #[.int .i64 x, .int .i64 y, .int .i64 z] 23))
    have l1 := b1.lt
    clear k1 hg
    obtain ⟨F, hF⟩ : ∃ F, w1.heap.size = F := ⟨_, rfl⟩
    rw [hF] at b1
    have HF := hide hF
    clear hF
    go_wp2_with fail
    rw [HF.out]
    refine (ifb_any _ _ _ _).mono ?_
    rintro e w2 ⟨rfl, k2⟩
    have b2 := b1.belowAll k2
    have g2 := keep_cell g1 k2
    have q2 := b2.cell
    have K := hide (K.out.trans (k2.mono K.out.size))
    clear k2 b1 g1 l1
    go_wp2_with fail
    refine (sfb_any _ _ _ _).mono ?_
    rintro e w3 ⟨rfl, k3⟩
    have b3 := b2.belowAll k3
    have g3 := keep_cell g2 k3
    have K := hide (K.out.trans (k3.mono K.out.size))
    clear k3 b2 g2 q2
    cases hv : fv x y z
    · rw [fb_no hv]
      clear hv
      go_wp2
      go_ret
      exact ⟨rfl, K.out⟩
    · obtain ⟨h1, h2, h3, h4, h5, h6⟩ := fo_fb hv
      have HO := hide h1
      have H2 := hide h2
      have H3 := hide h3
      have H4 := hide h4
      clear h1 h2 h3 h4 hv
      generalize fbOf x y z = m at *
      go_wp2_with fail
      refine (iof_yes _ _ a0 HO.out g3).mono ?_
      rw [H2.out, H3.out, H4.out]
      rintro e w4 ⟨rfl, k4⟩
      have b4 := b3.belowAll k4
      have K := hide (K.out.trans (k4.mono K.out.size))
      have l4 := b4.lt
      have n1 : ¬ F = w4.heap.size := by omega
      have n2 : ¬ w4.heap.size = F := by omega
      have q4 := b4.cell
      have q5 := (b4.alloc (.cells #[.int .i64 x, .int .i64 y, .int .i64 z] 23)).cell
      clear k4 b3 g3
      go_wp2
      all_goals
        go_ret
        exact ⟨rfl, K.out.alloc K.out.size _⟩
end Go.Proofs.YtkiijeobadlnnaaDoor
