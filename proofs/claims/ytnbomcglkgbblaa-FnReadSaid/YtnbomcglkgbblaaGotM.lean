/-
  Bytes that came, compared and marked. Each contract says what the function returns and what may have turned.
-/
import Derived.Test.YtnbomcglkgbblaaOwnG
import Derived.Test.YtnbomcglkgbblaaMark
namespace Go.Proofs.Ytnbomcglkgbblaa
open Go.RowKit
set_option linter.unusedVariables false

set_option maxHeartbeats 1000000 in
theorem eqGotS_same (a b : Option Addr) (n c d : Nat) (xs : List (Int × Int)) (w : World) (h : Sg w a n c xs) (k : Sg w b n d xs) :
    Calls Try.prog 25 #[.slice a n c, .slice b n d] w fun e w' => e = .returned (.bool true) ∧ Below w.heap.size w w' := by
  have hlc : (n : Int) ≤ 9223372036854775807 := by have := h.2.1; have := h.2.2.1; omega
  have H := hide h
  have K := hide k
  clear h k
  go_enter Try.func25, Try.ntmps25
  go_wp2
  go_loopw [5] (fun i wr => ∃ k : Nat, k ≤ n ∧ i = .int .i64 k ∧ Below w.heap.size w wr) (fun i _ => n - (intOf i).toNat)
  case atStart => exact ⟨0, by omega, rfl, Below.refl _ _⟩
  case round =>
    obtain ⟨k, hk, rfl, hb⟩ := hrel
    by_cases hlt : k < n
    · have hlt' : (k : Int) < (n : Int) := by omega
      obtain ⟨p, o, rfl, c1, c2⟩ := (H.out.below hb (Nat.le_refl _)).at_ hlt
      obtain ⟨q, u, rfl, d1, d2⟩ := (K.out.below hb (Nat.le_refl _)).at_ hlt
      generalize (xs.getD k (0, 0)).1 = x at c1 d1
      generalize (xs.getD k (0, 0)).2 = y at c2 d2
      have hb0 : Below w.heap.size w wr.drew := hb.drew
      go_wp2
      go_region_held3 (fun W => W.cell? ⟨p, o + k * 2, none⟩ = some (.int .i64 x) ∧ W.cell? ⟨p, o + k * 2 + 1, none⟩ = some (.int .i64 y) ∧ W.cell? ⟨q, u + k * 2, none⟩ = some (.int .i64 x) ∧ W.cell? ⟨q, u + k * 2 + 1, none⟩ = some (.int .i64 y) ∧ Below w.heap.size w W)
        (first | exact ⟨e1, e2, e3, e4, l7⟩ | exact ⟨c1, c2, d1, d2, hb0⟩)
        (first | (go_at_call 19; go_split_ands; refine (eqGot_same _ _ _).mono ?_; rintro e w7 ⟨rfl, k7⟩; have e1 : w7.cell? ⟨p, o + k * 2, none⟩ = some (.int .i64 x) := keep_cell (by assumption) k7; have e2 : w7.cell? ⟨p, o + k * 2 + 1, none⟩ = some (.int .i64 y) := keep_cell (by assumption) k7; have e3 : w7.cell? ⟨q, u + k * 2, none⟩ = some (.int .i64 x) := keep_cell (by assumption) k7; have e4 : w7.cell? ⟨q, u + k * 2 + 1, none⟩ = some (.int .i64 y) := keep_cell (by assumption) k7; have l7 := Below.trans (a := w) (by assumption) (k7.mono (Below.size (by assumption)))))
      clear c1 c2 d1 d2
      go_wp2
      go_roundw
      case rel => exact ⟨k + 1, by omega, by go_num, l7⟩
      case measure => simp [intOf]; omega
    · have hge : ¬ (k : Int) < (n : Int) := by omega
      go_wp2
      go_ret
      exact ⟨rfl, hb⟩
theorem markI_any (base h n cap : Nat) (ys : List Int) (k : Int) (w : World) (o : Own w base h n cap ys) (h0 : 0 ≤ k) (h1 : k ≤ 1000) (hn : n ≤ 2000000) :
    Calls Try.prog 26 #[.slice (some ⟨h, 0, none⟩) n cap, .int .i64 k] w fun e w' => e = .returned (.int .i64 (k + n)) ∧ ∃ zs, Own w' base h n cap zs ∧ Mk k zs ∧ Just h w w' := by
  have HZ := hide o.len
  go_enter Try.func26, Try.ntmps26
  go_wp2
  go_loopw [1, 5] (fun q i wr => ∃ (j : Nat) (zs : List Int), q = .int .i64 (k + j) ∧ i = .int .i64 j ∧ j ≤ n ∧ Own wr base h n cap zs ∧ (∀ m, m < j → zs.getD m 0 = k + m) ∧ Just h w wr) (fun _ i _ => n - (intOf i).toNat)
  case atStart => exact ⟨0, ys, by simp, rfl, by omega, o, fun m hm => absurd hm (by omega), ⟨rfl, rfl, rfl, rfl, fun _ _ => rfl⟩⟩
  case round =>
    obtain ⟨j, zs, rfl, rfl, hj, oz, hall, jw⟩ := hrel
    have HA := hide hall
    have HW := hide jw
    clear hall jw
    by_cases hlt : j < n
    · have hlt' : (j : Int) < (n : Int) := by omega
      have hc := oz.cellAt hlt
      have hf := oz.free j
      go_wp2
      go_roundw
      case rel =>
        refine ⟨j + 1, _, by go_num, by go_num, by omega, oz.put hlt (k + j), fun m hm => ?_, ⟨HW.out.os, HW.out.tape, HW.out.output, by simpa [World.setCell] using HW.out.size, fun i hi => (Below.heap_setCell wr _ _ i hi).trans (HW.out.block i hi)⟩⟩
        have hl := oz.len
        rw [List.getD_eq_getElem?_getD, List.getElem?_set]
        by_cases e : j = m
        · subst e
          simp [hl, hlt]
        · rw [if_neg e, ← List.getD_eq_getElem?_getD]
          exact HA.out m (by omega)
      case measure => simp [intOf]; omega
    · have hge : ¬ (j : Int) < (n : Int) := by omega
      obtain rfl : j = n := by omega
      go_wp2
      go_ret
      exact ⟨rfl, zs, oz, fun m hm => HA.out m (by have := oz.len; omega), HW.out⟩
theorem Own.big {w : World} {base h n : Nat} {zs : List Int} (hb : base ≤ h) (b : Bk w h 3 (zs.map (Value.int .i64)).toArray) (hl : zs.length = n) (hm : n ≤ 2000000) : Own w base h n n zs :=
  ⟨by simp [hl], .inr ⟨h, n, (zs.map (Value.int .i64)).toArray, rfl, hb, b, Nat.le_refl _, by unfold maxLen; omega, by simp [hl], by simp [← hl, List.take_of_length_le]⟩⟩
theorem gflat_set : ∀ (zs : List (Int × Int)) (j : Nat) (u v : Int), j < zs.length → gflat (zs.set j (u, v)) = ((gflat zs).set (j * 2) (.int .i64 u)).set (j * 2 + 1) (.int .i64 v)
  | [], j, u, v, h => absurd h (by simp)
  | z :: zs, 0, u, v, _ => by simp [gflat]
  | z :: zs, j + 1, u, v, h => by
    have ih := gflat_set zs j u v (by simpa using h)
    have e : gflat (z :: zs) = .int .i64 z.1 :: .int .i64 z.2 :: gflat zs := rfl
    have e2 : gflat ((z :: zs).set (j + 1) (u, v)) = .int .i64 z.1 :: .int .i64 z.2 :: gflat (zs.set j (u, v)) := rfl
    rw [e, e2, ih, show (j + 1) * 2 = j * 2 + 1 + 1 by omega]
    rfl
/-- The pairs count on from k. -/
def MkG (k : Int) (ys : List (Int × Int)) : Prop := ∀ j, j < ys.length → ys.getD j (0, 0) = (k + 2 * j, k + 2 * j + 1)
theorem Owg.put2 {w : World} {base h n cap : Nat} {zs : List (Int × Int)} (o : Owg w base (some ⟨h, 0, none⟩) n cap zs) {j : Nat} (hj : j < n) (u v : Int) :
    Owg ((w.setCell ⟨h, j * 2, none⟩ (.int .i64 u)).setCell ⟨h, j * 2 + 1, none⟩ (.int .i64 v)) base (some ⟨h, 0, none⟩) n cap (zs.set j (u, v)) := by
  have h1 := (World.ownsRow.stored o (j * 2) (.int .i64 u)).1
  have h2 := (World.ownsRow.stored h1 (j * 2 + 1) (.int .i64 v)).1
  unfold Owg
  rw [gflat_set zs j u v (by rw [o.len]; exact hj)]
  exact h2
theorem Owg.at_ {w : World} {base n cap : Nat} {a : Option Addr} {zs : List (Int × Int)} (o : Owg w base a n cap zs) (hn : 0 < n) : ∃ h : Nat, a = some ⟨h, 0, none⟩ ∧ base ≤ h ∧ h < w.heap.size := by
  have hr := o.row
  rcases o.2 with ⟨hv, h0⟩ | ⟨g, c, cur, hv, hg, hb, _⟩
  · omega
  · injection hv with ha _ _
    subst ha
    exact ⟨g, rfl, hg, (hr g rfl).2⟩
theorem Owg.free {w : World} {base h n cap : Nat} {zs : List (Int × Int)} (o : Owg w base (some ⟨h, 0, none⟩) n cap zs) (j : Nat) : w.frozen? ⟨h, j, none⟩ = false := World.ownsRow.frozenAt o j
theorem Owg.cell {w : World} {base h n cap : Nat} {zs : List (Int × Int)} (o : Owg w base (some ⟨h, 0, none⟩) n cap zs) {j : Nat} (hj : j < n) : w.cell? ⟨h, j * 2, none⟩ = some (.int .i64 (zs.getD j (0, 0)).1) ∧ w.cell? ⟨h, j * 2 + 1, none⟩ = some (.int .i64 (zs.getD j (0, 0)).2) := by
  obtain ⟨b, o', e, c1, c2⟩ := o.sg.at_ hj
  injection e with e
  injection e with e1 e2
  subst e1 e2
  rw [Nat.zero_add] at c1 c2
  exact ⟨c1, c2⟩
theorem Owg.far {w w' : World} {base n cap S : Nat} {a : Option Addr} {zs : List (Int × Int)} {row : Option Nat} (o : Owg w base a n cap zs) (k : w.grownBy w' row) (hr : ∀ r, row = some r → S ≤ r) (ho : ∀ r, (Value.slice a n cap).ownBlock = some r → r < S) : Owg w' base a n cap zs := by
  refine World.ownsRow.kept (row := row) o k ?_
  cases hh : (Value.slice a n cap).ownBlock with
  | none => exact .inl rfl
  | some r =>
    refine .inr fun e => ?_
    have h1 := ho r hh
    have h2 := hr r e.symm
    omega
theorem grown_refl (w : World) (row : Option Nat) : w.grownBy w row := ⟨rfl, rfl, rfl, Nat.le_refl _, fun _ _ _ => rfl⟩
set_option maxHeartbeats 1000000 in
theorem markG_any (base n cap : Nat) (a : Option Addr) (ys : List (Int × Int)) (w : World) (o : Owg w base a n cap ys) (hn : n ≤ 1000) :
    Calls Try.prog 27 #[.slice a n cap, .int .i64 1] w fun e w' => e = .returned (.int .i64 (1 + 2 * n)) ∧ ∃ zs, Owg w' base a n cap zs ∧ MkG 1 zs ∧ w.grownBy w' (Value.slice a n cap).ownBlock := by
  go_enter Try.func27, Try.ntmps27
  go_wp2
  go_loopw [1, 5] (fun q i wr => ∃ (j : Nat) (zs : List (Int × Int)), q = .int .i64 (1 + 2 * j) ∧ i = .int .i64 j ∧ j ≤ n ∧ Owg wr base a n cap zs ∧ (∀ m, m < j → zs.getD m (0, 0) = (1 + 2 * (m : Int), 1 + 2 * (m : Int) + 1)) ∧ w.grownBy wr (Value.slice a n cap).ownBlock) (fun _ i _ => n - (intOf i).toNat)
  case atStart => exact ⟨0, ys, by simp, rfl, by omega, o, fun m hm => absurd hm (by omega), grown_refl _ _⟩
  case round =>
    obtain ⟨j, zs, rfl, rfl, hj, oz, hall, gw⟩ := hrel
    have HA := hide hall
    have HW := hide gw
    clear hall gw
    by_cases hlt : j < n
    · have hlt' : (j : Int) < (n : Int) := by omega
      obtain ⟨h, rfl, hh, hh2⟩ := oz.at_ (by omega)
      obtain ⟨c1, c2⟩ := oz.cell hlt
      have f1 := oz.free (j * 2)
      have f2 := oz.free (j * 2 + 1)
      have HOZ := hide oz
      obtain ⟨u1, hu1⟩ : ∃ u, (zs.getD j (0, 0)).1 = u := ⟨_, rfl⟩
      obtain ⟨u2, hu2⟩ : ∃ u, (zs.getD j (0, 0)).2 = u := ⟨_, rfl⟩
      rw [hu1] at c1
      rw [hu2] at c2
      clear hu1 hu2 oz
      go_wp2
      go_roundw
      case rel =>
        refine ⟨j + 1, _, by go_num, by go_num, by omega, HOZ.out.put2 hlt (1 + 2 * j) (1 + 2 * j + 1), fun m hm => ?_, ⟨HW.out.os, HW.out.tape, HW.out.output, by have := HW.out.size; simpa [World.setCell] using this, fun i hi hne => ?_⟩⟩
        · have hl := HOZ.out.len
          rw [List.getD_eq_getElem?_getD, List.getElem?_set]
          by_cases e : j = m
          · subst e
            simp [hl, hlt]
          · rw [if_neg e, ← List.getD_eq_getElem?_getD]
            exact HA.out m (by omega)
        · have hih : i ≠ h := by rintro rfl; exact hne rfl
          exact ((Below.heap_setCell _ ⟨h, j * 2 + 1, none⟩ _ i hih).trans (Below.heap_setCell wr ⟨h, j * 2, none⟩ _ i hih)).trans (HW.out.block i hi hne)
      case measure => simp [intOf]; omega
    · have hge : ¬ (j : Int) < (n : Int) := by omega
      obtain rfl : n = j := by omega
      go_wp2
      go_ret
      exact ⟨rfl, zs, oz, fun m hm => HA.out m (by have := oz.len; omega), HW.out⟩
theorem heldG_any (a : Option Addr) (n cap : Nat) (ys : List (Int × Int)) (w : World) (h : Sg w a n cap ys) (hm : MkG 1 ys) (hn : n ≤ 1000) :
    Calls Try.prog 28 #[.slice a n cap, .int .i64 1] w fun e w' => e = .returned (.int .i64 (1 + 2 * n)) ∧ w = w' := by
  have H := hide h
  have HM := hide hm
  clear h hm
  go_enter Try.func28, Try.ntmps28
  go_wp2
  go_loop [1, 5] (fun q i => ∃ j : Nat, q = .int .i64 (1 + 2 * j) ∧ i = .int .i64 j ∧ j ≤ n) (fun _ i => n - (intOf i).toNat)
  case atStart => exact ⟨0, by simp, rfl, by omega⟩
  case round =>
    obtain ⟨j, rfl, rfl, hj⟩ := hrel
    by_cases hlt : j < n
    · have hlt' : (j : Int) < (n : Int) := by omega
      obtain ⟨b, o, rfl, c1, c2⟩ := H.out.at_ hlt
      rw [HM.out j (by have := H.out.1; omega)] at c1 c2
      go_wp2
      go_round
      case rel => exact ⟨j + 1, by go_num, by go_num, by omega⟩
      case measure => simp [intOf]; omega
    · have hge : ¬ (j : Int) < (n : Int) := by omega
      obtain rfl : n = j := by omega
      go_wp2
      go_ret
      exact ⟨rfl, rfl⟩
set_option maxHeartbeats 1000000 in
theorem sameGot_same (a b : Option Addr) (n c d : Nat) (xs : List (Int × Int)) (w : World) (h : Sg w a n c xs) (k : Sg w b n d xs) :
    Calls Try.prog 30 #[.slice a n c, .slice b n d] w fun e w' => e = .returned (.bool true) ∧ ∃ q, w' = w.drewN q := by
  have hlc : (n : Int) ≤ 9223372036854775807 := by have := h.2.1; have := h.2.2.1; omega
  have H := hide h
  have K := hide k
  clear h k
  go_enter Try.func30, Try.ntmps30
  go_wp2
  go_loopw [5] (fun i wr => ∃ k : Nat, k ≤ n ∧ i = .int .i64 k ∧ ∃ q, wr = w.drewN q) (fun i _ => n - (intOf i).toNat)
  case atStart => exact ⟨0, by omega, rfl, 0, rfl⟩
  case round =>
    obtain ⟨k, hk, rfl, q, rfl⟩ := hrel
    by_cases hlt : k < n
    · have hlt' : (k : Int) < (n : Int) := by omega
      have h0' : (0 : Int) ≤ (k : Int) := by omega
      obtain ⟨p, o, rfl, c1, c2⟩ := H.out.at_ hlt
      obtain ⟨p2, u, rfl, d1, d2⟩ := K.out.at_ hlt
      generalize (xs.getD k (0, 0)).1 = x at c1 d1
      generalize (xs.getD k (0, 0)).2 = y at c2 d2
      go_wp2
      go_quiet (fail)
      go_wp2
      go_roundw
      case rel => exact ⟨k + 1, by omega, by go_num, _, rfl⟩
      case measure => simp [intOf]; omega
    · have hge : ¬ (k : Int) < (n : Int) := by omega
      go_wp2
      go_ret
      exact ⟨rfl, _, rfl⟩
end Go.Proofs.Ytnbomcglkgbblaa
