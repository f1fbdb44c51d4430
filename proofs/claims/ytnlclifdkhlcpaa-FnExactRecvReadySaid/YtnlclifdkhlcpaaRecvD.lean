/-
  Receivers copied and compared. Each contract says what the function returns, and that nothing that was there has turned.
-/
import Derived.Test.YtnlclifdkhlcpaaRecvC
import Derived.Deep.RegionHeld3
namespace Go.Proofs.Ytnlclifdkhlcpaa
open Go.RowKit
set_option linter.unusedVariables false

theorem keep_cell {w w' : World} {p : Addr} {v : Value} (h : w.cell? p = some v) (k : Below w.heap.size w w') : w'.cell? p = some v := (k.cell (lt_of_some (by rw [h]; rfl))).trans h
theorem eqGot_same (x y : Int) (w : World) :
    Calls Try.prog 35 #[.agg #[.int .i64 x, .int .i64 y], .agg #[.int .i64 x, .int .i64 y]] w fun e w' => e = .returned (.bool true) ∧ Below w.heap.size w w' := by
  have B := hide (((Below.refl w.heap.size w).alloc (Nat.le_refl _) (.cells #[.int .i64 x, .int .i64 y] 39)).alloc (by simp) (.cells #[.int .i64 x, .int .i64 y] 39))
  go_enter Try.func35, Try.ntmps35
  go_wp2
  go_ret
  exact ⟨rfl, B.out⟩
set_option maxHeartbeats 1000000 in
theorem toReceiver_any (room trig : Int) (a : Option Addr) (len cap : Nat) (zs : List (Int × Int)) (lost : Bool) (age : Int) (w : World) (h : Sg w a len cap zs) (hsm : len ≤ 1048576) :
    Calls Try.prog 18 #[.agg (rcvV room trig a len cap lost age)] w fun e w' => ∃ b, e = .returned (.agg (rcvV room trig (some ⟨b, 0, none⟩) len len lost age)) ∧ w.heap.size ≤ b ∧ Bk w' b 39 (gcells zs) ∧ Below w.heap.size w w' := by
  have HB := hide (((Below.refl w.heap.size w).alloc (Nat.le_refl _) (.cells (rcvV room trig a len cap lost age) 32)).alloc (by simp) (.cells #[.int .i64 0, .int .i64 0, .slice none 0 0, .bool false, .int .i64 0] 25) |>.alloc (by simp; omega) (.cells #[.int .i64 room, .int .i64 trig, .slice none 0 0, .bool false, .int .i64 0] 25))
  go_enter Try.func18, Try.ntmps18
  go_wp2_with fail
  refine (toGotS_any _ _ _ zs _ (((h.alloc _).alloc _).alloc _) hsm).mono ?_
  rintro e w1 ⟨rfl, b1, k1⟩
  have b0 : Bk w1 w.heap.size 32 (rcvV room trig a len cap lost age) := by
    have := (((Bk.new w 32 (rcvV room trig a len cap lost age)).alloc (.cells #[.int .i64 0, .int .i64 0, .slice none 0 0, .bool false, .int .i64 0] 25)).alloc (.cells #[.int .i64 room, .int .i64 trig, .slice none 0 0, .bool false, .int .i64 0] 25)).belowAll k1
    simpa using this
  have b2 : Bk w1 (w.heap.size + 1) 25 #[.int .i64 0, .int .i64 0, .slice none 0 0, .bool false, .int .i64 0] := by
    have := ((Bk.new (w.alloc (.cells (rcvV room trig a len cap lost age) 32)) 25 #[.int .i64 0, .int .i64 0, .slice none 0 0, .bool false, .int .i64 0]).alloc (.cells #[.int .i64 room, .int .i64 trig, .slice none 0 0, .bool false, .int .i64 0] 25)).belowAll k1
    simpa using this
  have b3 : Bk w1 (w.heap.size + 2) 25 #[.int .i64 room, .int .i64 trig, .slice none 0 0, .bool false, .int .i64 0] := by
    have := (Bk.new ((w.alloc (.cells (rcvV room trig a len cap lost age) 32)).alloc (.cells #[.int .i64 0, .int .i64 0, .slice none 0 0, .bool false, .int .i64 0] 25)) 25 #[.int .i64 room, .int .i64 trig, .slice none 0 0, .bool false, .int .i64 0]).belowAll k1
    simpa using this
  have HZ := hide (show w.heap.size + 3 ≤ w1.heap.size by have := k1.size; simp at this; omega)
  have k1 := HB.out.trans (k1.mono (by simp; omega))
  simp at b1
  have q0 := b0.cell
  have q2 := b2.cell
  have q3 := b3.cell
  have f2 := b2.free
  have f3 := b3.free
  have HK := hide k1
  clear k1
  go_wp2
  refine bodyPost_ret (by simp [results, Try.results18, go_sem, q2]; rfl) rfl ⟨_, rfl, by omega, ?_, ?_⟩
  · repeat refine Bk.far ?_ (by simp <;> omega) _
    exact b1
  · repeat refine Below.setCell ?_ (by simp <;> omega) _
    exact HK.out
set_option maxHeartbeats 1000000 in
theorem eqGotS_same (a b : Option Addr) (n c d : Nat) (xs : List (Int × Int)) (w : World) (h : Sg w a n c xs) (k : Sg w b n d xs) :
    Calls Try.prog 30 #[.slice a n c, .slice b n d] w fun e w' => e = .returned (.bool true) ∧ Below w.heap.size w w' := by
  have hlc : (n : Int) ≤ 9223372036854775807 := by have := h.2.1; have := h.2.2.1; omega
  have H := hide h
  have K := hide k
  clear h k
  go_enter Try.func30, Try.ntmps30
  go_wp2
  go_loopw [5] (fun i wr => ∃ k : Nat, k ≤ n ∧ i = .int .i64 k ∧ Below w.heap.size w wr) (fun i _ => n - (intOf i).toNat)
  case atStart => exact ⟨0, by omega, rfl, Below.refl _ _⟩
  case round =>
    obtain ⟨k, hk, rfl, hb⟩ := hrel
    by_cases hlt : k < n
    · have hlt' : (k : Int) < (n : Int) := by omega
      obtain ⟨p, o, rfl, c1, c2⟩ := (H.out.below hb (Nat.le_refl _)).at_ hlt
      obtain ⟨q, u, rfl, d1, d2⟩ := (K.out.below hb (Nat.le_refl _)).at_ hlt
      generalize (xs.getD k (0, 0)).1 = x at c1 d1
      generalize (xs.getD k (0, 0)).2 = y at c2 d2
      have hb0 : Below w.heap.size w wr.drew := hb.drew
      go_wp2
      go_region_held3 (fun W => W.cell? ⟨p, o + k * 2, none⟩ = some (.int .i64 x) ∧ W.cell? ⟨p, o + k * 2 + 1, none⟩ = some (.int .i64 y) ∧ W.cell? ⟨q, u + k * 2, none⟩ = some (.int .i64 x) ∧ W.cell? ⟨q, u + k * 2 + 1, none⟩ = some (.int .i64 y) ∧ Below w.heap.size w W)
        (first | exact ⟨e1, e2, e3, e4, l7⟩ | exact ⟨c1, c2, d1, d2, hb0⟩)
        (first | (go_at_call 35; go_split_ands; refine (eqGot_same _ _ _).mono ?_; rintro e w7 ⟨rfl, k7⟩; have e1 : w7.cell? ⟨p, o + k * 2, none⟩ = some (.int .i64 x) := keep_cell (by assumption) k7; have e2 : w7.cell? ⟨p, o + k * 2 + 1, none⟩ = some (.int .i64 y) := keep_cell (by assumption) k7; have e3 : w7.cell? ⟨q, u + k * 2, none⟩ = some (.int .i64 x) := keep_cell (by assumption) k7; have e4 : w7.cell? ⟨q, u + k * 2 + 1, none⟩ = some (.int .i64 y) := keep_cell (by assumption) k7; have l7 := Below.trans (a := w) (by assumption) (k7.mono (Below.size (by assumption)))))
      clear c1 c2 d1 d2
      go_wp2
      go_roundw
      case rel => exact ⟨k + 1, by omega, by go_num, l7⟩
      case measure => simp [intOf]; omega
    · have hge : ¬ (k : Int) < (n : Int) := by omega
      go_wp2
      go_ret
      exact ⟨rfl, hb⟩
theorem eqReceiver_same (room trig : Int) (a b : Option Addr) (n c d : Nat) (xs : List (Int × Int)) (lost : Bool) (age : Int) (w : World) (h : Sg w a n c xs) (k : Sg w b n d xs) :
    Calls Try.prog 19 #[.agg (rcvV room trig a n c lost age), .agg (rcvV room trig b n d lost age)] w fun e w' => e = .returned (.bool true) ∧ Below w.heap.size w w' := by
  have HB := hide (((Below.refl w.heap.size w).alloc (Nat.le_refl _) (.cells (rcvV room trig a n c lost age) 25)).alloc (by simp) (.cells (rcvV room trig b n d lost age) 25))
  have p0 := (Bk.new w 25 (rcvV room trig a n c lost age)).alloc (.cells (rcvV room trig b n d lost age) 25)
  have p1 : Bk ((w.alloc (.cells (rcvV room trig a n c lost age) 25)).alloc (.cells (rcvV room trig b n d lost age) 25)) (w.heap.size + 1) 25 (rcvV room trig b n d lost age) := by
    have := Bk.new (w.alloc (.cells (rcvV room trig a n c lost age) 25)) 25 (rcvV room trig b n d lost age)
    simpa using this
  cases lost
  all_goals
    go_enter Try.func19, Try.ntmps19
    go_wp2_with fail
    refine (eqGotS_same _ _ _ _ _ xs _ ((h.alloc _).alloc _) ((k.alloc _).alloc _)).mono ?_
    rintro e w1 ⟨rfl, k1⟩
    have q0 := (p0.belowAll k1).cell
    have q1 := (p1.belowAll k1).cell
    have HB := hide (HB.out.trans (k1.mono (by simp; omega)))
    clear k1
    go_wp2
    go_ret
    exact ⟨rfl, HB.out⟩
end Go.Proofs.Ytnlclifdkhlcpaa
