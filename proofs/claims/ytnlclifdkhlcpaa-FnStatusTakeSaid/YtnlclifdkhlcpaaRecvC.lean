/-
  Receivers counted, copied and compared. Each contract says what the function returns, and that nothing that was there has turned.
-/
import Derived.Test.YtnlclifdkhlcpaaRecvB
import Derived.Laws.MakeOwn
namespace Go.Proofs.Ytnlclifdkhlcpaa
open Go.RowKit
set_option linter.unusedVariables false

theorem szGotS_any (a : Option Addr) (len cap : Nat) (left : Int) (w : World) (hl : (len : Int) ≤ 9223372036854775807) (h0 : 0 ≤ left) (h1 : left ≤ 1048576) :
    Calls Try.prog 28 #[.slice a len cap, .int .i64 left] w fun e w' => e = .returned (.int .i64 (if left < (len : Int) then -1 else left - len)) ∧ w = w' := by
  by_cases h : left < (len : Int)
  · rw [if_pos h]
    have h' : left - (len : Int) < 0 := by omega
    go_enter Try.func28, Try.ntmps28
    go_wp2
    go_ret
    exact ⟨rfl, rfl⟩
  · rw [if_neg h]
    have h' : ¬ left - (len : Int) < 0 := by omega
    go_enter Try.func28, Try.ntmps28
    go_wp2
    go_ret
    exact ⟨rfl, rfl⟩
theorem szReceiver_any (room trig : Int) (a : Option Addr) (len cap : Nat) (lost : Bool) (age x : Int) (w : World) (hl : (len : Int) ≤ 9223372036854775807) (h0 : 0 ≤ x) (h1 : x ≤ 1048576) :
    Calls Try.prog 17 #[.agg (rcvV room trig a len cap lost age), .int .i64 x] w fun e w' => e = .returned (.int .i64 (if x < (len : Int) then -1 else x - len)) ∧ Below w.heap.size w w' := by
  by_cases h : x < (len : Int)
  · rw [if_pos h]
    have e0 : (if x < (len : Int) then (-1 : Int) else x - len) = -1 := if_pos h
    go_enter Try.func17, Try.ntmps17
    go_wp2_with (go_at_call 28; refine (szGotS_any _ _ _ _ _ hl h0 h1).mono ?_; rintro e w' ⟨rfl, rfl⟩; rw [e0])
    go_ret
    exact ⟨rfl, (Below.refl _ _).alloc (Nat.le_refl _) _⟩
  · rw [if_neg h]
    have e0 : (if x < (len : Int) then (-1 : Int) else x - len) = x - len := if_neg h
    go_enter Try.func17, Try.ntmps17
    go_wp2_with (go_at_call 28; refine (szGotS_any _ _ _ _ _ hl h0 h1).mono ?_; rintro e w' ⟨rfl, rfl⟩; rw [e0])
    go_ret
    exact ⟨rfl, (Below.refl _ _).alloc (Nat.le_refl _) _⟩
theorem toGot_any (x y : Int) (w : World) :
    Calls Try.prog 34 #[.agg #[.int .i64 x, .int .i64 y]] w fun e w' => e = .returned (.agg #[.int .i64 x, .int .i64 y]) ∧ Below w.heap.size w w' := by
  have B := hide ((((Below.refl w.heap.size w).alloc (Nat.le_refl _) (.cells #[.int .i64 x, .int .i64 y] 54)).alloc (by simp) (.cells #[.int .i64 x, .int .i64 y] 39)).alloc (by simp; omega) (.cells #[.int .i64 x, .int .i64 y] 39))
  go_enter Try.func34, Try.ntmps34
  go_wp2
  refine bodyPost_ret (by simp [results, Try.results34, go_sem]) rfl ⟨rfl, ?_⟩
  exact B.out
/-- The cells of pairs. -/
def gcells (zs : List (Int × Int)) : Array Value := (zs.flatMap fun z => [Value.int .i64 z.1, Value.int .i64 z.2]).toArray
theorem gflat_get : ∀ (zs : List (Int × Int)) (i : Nat), i < zs.length → (zs.flatMap fun z => [Value.int .i64 z.1, Value.int .i64 z.2])[i * 2]? = some (.int .i64 (zs.getD i (0, 0)).1) ∧ (zs.flatMap fun z => [Value.int .i64 z.1, Value.int .i64 z.2])[i * 2 + 1]? = some (.int .i64 (zs.getD i (0, 0)).2)
  | [], i, h => absurd h (by simp)
  | z :: zs, 0, _ => by simp
  | z :: zs, i + 1, h => by
    have := gflat_get zs i (by simpa using h)
    simp only [List.flatMap_cons, List.cons_append, List.nil_append, List.getD_cons_succ]
    rw [show (i + 1) * 2 = i * 2 + 2 by omega]
    simpa using this
theorem gflat_len (zs : List (Int × Int)) : (zs.flatMap fun z => [Value.int .i64 z.1, Value.int .i64 z.2]).length = zs.length * 2 := by
  induction zs with
  | nil => rfl
  | cons z zs ih => simp [ih]; omega
theorem gcells_are {cs : Array Value} {zs : List (Int × Int)} (hs : cs.size = zs.length * 2) (h : ∀ j, j < zs.length → cs[j * 2]? = some (.int .i64 (zs.getD j (0, 0)).1) ∧ cs[j * 2 + 1]? = some (.int .i64 (zs.getD j (0, 0)).2)) : cs = gcells zs := by
  apply Array.ext_getElem?
  intro j
  by_cases hj : j < zs.length * 2
  · have hq : j / 2 < zs.length := by omega
    have := h (j / 2) hq
    have hg := gflat_get zs (j / 2) hq
    rcases Nat.mod_two_eq_zero_or_one j with hm | hm
    · have e : j = j / 2 * 2 := by omega
      rw [e, this.1]
      simp only [gcells, List.getElem?_toArray]
      exact hg.1.symm
    · have e : j = j / 2 * 2 + 1 := by omega
      rw [e, this.2]
      simp only [gcells, List.getElem?_toArray]
      exact hg.2.symm
  · rw [Array.getElem?_eq_none (by omega), Array.getElem?_eq_none (by have := gflat_len zs; simp only [gcells, List.size_toArray]; omega)]
theorem sg_new {w : World} {b len : Nat} {t : TypeId} {zs : List (Int × Int)} (h : Bk w b t (gcells zs)) (hl : zs.length = len) (hsm : len ≤ 1048576) : Sg w (some ⟨b, 0, none⟩) len len zs := by
  subst hl
  refine ⟨rfl, Nat.le_refl _, by omega, fun _ => ⟨b, 0, rfl, fun i hi => ?_⟩⟩
  have := gflat_get zs i hi
  rw [Nat.zero_add, h.cell, h.cell]
  simp only [gcells, List.getElem?_toArray]
  exact this
theorem got_info : (Try.prog.info? 39).map (fun i => (i.zero, i.size, i.bytes)) = some (some (.agg #[.int .i64 0, .int .i64 0]), 2, 16) := by kernel_rfl
theorem run_make_pairs (n : Nat) (hn : n ≤ 1048576) (w : World) :
    (Instr.makeSlice 23 (.int .i64 (n : Int)) (.int .i64 (n : Int))).run Try.prog w = .ok (.slice (some ⟨w.heap.size, 0, none⟩) n n) (w.alloc (.cells (madeCells #[.int .i64 0, .int .i64 0] (n * 2)) 39)) := by
  obtain ⟨i, hi, hz⟩ := Option.map_eq_some_iff.1 got_info
  simp only [Prod.mk.injEq] at hz
  obtain ⟨hz, hs, hb⟩ := hz
  have hr := run_make (P := Try.prog) w 23 39 i _ Try.underlying23 hi hz .i64 .i64 n n (by omega) (Int.le_refl _) (by rw [hb]; omega) (by omega)
  simp only [Int.toNat_natCast, hs] at hr
  exact hr
set_option maxHeartbeats 1000000 in
theorem toGotS_any (a : Option Addr) (len cap : Nat) (zs : List (Int × Int)) (w : World) (h : Sg w a len cap zs) (hsm : len ≤ 1048576) :
    Calls Try.prog 29 #[.slice a len cap] w fun e w' => e = .returned (.slice (some ⟨w.heap.size, 0, none⟩) len len) ∧ Bk w' w.heap.size 39 (gcells zs) ∧ Below w.heap.size w w' := by
  have hlc : (len : Int) ≤ 1048576 := by omega
  have hmk := run_make_pairs len hsm
  have HX := hide h.1
  have H := hide h
  have HS := hide hsm
  clear h hsm
  go_enter Try.func29, Try.ntmps29
  go_wp2
  go_loopw [4] (fun i wr => ∃ k : Nat, k ≤ len ∧ i = .int .i64 k ∧ ∃ cs : Array Value, Bk wr w.heap.size 39 cs ∧ cs.size = len * 2 ∧ (∀ j, j < k → cs[j * 2]? = some (.int .i64 (zs.getD j (0, 0)).1) ∧ cs[j * 2 + 1]? = some (.int .i64 (zs.getD j (0, 0)).2)) ∧ Below w.heap.size w wr) (fun i _ => len - (intOf i).toNat)
  case atStart => exact ⟨0, by omega, rfl, _, Bk.new _ _ _, size_madeCells _ _, fun j hj => absurd hj (by omega), (Below.refl _ _).alloc (Nat.le_refl _) _⟩
  case round =>
    clear hmk
    obtain ⟨k, hk, rfl, cs, hb, hcs, hall, hbel⟩ := hrel
    have HA := hide hall
    have HC := hide hcs
    clear hall hcs
    by_cases hlt : k < len
    · have hlt' : (k : Int) < (len : Int) := by omega
      obtain ⟨b, o, rfl, c1, c2⟩ := (H.out.below hbel (Nat.le_refl _)).at_ hlt
      obtain ⟨x, hx⟩ : ∃ x, (zs.getD k (0, 0)).1 = x := ⟨_, rfl⟩
      obtain ⟨y, hy⟩ : ∃ y, (zs.getD k (0, 0)).2 = y := ⟨_, rfl⟩
      have HX2 := hide hx
      have HY2 := hide hy
      rw [hx] at c1
      rw [hy] at c2
      clear hx hy
      go_wp2_with fail
      refine (toGot_any _ _ _).mono ?_
      rintro e w2 ⟨rfl, k2⟩
      have hb2 := hb.belowAll k2
      have hbel2 := hbel.trans (k2.mono hbel.size)
      clear k2 c1 c2
      have hk0 : k * 2 < cs.size := by rw [HC.out]; omega
      have hk1 : k * 2 + 1 < cs.size := by rw [HC.out]; omega
      have d0 : w2.cell? ⟨w.heap.size, k * 2, none⟩ = some cs[k * 2] := by rw [hb2.cell, Array.getElem?_eq_getElem hk0]
      have d1 : w2.cell? ⟨w.heap.size, k * 2 + 1, none⟩ = some cs[k * 2 + 1] := by rw [hb2.cell, Array.getElem?_eq_getElem hk1]
      have hf := hb2.free
      go_wp2
      go_roundw
      case rel =>
        refine ⟨k + 1, by omega, by go_num, _, (hb2.put (k * 2) (.int .i64 x)).put (k * 2 + 1) (.int .i64 y), by simp [HC.out], fun j hj => ?_, (hbel2.setCell (Nat.le_refl _) _).setCell (Nat.le_refl _) _⟩
        simp only [Array.getElem?_setIfInBounds, Array.size_setIfInBounds]
        by_cases e : j = k
        · subst e
          rw [HX2.out, HY2.out]
          constructor
          · rw [if_neg (by omega), if_pos rfl, if_pos hk0]
          · rw [if_pos rfl, if_pos hk1]
        · have := HA.out j (by omega)
          rw [if_neg (by omega), if_neg (by omega), if_neg (by omega), if_neg (by omega)]
          exact this
      case measure => simp [intOf]; omega
    · have hge : ¬ (k : Int) < (len : Int) := by omega
      go_wp2
      go_ret
      refine ⟨rfl, ?_, hbel⟩
      rw [← gcells_are (by rw [HC.out, HX.out]) fun j hj => HA.out j (by have := HX.out; omega)]
      exact hb
end Go.Proofs.Ytnlclifdkhlcpaa
