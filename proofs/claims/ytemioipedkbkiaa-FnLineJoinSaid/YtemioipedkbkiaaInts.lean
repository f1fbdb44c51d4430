/-
  Walks of the functions on lists of numbers: bytes tested, lists copied and compared. Each contract says what the function returns for what the slice reads as, and that nothing that was there has turned.
-/
import Derived.Test.YtemioipedkbkiaaRows
import Derived.Test.YtemioipedkbkiaaKit
import Derived.Test.YtemioipedkbkiaaOpens
import Derived.Deep.OwnRows
namespace Go.Proofs.Ytemioipedkbkiaa
open Go.RowKit
set_option linter.unusedVariables false

theorem l6In_any (n lo hi : Int) (w : World) :
    Calls Try.prog 22 #[.int .i64 n, .int .i64 lo, .int .i64 hi] w fun e w' => e = .returned (.bool (decide (lo ≤ n) && decide (n ≤ hi))) ∧ w = w' := by
  go_enter Try.func22, Try.ntmps22
  go_wp2
  all_goals
    go_ret
    exact ⟨by simp <;> omega, rfl⟩
/-- The slice reads as zs. -/
def Sl (w : World) (a : Option Addr) (len cap : Nat) (zs : List Int) : Prop :=
  zs.length = len ∧ len ≤ cap ∧ cap ≤ 9223372036854775807 ∧ (0 < len → ∃ x : Addr, a = some x ∧ ∀ i, i < len → w.cell? (x.add i) = some (.int .i64 (zs.getD i 0)))
section
variable {w w' : World} {a : Option Addr} {len cap : Nat} {zs : List Int}
theorem Sl.keep (h : Sl w a len cap zs) (hk : ∀ p : Addr, (w.cell? p).isSome = true → w'.cell? p = w.cell? p) : Sl w' a len cap zs :=
  ⟨h.1, h.2.1, h.2.2.1, fun hl => by
    obtain ⟨x, hx, hc⟩ := h.2.2.2 hl
    exact ⟨x, hx, fun i hi => (hk _ (by rw [hc i hi]; rfl)).trans (hc i hi)⟩⟩
theorem lt_of_some {w : World} {p : Addr} (h : (w.cell? p).isSome = true) : p.block < w.heap.size := by
  obtain ⟨v, hv⟩ := Option.isSome_iff_exists.1 h
  exact block_lt_of_cell hv
theorem Sl.below {B : Nat} (h : Sl w a len cap zs) (k : Below B w w') (hB : w.heap.size ≤ B) : Sl w' a len cap zs := h.keep fun p hp => k.cell (by have := lt_of_some hp; omega)
theorem Sl.alloc (h : Sl w a len cap zs) (o : Obj) : Sl (w.alloc o) a len cap zs := h.below ((Below.refl _ _).alloc (Nat.le_refl _) o) (Nat.le_refl _)
theorem Sl.drewN (h : Sl w a len cap zs) (n : Nat) : Sl (w.drewN n) a len cap zs := h
theorem Sl.nil_ (w : World) (a : Option Addr) (cap : Nat) (hc : cap ≤ 9223372036854775807) : Sl w a 0 cap [] := ⟨rfl, Nat.zero_le _, hc, fun h => absurd h (by omega)⟩
theorem Sl.at_ (h : Sl w a len cap zs) {k : Nat} (hk : k < len) : ∃ x : Addr, a = some x ∧ w.cell? (x.add k) = some (.int .i64 (zs.getD k 0)) := by
  obtain ⟨x, hx, hc⟩ := h.2.2.2 (by omega)
  exact ⟨x, hx, hc k hk⟩
theorem add_mk (b o i : Nat) : (⟨b, o, none⟩ : Addr).add i = ⟨b, o + i, none⟩ := by unfold Addr.add; split <;> simp_all
theorem Sl.of_block {b cap : Nat} {t : TypeId} {cs : Array Value} (h : Bk w b t cs) (hl : zs.length ≤ cap) (hc : cap ≤ 9223372036854775807) (hz : ∀ i, i < zs.length → cs[i]? = some (.int .i64 (zs.getD i 0))) : Sl w (some ⟨b, 0, none⟩) zs.length cap zs :=
  ⟨rfl, hl, hc, fun _ => ⟨_, rfl, fun i hi => by rw [add_mk, Nat.zero_add, h.cell]; exact hz i hi⟩⟩
end
theorem IsRow.sl {w : World} {a : Option Addr} {len cap : Nat} {zs : List Int} (h : IsRow .i64 w a len cap zs) : Sl w a len cap (zs.take len) := by
  rcases h with ⟨rfl, rfl, rfl, rfl⟩ | ⟨x, rfl, hl, hm, hz, hc, hw⟩
  · exact Sl.nil_ _ _ _ (by omega)
  · refine ⟨by rw [List.length_take]; omega, hl, by simpa [maxLen] using hm, fun _ => ⟨x, rfl, fun i hi => ?_⟩⟩
    rw [hc i (by omega)]
    congr 2
    rw [List.getD_eq_getElem?_getD, List.getD_eq_getElem?_getD, List.getElem?_take, if_pos hi]

/-! ### All numbers are bytes -/
def isB (z : Int) : Bool := decide (0 ≤ z) && decide (z ≤ 255)
def allB (zs : List Int) : Bool := zs.all isB
theorem allB_no {zs : List Int} {k : Nat} (hk : k < zs.length) (h : isB (zs.getD k 0) = false) : allB zs = false := by
  unfold allB
  rw [List.all_eq_false]
  refine ⟨zs.getD k 0, ?_, by simpa using h⟩
  rw [List.getD_eq_getElem?_getD, List.getElem?_eq_getElem hk]
  exact List.getElem_mem hk
theorem allB_yes {zs : List Int} (h : ∀ j, j < zs.length → isB (zs.getD j 0) = true) : allB zs = true := by
  unfold allB
  rw [List.all_eq_true]
  intro z hz
  obtain ⟨j, hj, rfl⟩ := List.getElem_of_mem hz
  have := h j hj
  rwa [List.getD_eq_getElem?_getD, List.getElem?_eq_getElem hj] at this

theorem isB_iff {z : Int} : isB z = true ↔ 0 ≤ z ∧ z ≤ 255 := by simp [isB]
theorem ret_bool {a b : Bool} (h : a = b) : Ending.returned (.bool a) = .returned (.bool b) := by rw [h]
theorem ret_int {k : IntKind} {a b : Int} (h : a = b) : Ending.returned (.int k a) = .returned (.int k b) := by rw [h]

/-! ### Lists compared -/
theorem getD_eq {xs ys : List Int} (hl : xs.length = ys.length) (h : ∀ j, j < xs.length → xs.getD j 0 = ys.getD j 0) : xs = ys := by
  apply List.ext_getElem hl
  intro j h1 h2
  have := h j h1
  rwa [List.getD_eq_getElem?_getD, List.getD_eq_getElem?_getD, List.getElem?_eq_getElem h1, List.getElem?_eq_getElem h2] at this
theorem eqIntS_any (a b : Option Addr) (n c m d : Nat) (xs ys : List Int) (w : World) (h : Sl w a n c xs) (k : Sl w b m d ys) :
    Calls Try.prog 12 #[.slice a n c, .slice b m d] w fun e w' => e = .returned (.bool (decide (xs = ys))) ∧ ∃ q, w' = w.drewN q := by
  have hlc : (n : Int) ≤ 9223372036854775807 := by have := h.2.1; have := h.2.2.1; omega
  have hmc : (m : Int) ≤ 9223372036854775807 := by have := k.2.1; have := k.2.2.1; omega
  have HX := hide h.1
  have HY := hide k.1
  have H := hide h
  have K := hide k
  clear h k
  by_cases hnm : n = m
  · subst hnm
    go_enter Try.func12, Try.ntmps12
    go_wp2
    go_loopw [5] (fun i wr => ∃ k : Nat, k ≤ n ∧ i = .int .i64 k ∧ (∀ j, j < k → xs.getD j 0 = ys.getD j 0) ∧ ∃ q, wr = w.drewN q) (fun i _ => n - (intOf i).toNat)
    case atStart => exact ⟨0, by omega, rfl, fun j hj => absurd hj (by omega), 0, rfl⟩
    case round =>
      obtain ⟨k, hk, rfl, hall, q, rfl⟩ := hrel
      have HA := hide hall
      clear hall
      by_cases hlt : k < n
      · obtain ⟨x, rfl, hc⟩ := H.out.at_ hlt
        obtain ⟨y, rfl, hd⟩ := K.out.at_ hlt
        have hlt' : (k : Int) < (n : Int) := by omega
        have h0' : (0 : Int) ≤ (k : Int) := by omega
        obtain ⟨z, hz⟩ : ∃ z, xs.getD k 0 = z := ⟨_, rfl⟩
        obtain ⟨u, hu⟩ : ∃ u, ys.getD k 0 = u := ⟨_, rfl⟩
        rw [hz] at hc
        rw [hu] at hd
        have HZ := hide hz
        have HU := hide hu
        clear hz hu
        by_cases hzu : z = u
        · subst hzu
          go_wp2
          go_quiet (fail)
          go_wp2
          go_roundw
          case rel => exact ⟨k + 1, by omega, by go_num, fun j hj => by
            by_cases e : j = k
            · subst e; rw [HZ.out, HU.out]
            · exact HA.out j (by omega), _, rfl⟩
          case measure => simp [intOf]; omega
        · have hne : (z == u) = false := by simpa using hzu
          have hne2 : (z != u) = true := by simpa using hzu
          clear hzu
          go_wp2
          go_quiet (fail)
          go_wp2
          go_ret
          refine ⟨ret_bool ?_, _, World.drewN_drewN _ _ _⟩
          symm
          rw [decide_eq_false_iff_not]
          rintro rfl
          rw [HZ.out] at HU
          simp [HU.out] at hne
      · have hge : ¬ (k : Int) < (n : Int) := by omega
        go_wp2
        go_ret
        refine ⟨ret_bool ?_, _, rfl⟩
        symm
        rw [decide_eq_true_iff]
        exact getD_eq (by rw [HX.out, HY.out]) fun j hj => HA.out j (by have := HX.out; omega)
  · have hne : ((n : Int) == (m : Int)) = false := by simp; omega
    have hne2 : ((n : Int) != (m : Int)) = true := by simp; omega
    have HN := hide hnm
    clear hnm
    go_enter Try.func12, Try.ntmps12
    go_wp2
    go_ret
    refine ⟨ret_bool ?_, 0, rfl⟩
    symm
    rw [decide_eq_false_iff_not]
    rintro rfl
    exact HN.out (by rw [← HX.out, ← HY.out])
theorem sameInts_any (a b : Option Addr) (n c m d : Nat) (xs ys : List Int) (w : World) (h : Sl w a n c xs) (k : Sl w b m d ys) :
    Calls Try.prog 16 #[.slice a n c, .slice b m d] w fun e w' => e = .returned (.bool (decide (xs = ys))) ∧ ∃ q, w' = w.drewN q := by
  have hlc : (n : Int) ≤ 9223372036854775807 := by have := h.2.1; have := h.2.2.1; omega
  have hmc : (m : Int) ≤ 9223372036854775807 := by have := k.2.1; have := k.2.2.1; omega
  have HX := hide h.1
  have HY := hide k.1
  have H := hide h
  have K := hide k
  clear h k
  by_cases hnm : n = m
  · subst hnm
    go_enter Try.func16, Try.ntmps16
    go_wp2
    go_loopw [5] (fun i wr => ∃ k : Nat, k ≤ n ∧ i = .int .i64 k ∧ (∀ j, j < k → xs.getD j 0 = ys.getD j 0) ∧ ∃ q, wr = w.drewN q) (fun i _ => n - (intOf i).toNat)
    case atStart => exact ⟨0, by omega, rfl, fun j hj => absurd hj (by omega), 0, rfl⟩
    case round =>
      obtain ⟨k, hk, rfl, hall, q, rfl⟩ := hrel
      have HA := hide hall
      clear hall
      by_cases hlt : k < n
      · obtain ⟨x, rfl, hc⟩ := H.out.at_ hlt
        obtain ⟨y, rfl, hd⟩ := K.out.at_ hlt
        have hlt' : (k : Int) < (n : Int) := by omega
        have h0' : (0 : Int) ≤ (k : Int) := by omega
        obtain ⟨z, hz⟩ : ∃ z, xs.getD k 0 = z := ⟨_, rfl⟩
        obtain ⟨u, hu⟩ : ∃ u, ys.getD k 0 = u := ⟨_, rfl⟩
        rw [hz] at hc
        rw [hu] at hd
        have HZ := hide hz
        have HU := hide hu
        clear hz hu
        by_cases hzu : z = u
        · subst hzu
          go_wp2
          go_quiet (fail)
          go_wp2
          go_roundw
          case rel => exact ⟨k + 1, by omega, by go_num, fun j hj => by
            by_cases e : j = k
            · subst e; rw [HZ.out, HU.out]
            · exact HA.out j (by omega), _, rfl⟩
          case measure => simp [intOf]; omega
        · have hne : (z == u) = false := by simpa using hzu
          have hne2 : (z != u) = true := by simpa using hzu
          clear hzu
          go_wp2
          go_quiet (fail)
          go_wp2
          go_ret
          refine ⟨ret_bool ?_, _, World.drewN_drewN _ _ _⟩
          symm
          rw [decide_eq_false_iff_not]
          rintro rfl
          rw [HZ.out] at HU
          simp [HU.out] at hne
      · have hge : ¬ (k : Int) < (n : Int) := by omega
        go_wp2
        go_ret
        refine ⟨ret_bool ?_, _, rfl⟩
        symm
        rw [decide_eq_true_iff]
        exact getD_eq (by rw [HX.out, HY.out]) fun j hj => HA.out j (by have := HX.out; omega)
  · have hne : ((n : Int) == (m : Int)) = false := by simp; omega
    have hne2 : ((n : Int) != (m : Int)) = true := by simp; omega
    have HN := hide hnm
    clear hnm
    go_enter Try.func16, Try.ntmps16
    go_wp2
    go_ret
    refine ⟨ret_bool ?_, 0, rfl⟩
    symm
    rw [decide_eq_false_iff_not]
    rintro rfl
    exact HN.out (by rw [← HX.out, ← HY.out])

/-! ### A list counted, and copied -/
theorem int_info : (Try.prog.info? 3).map (fun i => (i.zero, i.size, i.bytes)) = some (some (.int .i64 0), 1, 8) := by kernel_rfl
theorem cells_are {cs : Array Value} {zs : List Int} (hs : cs.size = zs.length) (h : ∀ j, j < zs.length → cs[j]? = some (.int .i64 (zs.getD j 0))) : cs = (zs.map (Value.int .i64)).toArray := by
  apply Array.ext (by simp [hs])
  intro j h1 h2
  have hj : j < zs.length := by omega
  have := h j hj
  rw [Array.getElem?_eq_getElem h1] at this
  injection this with this
  rw [this]
  simp [List.getD_eq_getElem?_getD, List.getElem?_eq_getElem hj]
theorem toIntS_any (a : Option Addr) (len cap : Nat) (zs : List Int) (w : World) (h : Sl w a len cap zs) (hsm : len ≤ 1048576) :
    Calls Try.prog 10 #[.slice a len cap] w fun e w' => e = .returned (.slice (some ⟨w.heap.size, 0, none⟩) len len) ∧ Bk w' w.heap.size 3 (zs.map (Value.int .i64)).toArray ∧ w'.heap.size = w.heap.size + 1 ∧ Below w.heap.size w w' := by
  have hlc : (len : Int) ≤ 1048576 := by omega
  have hmk := run_make_row' (P := Try.prog) 24 3 (.int .i64 0) 8 Try.underlying24 int_info rfl .i64 .i64 len (by omega) (by omega)
  have HX := hide h.1
  have H := hide h
  have HS := hide hsm
  clear h hsm
  go_enter Try.func10, Try.ntmps10
  go_wp2
  go_loopw [4] (fun i wr => ∃ k : Nat, k ≤ len ∧ i = .int .i64 k ∧ ∃ cs : Array Value, Bk wr w.heap.size 3 cs ∧ cs.size = len ∧ (∀ j, j < k → cs[j]? = some (.int .i64 (zs.getD j 0))) ∧ wr.heap.size = w.heap.size + 1 ∧ Below w.heap.size w wr) (fun i _ => len - (intOf i).toNat)
  case atStart => exact ⟨0, by omega, rfl, _, Bk.new _ _ _, size_madeCells _ _, fun j hj => absurd hj (by omega), by simp, (Below.refl _ _).alloc (Nat.le_refl _) _⟩
  case round =>
    clear hmk
    obtain ⟨k, hk, rfl, cs, hb, hcs, hall, hsz, hbel⟩ := hrel
    have HA := hide hall
    have HC := hide hcs
    have HB := hide hsz
    clear hall hcs hsz
    by_cases hlt : k < len
    · have hlt' : (k : Int) < (len : Int) := by omega
      obtain ⟨x, rfl, hc⟩ := (H.out.below hbel (Nat.le_refl _)).at_ hlt
      have hkc : k < cs.size := by rw [HC.out]; exact hlt
      have hd : wr.cell? ⟨w.heap.size, k, none⟩ = some cs[k] := by rw [hb.cell, Array.getElem?_eq_getElem hkc]
      have hf := hb.free k
      obtain ⟨z, hz⟩ : ∃ z, zs.getD k 0 = z := ⟨_, rfl⟩
      rw [hz] at hc
      have HZ := hide hz
      clear hz
      go_wp2
      go_roundw
      case rel =>
        refine ⟨k + 1, by omega, by go_num, _, hb.put k _, by simp [HC.out], fun j hj => ?_, by simpa [World.setCell] using HB.out, hbel.setCell (Nat.le_refl _) _⟩
        rw [Array.getElem?_setIfInBounds]
        by_cases e : k = j
        · subst e; rw [if_pos rfl, if_pos hkc, HZ.out]
        · rw [if_neg e]; exact HA.out j (by omega)
      case measure => simp [intOf]; omega
    · have hge : ¬ (k : Int) < (len : Int) := by omega
      go_wp2
      go_ret
      refine ⟨rfl, ?_, HB.out, hbel⟩
      rw [← cells_are (by rw [HC.out, HX.out]) fun j hj => HA.out j (by have := HX.out; omega)]
      exact hb
theorem sl_new {w : World} {b len : Nat} {zs : List Int} (h : Bk w b 3 (zs.map (Value.int .i64)).toArray) (hl : zs.length = len) (hsm : len ≤ 1048576) : Sl w (some ⟨b, 0, none⟩) len len zs := by
  subst hl
  exact Sl.of_block h (Nat.le_refl _) (by omega) fun i hi => by simp [List.getD_eq_getElem?_getD, List.getElem?_eq_getElem hi]
end Go.Proofs.Ytemioipedkbkiaa
