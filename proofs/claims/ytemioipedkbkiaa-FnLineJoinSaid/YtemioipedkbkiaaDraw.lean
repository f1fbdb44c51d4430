/-
  Walks of the reader that draws: it opens a code, and picks a number below a bound. Each contract says that the number is in range, and that of what was there the reader's own block alone may turn.
-/
import Derived.Test.YtemioipedkbkiaaRows
import Derived.Test.YtemioipedkbkiaaKit
import Derived.Test.YtemioipedkbkiaaOpens
namespace Go.Proofs.Ytemioipedkbkiaa
open Go.RowKit

/-- The reader lies in block g: its bytes (a slice below it), and its place p. -/
def Rdr (w : World) (g : Nat) (p : Int) : Prop :=
  0 ≤ p ∧ ∃ a len cap, Bk w g 61 #[.slice a len cap, .int .i64 p] ∧
    (len = 0 ∨ ∃ x : Addr, a = some x ∧ x.block < g ∧ ∀ i, i < len → ∃ z : Int, 0 ≤ z ∧ z ≤ 255 ∧ w.cell? (x.add i) = some (.int .u8 z))

theorem Rdr.lt {w : World} {g : Nat} {p : Int} (h : Rdr w g p) : g < w.heap.size := by
  obtain ⟨_, a, len, cap, hb, _⟩ := h
  exact hb.lt
theorem Rdr.keep {w w' : World} {g : Nat} {p : Int} (h : Rdr w g p) (hk : ∀ k, k ≤ g → w'.heap[k]? = w.heap[k]?) : Rdr w' g p := by
  obtain ⟨hp, a, len, cap, hb, hr⟩ := h
  refine ⟨hp, a, len, cap, (hk g (Nat.le_refl _)).trans hb, ?_⟩
  rcases hr with hr | ⟨x, hx, hlt, hc⟩
  · exact .inl hr
  · refine .inr ⟨x, hx, hlt, fun i hi => ?_⟩
    obtain ⟨z, h0, h1, hz⟩ := hc i hi
    refine ⟨z, h0, h1, ?_⟩
    rw [World.cell?_of_block (w := w) (by rw [add_block]; exact hk _ (by omega))]
    exact hz
theorem Rdr.alloc {w : World} {g : Nat} {p : Int} (h : Rdr w g p) (o : Obj) : Rdr (w.alloc o) g p :=
  h.keep fun k hk => Below.heap_alloc w o k (by have := h.lt; omega)
theorem Rdr.set {w : World} {g : Nat} {p : Int} (h : Rdr w g p) {q : Addr} (hq : g < q.block) (u : Value) : Rdr (w.setCell q u) g p :=
  h.keep fun k hk => Below.heap_setCell w q u k (by omega)
theorem Rdr.drewN {w : World} {g : Nat} {p : Int} (h : Rdr w g p) (n : Nat) : Rdr (w.drewN n) g p := h
theorem Rdr.below {w w' : World} {g B : Nat} {p : Int} (h : Rdr w g p) (k : Below B w w') (hB : g < B) : Rdr w' g p :=
  h.keep fun i hi => k.block i (by omega)

/-- One step of the reader. -/
def Pk (g : Nat) (p : Int) (w w' : World) : Prop := Rdr w' g (p + 1) ∧ Just g w w'

theorem pk_set {w : World} {g : Nat} {p : Int} (h : Rdr w g p) (q : Nat) : Pk g p w ((w.setCell ⟨g, 1, none⟩ (.int .i64 (p + 1))).drewN q) := by
  obtain ⟨hp, a, len, cap, hb, hr⟩ := h
  have hj : Just g w ((w.setCell ⟨g, 1, none⟩ (.int .i64 (p + 1))).drewN q) :=
    ⟨rfl, rfl, rfl, by simp [World.drewN, World.setCell], fun k hk => Below.heap_setCell w ⟨g, 1, none⟩ _ k hk⟩
  refine ⟨⟨by omega, a, len, cap, (hb.put 1 _).drewN q, ?_⟩, hj⟩
  rcases hr with hr | ⟨x, hx, hlt, hc⟩
  · exact .inl hr
  · refine .inr ⟨x, hx, hlt, fun i hi => ?_⟩
    obtain ⟨z, h0, h1, hz⟩ := hc i hi
    exact ⟨z, h0, h1, (World.cell?_of_block (w := w) (hj.block _ (by rw [add_block]; omega))).trans hz⟩

theorem xor_ok (x : Int) (h : 0 ≤ x) (h2 : x ≤ 1000000000000) : 0 ≤ bits .xor .i64 x (x / 64) := by
  obtain ⟨a, rfl⟩ := Int.eq_ofNat_of_zero_le h
  have e : ((a : Int) / 64) = ((a / 64 : Nat) : Int) := by omega
  rw [e]
  have hx : a ^^^ (a / 64) < 2 ^ 63 := Nat.xor_lt_two_pow (by omega) (by omega)
  show 0 ≤ IntKind.i64.wrap ((BitVec.ofInt 64 (a : Int) ^^^ BitVec.ofInt 64 ((a / 64 : Nat) : Int)).toNat : Int)
  rw [BitVec.toNat_xor, BitVec.ofInt_natCast, BitVec.ofInt_natCast, BitVec.toNat_ofNat, BitVec.toNat_ofNat, IntKind.wrap_i64, Nat.mod_eq_of_lt (by omega), Nat.mod_eq_of_lt (by omega)]
  omega

theorem pick_nil (g : Nat) (a : Option Addr) (cap : Nat) (p n : Int) (w : World)
    (_h0 : w.cell? ⟨g, 0, none⟩ = some (.slice a 0 cap)) (_h1 : w.cell? ⟨g, 1, none⟩ = some (.int .i64 p)) (_hf : w.frozen? ⟨g, 1, none⟩ = false) (_hp0 : 0 ≤ p) (_hp : p ≤ 1000000) (_hn : 1 ≤ n) :
    Calls Try.prog 31 #[.pointer (some ⟨g, 0, none⟩), .int .i64 n] w fun e w' => e = .returned (.int .i64 0) ∧ w' = w.setCell ⟨g, 1, none⟩ (.int .i64 (p + 1)) := by
  go_enter Try.func31, Try.ntmps31
  go_wp2
  go_ret
  exact ⟨rfl, rfl⟩

theorem pick_in (g : Nat) (x : Addr) (len cap : Nat) (p n : Int) (w : World) (z : Int)
    (_h0 : w.cell? ⟨g, 0, none⟩ = some (.slice (some x) len cap)) (_h1 : w.cell? ⟨g, 1, none⟩ = some (.int .i64 p)) (_hf : w.frozen? ⟨g, 1, none⟩ = false)
    (_hp0 : 0 ≤ p) (_hp : p ≤ 1000000) (hn : 1 ≤ n) (_hn2 : n ≤ 1000000) (hl : p < (len : Int)) (_hz : 0 ≤ z) (_hz1 : z ≤ 255)
    (_hc : (w.setCell ⟨g, 1, none⟩ (.int .i64 (p + 1))).cell? (x.add p.toNat) = some (.int .u8 z)) :
    Calls Try.prog 31 #[.pointer (some ⟨g, 0, none⟩), .int .i64 n] w fun e w' => e = .returned (.int .i64 (z % n)) ∧ w' = w.setCell ⟨g, 1, none⟩ (.int .i64 (p + 1)) := by
  have hne : ((len : Int) == 0) = false := by simp; omega
  go_enter Try.func31, Try.ntmps31
  go_wp2
  go_ret
  exact ⟨rfl, rfl⟩

theorem pick_out (g : Nat) (x : Addr) (len cap : Nat) (p n : Int) (w : World) (z1 z2 : Int)
    (_h0 : w.cell? ⟨g, 0, none⟩ = some (.slice (some x) len cap)) (_h1 : w.cell? ⟨g, 1, none⟩ = some (.int .i64 p)) (_hf : w.frozen? ⟨g, 1, none⟩ = false)
    (hp0 : 0 ≤ p) (hp : p ≤ 1000000) (hn : 1 ≤ n) (_hn2 : n ≤ 1000000) (hl : (len : Int) ≤ p) (hl0 : 0 < (len : Int)) (_hz : 0 ≤ z1) (_hz1 : z1 ≤ 255) (_hzz : 0 ≤ z2) (_hzz1 : z2 ≤ 255)
    (_hc : (w.setCell ⟨g, 1, none⟩ (.int .i64 (p + 1))).cell? (x.add (p % (len : Int)).toNat) = some (.int .u8 z1))
    (_hc2 : (w.setCell ⟨g, 1, none⟩ (.int .i64 (p + 1))).cell? (x.add ((p * 7 + 3) % (len : Int)).toNat) = some (.int .u8 z2)) :
    Calls Try.prog 31 #[.pointer (some ⟨g, 0, none⟩), .int .i64 n] w fun e w' => ∃ m : Int, e = .returned (.int .i64 m) ∧ 0 ≤ m ∧ m < n ∧ ∃ q, w' = (w.setCell ⟨g, 1, none⟩ (.int .i64 (p + 1))).drewN q := by
  have hne : ((len : Int) == 0) = false := by simp; omega
  have hm1 : 0 ≤ p % (len : Int) := Int.emod_nonneg _ (by omega)
  have hm2 : p % (len : Int) < (len : Int) := Int.emod_lt_of_pos _ (by omega)
  have hm3 : 0 ≤ (p * 7 + 3) % (len : Int) := Int.emod_nonneg _ (by omega)
  have hm4 : (p * 7 + 3) % (len : Int) < (len : Int) := Int.emod_lt_of_pos _ (by omega)
  have hm5 : 0 ≤ p / (len : Int) := Int.ediv_nonneg (by omega) (by omega)
  have hm6 : p / (len : Int) ≤ 1000000 := Int.le_trans (Int.ediv_le_self _ (by omega)) hp
  have hne2 : ¬ p < (len : Int) := by omega
  go_enter Try.func31, Try.ntmps31
  go_wp2
  go_quiet (fail)
  have hx := xor_ok (z1 * 131 + z2 * 1117 + p * 29 + p / (len : Int) * 53) (by omega) (by omega)
  have hxn := Int.emod_nonneg (bits .xor .i64 (z1 * 131 + z2 * 1117 + p * 29 + p / (len : Int) * 53) ((z1 * 131 + z2 * 1117 + p * 29 + p / (len : Int) * 53) / 64)) (show n ≠ 0 by omega)
  have hxl := Int.emod_lt_of_pos (bits .xor .i64 (z1 * 131 + z2 * 1117 + p * 29 + p / (len : Int) * 53) ((z1 * 131 + z2 * 1117 + p * 29 + p / (len : Int) * 53) / 64)) (show 0 < n by omega)
  go_wp2
  go_ret
  exact ⟨_, rfl, hxn, hxl, _, rfl⟩

/-- A pick: a number from 0 to n - 1. -/
theorem pick_any (w : World) (g : Nat) (p n : Int) (h : Rdr w g p) (hp : p ≤ 1000000) (hn : 1 ≤ n) (hn2 : n ≤ 1000000) :
    Calls Try.prog 31 #[.pointer (some ⟨g, 0, none⟩), .int .i64 n] w fun e w' => ∃ m : Int, e = .returned (.int .i64 m) ∧ 0 ≤ m ∧ m < n ∧ Pk g p w w' := by
  have hs := pk_set h
  obtain ⟨hp0, a, len, cap, hb, hr⟩ := h
  have c0 := hb.cell 0
  have c1 := hb.cell 1
  simp at c0 c1
  have f1 := hb.free 1
  rcases hr with rfl | ⟨x, rfl, hlt, hc⟩
  · refine (pick_nil g a cap p n w c0 c1 f1 hp0 hp hn).mono ?_
    rintro e w' ⟨rfl, rfl⟩
    exact ⟨0, rfl, by omega, by omega, hs 0⟩
  · have hcc : ∀ i, i < len → ∃ z : Int, 0 ≤ z ∧ z ≤ 255 ∧ (w.setCell ⟨g, 1, none⟩ (.int .i64 (p + 1))).cell? (x.add i) = some (.int .u8 z) := fun i hi => by
      obtain ⟨z, h0, h1, hz⟩ := hc i hi
      exact ⟨z, h0, h1, (World.cell?_of_block (w := w) (Below.heap_setCell w ⟨g, 1, none⟩ _ _ (by rw [add_block]; show x.block ≠ g; omega))).trans hz⟩
    by_cases hl : p < (len : Int)
    · obtain ⟨z, h0, h1, hz⟩ := hcc p.toNat (by omega)
      refine (pick_in g x len cap p n w z c0 c1 f1 hp0 hp hn hn2 hl h0 h1 hz).mono ?_
      rintro e w' ⟨rfl, rfl⟩
      exact ⟨_, rfl, Int.emod_nonneg _ (by omega), Int.emod_lt_of_pos _ (by omega), hs 0⟩
    · rcases Nat.eq_zero_or_pos len with rfl | hl0
      · refine (pick_nil g (some x) cap p n w c0 c1 f1 hp0 hp hn).mono ?_
        rintro e w' ⟨rfl, rfl⟩
        exact ⟨0, rfl, by omega, by omega, hs 0⟩
      · have hm1 : 0 ≤ p % (len : Int) := Int.emod_nonneg _ (by omega)
        have hm2 : p % (len : Int) < (len : Int) := Int.emod_lt_of_pos _ (by omega)
        have hm3 : 0 ≤ (p * 7 + 3) % (len : Int) := Int.emod_nonneg _ (by omega)
        have hm4 : (p * 7 + 3) % (len : Int) < (len : Int) := Int.emod_lt_of_pos _ (by omega)
        obtain ⟨z1, h0, h1, hz⟩ := hcc (p % (len : Int)).toNat (by omega)
        obtain ⟨z2, h02, h12, hz2⟩ := hcc ((p * 7 + 3) % (len : Int)).toNat (by omega)
        refine (pick_out g x len cap p n w z1 z2 c0 c1 f1 hp0 hp hn hn2 (by omega) (by omega) h0 h1 h02 h12 hz hz2).mono ?_
        rintro e w' ⟨m, rfl, hm0, hml, q, rfl⟩
        exact ⟨m, rfl, hm0, hml, hs q⟩

/-- A reader is opened. -/
theorem open_any (a : Option Addr) (len cap : Nat) (zs : List Int) (w : World) (h : IsRow .u8 w a len cap zs) :
    Calls Try.prog 28 #[.slice a len cap] w fun e w' => e = .returned (.pointer (some ⟨w.heap.size, 0, none⟩)) ∧ Rdr w' w.heap.size 0 ∧ w'.heap.size = w.heap.size + 1 ∧ Below w.heap.size w w' := by
  have hB : ∀ o : Obj, Below w.heap.size w (w.alloc o) := fun o => (Below.refl w.heap.size w).alloc (Nat.le_refl _) o
  rcases h with ⟨rfl, rfl, rfl, rfl⟩ | ⟨x, rfl, hlc, hm, hz, hcell, hwz⟩
  · go_enter Try.func28, Try.ntmps28
    go_wp2
    go_ret
    exact ⟨rfl, ⟨by omega, none, 0, 0, Bk.new w _ _, .inl rfl⟩, by simp, hB _⟩
  · have hlt : ∀ i, i < cap → x.block < w.heap.size := fun i hi => by
      have := block_lt_of_cell (hcell i (by omega))
      rwa [add_block] at this
    have hrow : ∀ (o : Obj) (i : Nat), i < len → ∃ z : Int, 0 ≤ z ∧ z ≤ 255 ∧ (w.alloc o).cell? (x.add i) = some (.int .u8 z) := fun o i hi => by
      have hi' : i < zs.length := by omega
      have hb := hwz (zs.getD i 0) (by rw [List.getD_eq_getElem?_getD, List.getElem?_eq_getElem hi']; exact List.getElem_mem hi')
      have hb' := bounds_u8 hb
      exact ⟨_, hb'.1, hb'.2, (World.cell?_of_block (w := w) (Below.heap_alloc w o _ (by rw [add_block]; exact hlt i (by omega)))).trans (hcell i hi')⟩
    unfold maxLen at hm
    by_cases hl : (2000 : Int) < (len : Int)
    · have hcap : (2000 : Int) ≤ (cap : Int) := by omega
      go_enter Try.func28, Try.ntmps28
      go_wp2
      go_ret
      exact ⟨rfl, ⟨by omega, _, 2000, cap, Bk.new w _ _, .inr ⟨x, rfl, hlt 0 (by omega), fun i hi => hrow _ i (by omega)⟩⟩, by simp, hB _⟩
    · have hl2 : (len : Int) ≤ 2000 := by omega
      go_enter Try.func28, Try.ntmps28
      go_wp2
      go_ret
      rcases Nat.eq_zero_or_pos len with rfl | hl0
      · exact ⟨rfl, ⟨by omega, _, 0, cap, Bk.new w _ _, .inl rfl⟩, by simp, hB _⟩
      · exact ⟨rfl, ⟨by omega, _, len, cap, Bk.new w _ _, .inr ⟨x, rfl, hlt 0 (by omega), fun i hi => hrow _ i hi⟩⟩, by simp, hB _⟩
end Go.Proofs.Ytemioipedkbkiaa
