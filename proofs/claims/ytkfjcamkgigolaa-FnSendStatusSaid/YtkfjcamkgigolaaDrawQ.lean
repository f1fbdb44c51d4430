/-
  Walks of the functions that draw a queue or a sender. Each contract says that the parts are in range, that the items read as some list, and that nothing that was there has turned but the reader's own block.
-/
import Derived.Test.YtkfjcamkgigolaaDraw
import Derived.Test.YtkfjcamkgigolaaInts
import Derived.Deep.RegionHeld3
import Derived.Deep.RegionLaw
import Derived.Deep.AppendLies
namespace Go.Proofs.Ytkfjcamkgigolaa
open Go.RowKit
set_option linter.unusedVariables false

/-- A slice of the call's own: k numbers zs at the head of block h. -/
def Own (w : World) (base h k cap : Nat) (zs : List Int) : Prop := w.ownsRow base 3 1 (.slice (some ⟨h, 0, none⟩) k cap) k (zs.map (Value.int .i64))
section
variable {w w' : World} {base h k cap : Nat} {zs : List Int}
theorem Own.len (o : Own w base h k cap zs) : zs.length = k := by have := o.1; simpa using this
theorem Own.sl (o : Own w base h k cap zs) : Sl w (some ⟨h, 0, none⟩) k cap zs := by
  have hl := o.len
  have hcap : k ≤ cap ∧ cap ≤ maxLen := by
    rcases o.2 with ⟨hv, _⟩ | ⟨g, c, cur, hv, _, _, h1, h2, _⟩
    · cases hv
    · injection hv with _ _ hc
      subst hc
      exact ⟨h1, h2⟩
  refine ⟨hl, hcap.1, by simpa [maxLen] using hcap.2, fun hk => ⟨_, rfl, fun i hi => ?_⟩⟩
  refine o.cells (g := h) rfl i _ ?_
  rw [List.getElem?_map, List.getElem?_eq_getElem (by omega)]
  simp [List.getD_eq_getElem?_getD, List.getElem?_eq_getElem (show i < zs.length by omega)]
theorem Own.lt (o : Own w base h k cap zs) : base ≤ h ∧ h < w.heap.size := World.ownsRow.lt o h rfl
theorem Own.just {g : Nat} (o : Own w base h k cap zs) (j : Just g w w') (hg : h ≠ g) : Own w' base h k cap zs :=
  World.ownsRow.kept (row := some g) o ⟨j.os, j.tape, j.output, by rw [j.size]; exact Nat.le_refl _, fun i _ hi => j.block i (fun e => hi (by rw [e]))⟩ (.inr (by simpa [Value.ownBlock] using hg))
theorem Own.alloc (o : Own w base h k cap zs) (ob : Obj) : Own (w.alloc ob) base h k cap zs := World.ownsRow.alloc o ob
theorem Own.far (o : Own w base h k cap zs) {p : Addr} (hp : h ≠ p.block) (u : Value) : Own (w.setCell p u) base h k cap zs :=
  World.ownsRow.kept (row := some p.block) o ⟨rfl, rfl, rfl, by simp [World.setCell], fun i _ hi => Below.heap_setCell w p u i (fun e => hi (by rw [e]))⟩ (.inr (by simpa [Value.ownBlock] using hp))
end
theorem Own.ne {w : World} {base h k cap g : Nat} {zs : List Int} {t : TypeId} {cs : Array Value} (o : Own w base h k cap zs) (b : Bk w g t cs) (ht : t ≠ 3) : h ≠ g := by
  rintro rfl
  rcases o.2 with ⟨hv, _⟩ | ⟨h', c, cur, hv, _, hb, _⟩
  · cases hv
  · injection hv with ha _ _
    injection ha with ha
    injection ha with ha
    subst ha
    unfold Bk at b
    rw [hb] at b
    injection b with b
    injection b with _ b
    exact ht b.symm
theorem Own.le_ {w : World} {base base' h k cap : Nat} {zs : List Int} (o : Own w base h k cap zs) (hb : base' ≤ base) : Own w base' h k cap zs :=
  ⟨o.1, o.2.elim Or.inl (fun ⟨g, c, cur, hv, hg, r⟩ => Or.inr ⟨g, c, cur, hv, Nat.le_trans hb hg, r⟩)⟩
theorem three_at {w : World} {g : Nat} {t : TypeId} {a b c x : Int} (k : Bk w g t #[.int .i64 a, .int .i64 b, .int .i64 c]) (h0 : 0 ≤ x) (h1 : x < 3) : ∃ y : Int, w.cell? ⟨g, x.toNat, none⟩ = some (.int .i64 y) := by
  obtain rfl | rfl | rfl : x = 0 ∨ x = 1 ∨ x = 2 := by omega
  · exact ⟨a, k.cell 0⟩
  · exact ⟨b, k.cell 1⟩
  · exact ⟨c, k.cell 2⟩
theorem Own.new {w : World} {base h : Nat} (hb : base ≤ h) (b : Bk w h 3 #[]) : Own w base h 0 0 [] :=
  ⟨by simp, .inr ⟨h, 0, #[], rfl, hb, b, Nat.le_refl _, by simp [maxLen], by simp, by simp⟩⟩
theorem Bk.grow {w w' : World} {g : Nat} {t : TypeId} {cs : Array Value} {row : Option Nat} (b : Bk w g t cs) (k : w.grownBy w' row) (hne : row ≠ some g) : Bk w' g t cs := (k.block g b.lt (fun e => hne e.symm)).trans b
theorem Rdr.grow {w w' : World} {g : Nat} {p : Int} {row : Option Nat} (r : Rdr w g p) (k : w.grownBy w' row) (hr : ∀ h, row = some h → g < h) : Rdr w' g p :=
  r.keep fun i hi => k.block i (by have := r.lt; omega) (fun e => by have := hr i e.symm; omega)
theorem But.grow {g : Nat} {a b c : World} {row : Option Nat} (h : But g a b) (k : b.grownBy c row) (hr : ∀ i, row = some i → a.heap.size ≤ i) : But g a c :=
  ⟨k.os.trans h.os, k.tape.trans h.tape, k.output.trans h.output, Nat.le_trans h.size k.size, fun i hi hg => (k.block i (Nat.lt_of_lt_of_le hi h.size) (fun e => by have := hr i e.symm; omega)).trans (h.block i hi hg)⟩
theorem intInfo : (Try.prog.info? 3).map (fun i => (i.zero, i.size, i.bytes)) = some (some (.int .i64 0), 1, 8) := by kernel_rfl

/-- A drawn queue. -/
def Fd (g : Nat) (w : World) (e : Ending) (w' : World) : Prop :=
  ∃ (room : Int) (h k cap : Nat) (zs : List Int), e = .returned (.agg #[.int .i64 room, .slice (some ⟨h, 0, none⟩) k cap]) ∧ 0 ≤ room ∧ room ≤ 17 ∧ Own w' w.heap.size h k cap zs ∧ But g w w'

set_option maxHeartbeats 8000000 in
theorem l91Fifo_any (w : World) (g : Nat) (p : Int) (h : Rdr w g p) (hp : p ≤ 900000) :
    Calls Try.prog 27 #[.pointer (some ⟨g, 0, none⟩)] w (Fd g w) := by
  have hg := h.lt
  obtain ⟨i0, hi0, hz0, hz1, hz2⟩ := info_parts intInfo
  go_enter Try.func27, Try.ntmps27
  go_wp2_with fail
  refine (pick_any _ g p 8 (h.alloc _) (by omega) (by omega) (by omega)).mono ?_
  rintro e w1 ⟨r, rfl, hr0, hr1, hR1, k1⟩
  have b1 := (Bk.new w 25 #[.int .i64 0, .slice none 0 0]).just k1 (by omega)
  have HZ := hide (show w1.heap.size = w.heap.size + 1 by rw [k1.size]; simp)
  have HB := hide (((But.refl g w).alloc _).just k1)
  clear k1
  go_wp2_with fail
  refine (pick_any _ g (p + 1) _ ((hR1.alloc _).alloc _) (by omega) (by omega) (by omega)).mono ?_
  rintro e w2 ⟨n, rfl, hn0, hn1, hR2, k2⟩
  have b2 := ((b1.alloc (.cells #[] 3)).alloc (.cells #[.int .i64 (1 + r), .slice (some ⟨w1.heap.size, 0, none⟩) 0 0] 25)).just k2 (by omega)
  have o2 : Own w2 (w.heap.size + 1) w1.heap.size 0 0 [] := Own.new (by have := HZ.out; omega) (((Bk.new w1 3 #[]).alloc (.cells #[.int .i64 (1 + r), .slice (some ⟨w1.heap.size, 0, none⟩) 0 0] 25)).just k2 (by have := HZ.out; omega))
  have f2 : Bk w2 (w1.heap.size + 1) 25 #[.int .i64 (1 + r), .slice (some ⟨w1.heap.size, 0, none⟩) 0 0] := by
    have := (Bk.new (w1.alloc (.cells #[] 3)) 25 #[.int .i64 (1 + r), .slice (some ⟨w1.heap.size, 0, none⟩) 0 0]).just k2 (by have := HZ.out; simp; omega)
    simpa using this
  have HB := hide (((HB.out.alloc _).alloc _).just k2)
  clear k2 b1
  obtain ⟨n, rfl⟩ := Int.eq_ofNat_of_zero_le hn0
  obtain ⟨F, hF⟩ : ∃ F, w1.heap.size + 1 = F := ⟨_, rfl⟩
  rw [hF] at f2
  have HF := hide hF
  have hFg : F ≠ g := by have := HZ.out; omega
  have HFg := hide hFg
  have HFw := hide (show w.heap.size < F by have := HZ.out; omega)
  clear hFg
  go_wp2_with fail
  clear hF
  go_loopw [5] (fun i wr => ∃ (k h cap : Nat) (zs : List Int) (q : Int), i = .int .i64 k ∧ k ≤ n ∧ Rdr wr g q ∧ q ≤ p + 2 + k ∧ Bk wr F 25 #[.int .i64 (1 + r), .slice (some ⟨h, 0, none⟩) k cap] ∧ Own wr (w.heap.size + 1) h k cap zs ∧ Bk wr w.heap.size 25 #[.int .i64 0, .slice none 0 0] ∧ But g w wr) (fun i _ => n - (intOf i).toNat)
  case atStart => exact ⟨0, _, _, _, _, rfl, by omega, hR2, by omega, f2, o2, b2, HB.out⟩
  case round =>
    obtain ⟨k, h', cap, zs, q, rfl, hkn, hR, hq, fb, ob, rb, hbut⟩ := hrel
    have hgl := hR.lt
    by_cases hlt : k < n
    · have hlt' : (k : Int) < (n : Int) := by omega
      have hRd : Rdr wr.drew g q := hR
      have obd : Own wr.drew (w.heap.size + 1) h' k cap zs := ob
      have hne : h' ≠ g := by have := ob.lt; omega
      have hkm : k + 1 ≤ maxLen := by unfold maxLen; omega
      have HKM := hide hkm
      have HNE := hide hne
      have HFH := hide (ob.ne fb (by decide))
      have hwr : w.heap.size ≤ wr.heap.size := hbut.size
      clear hkm hne
      have qF := fb.cell
      have fF := fb.free
      go_wp2
      go_region_law (first | (go_simp; go_at_call 38; refine (pick_any wr.drew g q 256 hRd (by omega) (by omega) (by omega)).mono ?_; rintro e w4 ⟨x, rfl, hx0, hx1, hR4, k4⟩; have o4 := obd.just k4 HNE.out; have s4 : w.heap.size ≤ w4.heap.size := Nat.le_trans hwr (Nat.le_of_eq k4.size.symm); have f4 := Bk.just (w := wr.drew) fb k4 HFg.out; have q4 := f4.cell; have fr4 := f4.free; have lF4 := f4.lt) | (refine step_append_lies _ (by rfl) (.tmp 22) (.tmp 25) 23 (by rfl) (w.heap.size + 1) 3 i0 _ 1 8 Try.underlying23 hi0 hz0 hz1 hz2 rfl (by omega) (.slice (some ⟨h', 0, none⟩) k cap) k (zs.map (Value.int .i64)) (by rfl) (World.ownsRow.alloc o4 _) ⟨w4.heap.size, 0, none⟩ 1 1 [.int .i64 x] (by rfl) (by rfl) (World.news_of_block (cs := #[.int .i64 x]) (t := 3) (fr := (0, 0)) (heap_alloc_new w4 _)) (by simp [Value.oneCell']) (by omega) HKM.out (by omega) (by simp; omega) (w4.heap.size + 1) (by simp) ?_; intro gg cap' w5 ho5 hgrow hat hlt5; have f5 := Bk.grow (f4.alloc (.cells #[.int .i64 x] 3)) hgrow (by simpa [Value.ownBlock] using HFH.out); have q5 := f5.cell; have fr5 := f5.free))
      all_goals
        have r5 := ((hR4.alloc (.cells #[.int .i64 x] 3)).grow hgrow (by intro h hh; have := ob.lt; simp [Value.ownBlock] at hh; omega)).set (q := ⟨F, 1, none⟩) (by have := HFw.out; simp; omega) (.slice (some ⟨gg, 0, none⟩) (k + 1) cap')
        have F5 : Bk (w5.setCell ⟨F, 1, none⟩ (.slice (some ⟨gg, 0, none⟩) (k + 1) cap')) F 25 #[.int .i64 (1 + r), .slice (some ⟨gg, 0, none⟩) (k + 1) cap'] := by simpa using f5.put 1 (.slice (some ⟨gg, 0, none⟩) (k + 1) cap')
        have O5 : Own w5 (w.heap.size + 1) gg (k + 1) cap' (zs ++ [x]) := by simpa [Own] using ho5
        have O6 := O5.far (p := ⟨F, 1, none⟩) (O5.ne f5 (by decide)) (.slice (some ⟨gg, 0, none⟩) (k + 1) cap')
        have R5 := (((Bk.just (w := wr.drew) rb k4 (by omega)).alloc (.cells #[.int .i64 x] 3)).grow hgrow (by have := ob.lt; simp [Value.ownBlock]; omega)).far (p := ⟨F, 1, none⟩) (by have := HFw.out; simp; omega) (.slice (some ⟨gg, 0, none⟩) (k + 1) cap')
        have B5 := ((((But.just (b := wr.drew) ⟨hbut.os, hbut.tape, hbut.output, hbut.size, hbut.block⟩ k4).alloc (.cells #[.int .i64 x] 3)).grow hgrow (by intro i hi; have := ob.lt; simp [Value.ownBlock] at hi; omega)).set (p := ⟨F, 1, none⟩) (.inr (by have := HFw.out; simp; omega)) (.slice (some ⟨gg, 0, none⟩) (k + 1) cap'))
        clear q5 fr5 q4 fr4 f5 f4
        go_wp2
        go_roundw
        case rel => exact ⟨k + 1, gg, cap', zs ++ [x], q + 1, by go_num, by omega, r5, by omega, F5, O6, R5, B5⟩
        case measure => simp [intOf]; omega
    · have hge : ¬ (k : Int) < (n : Int) := by omega
      go_wp2_with fail
      refine (pick_any _ g q 30 hR (by omega) (by omega) (by omega)).mono ?_
      rintro e w6 ⟨m, rfl, hm0, hm1, hR6, k6⟩
      have fb := fb.just k6 HFg.out
      have ob := ob.just k6 (by have := ob.lt; omega)
      have rb := rb.just k6 (by omega)
      have hbut := hbut.just k6
      clear k6
      have n1 : ¬ F = w.heap.size := by have := HFw.out; omega
      have n2 : ¬ w.heap.size = F := fun e => n1 e.symm
      have qF := fb.cell
      have fF := fb.free
      have qR := rb.cell
      have fR := rb.free
      have lF := fb.lt
      have lR := rb.lt
      by_cases e0 : m = 0
      · subst e0
        go_wp2_with fail
        refine (pick_any _ g (q + 1) 3 (hR6.alloc _) (by omega) (by omega) (by omega)).mono ?_
        rintro e w7 ⟨m, rfl, hm0, hm1, hR7, k7⟩
        have b7 := (Bk.new w6 3 #[.int .i64 0, .int .i64 16, .int .i64 17]).just k7 (by omega)
        have fb := (fb.alloc (.cells #[.int .i64 0, .int .i64 16, .int .i64 17] 3)).just k7 HFg.out
        have ob := (ob.alloc (.cells #[.int .i64 0, .int .i64 16, .int .i64 17] 3)).just k7 (by have := ob.lt; omega)
        have rb := (rb.alloc (.cells #[.int .i64 0, .int .i64 16, .int .i64 17] 3)).just k7 (by omega)
        have hbut := (hbut.alloc (.cells #[.int .i64 0, .int .i64 16, .int .i64 17] 3)).just k7
        clear k7 qF fF qR fR
        have q7 := b7.cell
        have qF := fb.cell
        have fF := fb.free
        have qR := rb.cell
        have fR := rb.free
        have hFh := (ob.ne fb (by decide))
        have hRh := (ob.ne rb (by decide))
        obtain rfl | rfl | rfl : m = 0 ∨ m = 1 ∨ m = 2 := by omega
        all_goals
          go_wp2
          refine bodyPost_ret (by simp [results, Try.results27, go_sem, qR]; rfl) rfl ⟨_, _, _, _, _, rfl, by omega, by omega, ((ob.le_ (base' := w.heap.size) (by omega)).far hFh _ |>.far hRh _).far hRh _, ((hbut.set (.inr (by have := HFw.out; simp; omega)) _).set (.inr (Nat.le_refl _)) _).set (.inr (Nat.le_refl _)) _⟩
      · by_cases e1 : m = 1
        · subst e1
          have obd : Own w6.drew (w.heap.size + 1) h' k cap zs := ob
          have hRd : Rdr w6.drew g (q + 1) := hR6
          have hwr : w.heap.size ≤ w6.heap.size := hbut.size
          have HNE := hide (show h' ≠ g by have := ob.lt; omega)
          have HKM := hide (show k + 1 ≤ maxLen by unfold maxLen; omega)
          have HFH := hide (ob.ne fb (by decide))
          clear e0
          go_wp2
          have obA : Own (w6.alloc (.cells #[.int .i64 (-1), .int .i64 5, .int .i64 256] 3)) (w.heap.size + 1) h' k cap zs := ob.alloc _
          have fbA := fb.alloc (.cells #[.int .i64 (-1), .int .i64 5, .int .i64 256] 3)
          have rbA := rb.alloc (.cells #[.int .i64 (-1), .int .i64 5, .int .i64 256] 3)
          have n3A := Bk.new w6 3 #[.int .i64 (-1), .int .i64 5, .int .i64 256]
          have n3g := hide (show w6.heap.size ≠ g by omega)
          have hRA : Rdr (w6.alloc (.cells #[.int .i64 (-1), .int .i64 5, .int .i64 256] 3)) g (q + 1) := hR6.alloc _
          go_region_law (first | (go_simp; go_at_call 38; refine (pick_any _ g (q + 1) 3 (show Rdr (w6.alloc (.cells #[.int .i64 (-1), .int .i64 5, .int .i64 256] 3)).drew g (q + 1) from hRA) (by omega) (by omega) (by omega)).mono ?_; rintro e w4 ⟨x, rfl, hx0, hx1, hR4, k4⟩; obtain ⟨y, hy⟩ := three_at (show Bk w4 w6.heap.size 3 #[.int .i64 (-1), .int .i64 5, .int .i64 256] from (k4.block _ n3g.out).trans n3A) hx0 hx1; have o4 : Own w4 (w.heap.size + 1) h' k cap zs := Own.just obA ⟨k4.os, k4.tape, k4.output, k4.size, k4.block⟩ HNE.out; have f4 : Bk w4 F 25 #[.int .i64 (1 + r), .slice (some ⟨h', 0, none⟩) k cap] := (k4.block _ HFg.out).trans fbA; have r4 : Bk w4 w.heap.size 25 #[.int .i64 0, .slice none 0 0] := (k4.block _ (by omega)).trans rbA; have B4 := But.just (b := w6.alloc (.cells #[.int .i64 (-1), .int .i64 5, .int .i64 256] 3)) (hbut.alloc _) ⟨k4.os, k4.tape, k4.output, k4.size, k4.block⟩; have q4 := f4.cell; have fr4 := f4.free; have lF4 := f4.lt; have s4 := B4.size; have tok1 : True := trivial) | (go_simp; go_at_call 38; refine (pick_any _ g (q + 1) 3 hRd (by omega) (by omega) (by omega)).mono ?_; rintro e w4 ⟨x, rfl, hx0, hx1, hR4, k4⟩; obtain ⟨y, hy⟩ := three_at (Bk.new w4 3 #[.int .i64 (-1), .int .i64 5, .int .i64 256]) hx0 hx1; have o4 : Own (w4.alloc (.cells #[.int .i64 (-1), .int .i64 5, .int .i64 256] 3)) (w.heap.size + 1) h' k cap zs := (Own.just obd k4 HNE.out).alloc _; have f4' : Bk w4 F 25 #[.int .i64 (1 + r), .slice (some ⟨h', 0, none⟩) k cap] := (k4.block _ HFg.out).trans fb; have f4 := f4'.alloc (.cells #[.int .i64 (-1), .int .i64 5, .int .i64 256] 3); have r4 : Bk (w4.alloc (.cells #[.int .i64 (-1), .int .i64 5, .int .i64 256] 3)) w.heap.size 25 #[.int .i64 0, .slice none 0 0] := Bk.alloc ((k4.block _ (by omega)).trans rb) _; have B4 := (But.just (b := w6) hbut ⟨k4.os, k4.tape, k4.output, k4.size, k4.block⟩).alloc (.cells #[.int .i64 (-1), .int .i64 5, .int .i64 256] 3); have q4 := f4'.cell; have fr4 := f4'.free; have lF4 := f4'.lt; have s4 : w.heap.size ≤ w4.heap.size := Nat.le_trans hwr (Nat.le_of_eq k4.size.symm); have lF5 : F < w4.heap.size + 1 := by omega) | (refine step_append_lies _ (by rfl) (.tmp 41) (.tmp 47) 23 (by rfl) (w.heap.size + 1) 3 i0 _ 1 8 Try.underlying23 hi0 hz0 hz1 hz2 rfl (by omega) (.slice (some ⟨h', 0, none⟩) k cap) k (zs.map (Value.int .i64)) (by rfl) (World.ownsRow.alloc o4 _) ⟨w4.heap.size, 0, none⟩ 1 1 [.int .i64 y] (by rfl) (by rfl) (World.news_of_block (cs := #[.int .i64 y]) (t := 3) (fr := (0, 0)) (heap_alloc_new w4 _)) (by simp [Value.oneCell']) (by omega) HKM.out (by omega) (by simp; omega) (w4.heap.size + 1) (by simp) ?_; intro gg cap' w5 ho5 hgrow hat hlt5; have f5 := Bk.grow (f4.alloc (.cells #[.int .i64 y] 3)) hgrow (by simpa [Value.ownBlock] using HFH.out); have R5 := ((r4.alloc (.cells #[.int .i64 y] 3)).grow hgrow (by have := ob.lt; simp [Value.ownBlock]; omega)).far (p := ⟨F, 1, none⟩) (by have := HFw.out; simp; omega) (.slice (some ⟨gg, 0, none⟩) (k + 1) cap'); have B5 := (((B4.alloc (.cells #[.int .i64 y] 3)).grow hgrow (by intro i hi; have := ob.lt; simp [Value.ownBlock] at hi; omega)).set (p := ⟨F, 1, none⟩) (.inr (by have := HFw.out; simp; omega)) (.slice (some ⟨gg, 0, none⟩) (k + 1) cap')); have q5 := f5.cell; have fr5 := f5.free) | (refine step_append_lies _ (by rfl) (.tmp 41) (.tmp 47) 23 (by rfl) (w.heap.size + 1) 3 i0 _ 1 8 Try.underlying23 hi0 hz0 hz1 hz2 rfl (by omega) (.slice (some ⟨h', 0, none⟩) k cap) k (zs.map (Value.int .i64)) (by rfl) (World.ownsRow.alloc o4 _) ⟨(w4.heap.size + 1), 0, none⟩ 1 1 [.int .i64 y] (by rfl) (by rfl) (World.news_of_block (cs := #[.int .i64 y]) (t := 3) (fr := (0, 0)) (heap_alloc2_new w4 _ _)) (by simp [Value.oneCell']) (by omega) HKM.out (by omega) (by simp; omega) ((w4.heap.size + 1) + 1) (by simp) ?_; intro gg cap' w5 ho5 hgrow hat hlt5; have f5 := Bk.grow (f4.alloc (.cells #[.int .i64 y] 3)) hgrow (by simpa [Value.ownBlock] using HFH.out); have R5 := ((r4.alloc (.cells #[.int .i64 y] 3)).grow hgrow (by have := ob.lt; simp [Value.ownBlock]; omega)).far (p := ⟨F, 1, none⟩) (by have := HFw.out; simp; omega) (.slice (some ⟨gg, 0, none⟩) (k + 1) cap'); have B5 := (((B4.alloc (.cells #[.int .i64 y] 3)).grow hgrow (by intro i hi; have := ob.lt; simp [Value.ownBlock] at hi; omega)).set (p := ⟨F, 1, none⟩) (.inr (by have := HFw.out; simp; omega)) (.slice (some ⟨gg, 0, none⟩) (k + 1) cap')); have q5 := f5.cell; have fr5 := f5.free))
          all_goals
            have F5 : Bk (w5.setCell ⟨F, 1, none⟩ (.slice (some ⟨gg, 0, none⟩) (k + 1) cap')) F 25 #[.int .i64 (1 + r), .slice (some ⟨gg, 0, none⟩) (k + 1) cap'] := by simpa using f5.put 1 (.slice (some ⟨gg, 0, none⟩) (k + 1) cap')
            have O5 : Own w5 (w.heap.size + 1) gg (k + 1) cap' (zs ++ [y]) := by simpa [Own] using ho5
            have O6 := O5.far (p := ⟨F, 1, none⟩) (O5.ne f5 (by decide)) (.slice (some ⟨gg, 0, none⟩) (k + 1) cap')
            have hRh := O6.ne R5 (by decide)
            clear q5 fr5 q4 fr4 f5 f4 qF fF qR fR
            have qF := F5.cell
            have qR := R5.cell
            have fR := R5.free
            go_wp2
            refine bodyPost_ret (by simp [results, Try.results27, go_sem, qR]; rfl) rfl ⟨_, _, _, _, _, rfl, by omega, by omega, (((O6.le_ (base' := w.heap.size) (by omega)).far hRh _).far hRh _), (B5.set (.inr (Nat.le_refl _)) _).set (.inr (Nat.le_refl _)) _⟩
        · have t0 : (m == 0) = false := by simpa using e0
          have t1 : (m == 1) = false := by simpa using e1
          have hRh := (ob.ne rb (by decide))
          clear e0 e1
          go_wp2
          refine bodyPost_ret (by simp [results, Try.results27, go_sem, qR]; rfl) rfl ⟨_, _, _, _, _, rfl, by omega, by omega, (((ob.le_ (base' := w.heap.size) (by omega)).far hRh _).far hRh _), (hbut.set (.inr (Nat.le_refl _)) _).set (.inr (Nat.le_refl _)) _⟩
end Go.Proofs.Ytkfjcamkgigolaa
