/-
  Walks of the functions that draw a byte that came, and a receiver. Each contract says that the parts are integers, that the items read as some list, and that of what was there the reader's own block alone may turn.
-/
import Derived.Test.YtnlclifdkhlcpaaDraw
import Derived.Test.YtnlclifdkhlcpaaRecvC
import Derived.Deep.RegionHeld3
import Derived.Deep.RegionLaw
import Derived.Deep.AppendLies
namespace Go.Proofs.Ytnlclifdkhlcpaa
open Go.RowKit
set_option linter.unusedVariables false

theorem Bk.cast {w : World} {g : Nat} {t : TypeId} {cs cs' : Array Value} (h : Bk w g t cs) (e : cs = cs') : Bk w g t cs' := e ▸ h
theorem two_at {w : World} {g : Nat} {t : TypeId} {a b x : Int} (k : Bk w g t #[.int .i64 a, .int .i64 b]) (h0 : 0 ≤ x) (h1 : x < 2) : ∃ y : Int, w.cell? ⟨g, x.toNat, none⟩ = some (.int .i64 y) := by
  obtain rfl | rfl : x = 0 ∨ x = 1 := by omega
  · exact ⟨a, k.cell 0⟩
  · exact ⟨b, k.cell 1⟩
theorem three_at {w : World} {g : Nat} {t : TypeId} {a b c x : Int} (k : Bk w g t #[.int .i64 a, .int .i64 b, .int .i64 c]) (h0 : 0 ≤ x) (h1 : x < 3) : ∃ y : Int, w.cell? ⟨g, x.toNat, none⟩ = some (.int .i64 y) := by
  obtain rfl | rfl | rfl : x = 0 ∨ x = 1 ∨ x = 2 := by omega
  · exact ⟨a, k.cell 0⟩
  · exact ⟨b, k.cell 1⟩
  · exact ⟨c, k.cell 2⟩
/-- A drawn byte that came. -/
def Gd (g : Nat) (p : Int) (w : World) (e : Ending) (w' : World) : Prop :=
  ∃ x y q : Int, e = .returned (.agg #[.int .i64 x, .int .i64 y]) ∧ p ≤ q ∧ q ≤ p + 4 ∧ Rdr w' g q ∧ But g w w'

set_option maxHeartbeats 4000000 in
theorem l91Got_any (w : World) (g : Nat) (p : Int) (h : Rdr w g p) (hp : p ≤ 900000) :
    Calls Try.prog 32 #[.pointer (some ⟨g, 0, none⟩)] w (Gd g p w) := by
  have hg := h.lt
  go_enter Try.func32, Try.ntmps32
  go_wp2_with fail
  refine (pick_any _ g p 256 (h.alloc _) (by omega) (by omega) (by omega)).mono ?_
  rintro e w1 ⟨x, rfl, hx0, hx1, hR1, k1⟩
  have rb := (Bk.new w 39 #[.int .i64 0, .int .i64 0]).just k1 (by omega)
  have HZ := hide (show w1.heap.size = w.heap.size + 1 by rw [k1.size]; simp)
  have hbut := ((But.refl g w).alloc _).just k1
  clear k1
  obtain ⟨F, hF⟩ : ∃ F, w1.heap.size = F := ⟨_, rfl⟩
  have fb := Bk.new w1 39 #[.int .i64 x, .int .i64 0]
  rw [hF] at fb
  have HF := hide hF
  have hFg : F ≠ g := by have := HZ.out; omega
  have HFg := hide hFg
  have HFw := hide (show w.heap.size < F by have := HZ.out; omega)
  have n1 : ¬ F = w.heap.size := by have := HFw.out; omega
  have n2 : ¬ w.heap.size = F := fun e => n1 e.symm
  clear hFg
  go_wp2_with fail
  clear hF
  refine (pick_any _ g _ 10 (hR1.alloc _) (by omega) (by omega) (by omega)).mono ?_
  rintro e wn ⟨m, rfl, hm0, hm1, hR, kn⟩
  have fb := fb.just kn HFg.out
  have rb := (rb.alloc (.cells #[.int .i64 x, .int .i64 0] 39)).just kn (by omega)
  have hbut := (hbut.alloc (.cells #[.int .i64 x, .int .i64 0] 39)).just kn
  clear kn
  have qF := fb.cell
  have fF := fb.free
  have qR := rb.cell
  have fR := rb.free
  have lF := fb.lt
  have lR := rb.lt
  by_cases e0 : m = 0
  · subst e0
    have hR := hR.set (q := ⟨F, 1, none⟩) (by have := HFw.out; simp; omega) (.int .i64 1)
    have fb := Bk.cast (fb.put 1 (.int .i64 1)) (cs' := #[.int .i64 x, .int .i64 1]) (by simp)
    have rb := rb.far (p := ⟨F, 1, none⟩) n2 (.int .i64 1)
    have hbut := hbut.set (p := ⟨F, 1, none⟩) (.inr (by have := HFw.out; simp; omega)) (.int .i64 1)
    go_wp2_with fail
    refine (pick_any _ g _ 40 hR (by omega) (by omega) (by omega)).mono ?_
    rintro e wn ⟨m, rfl, hm0, hm1, hR, kn⟩
    have fb := fb.just kn HFg.out
    have rb := rb.just kn (by omega)
    have hbut := hbut.just kn
    clear kn
    clear qF fF qR fR lF lR
    have qF := fb.cell
    have fF := fb.free
    have qR := rb.cell
    have fR := rb.free
    have lF := fb.lt
    have lR := rb.lt
    by_cases ee : m = 0
    · subst ee
      go_wp2_with fail
      refine (pick_any _ g _ 2 (hR.alloc _) (by omega) (by omega) (by omega)).mono ?_
      rintro e wn ⟨m, rfl, hm0, hm1, hR, kn⟩
      have b3 := (Bk.new _ 3 #[.int .i64 (-1), .int .i64 3]).just kn (by omega)
      have fb := (fb.alloc (.cells #[.int .i64 (-1), .int .i64 3] 3)).just kn HFg.out
      have rb := (rb.alloc (.cells #[.int .i64 (-1), .int .i64 3] 3)).just kn (by omega)
      have hbut := (hbut.alloc (.cells #[.int .i64 (-1), .int .i64 3] 3)).just kn
      clear kn
      clear qF fF qR fR lF lR
      have qF := fb.cell
      have fF := fb.free
      have qR := rb.cell
      have fR := rb.free
      have lF := fb.lt
      have lR := rb.lt
      obtain ⟨y, hy⟩ := two_at b3 hm0 hm1
      go_wp2
      refine bodyPost_ret (by simp [results, Try.results32, go_sem, qR]; first | rfl | (and_intros <;> rfl)) rfl ⟨_, _, p + 1 + 1 + 1 + 1, rfl, by omega, by omega, ?_, ?_⟩
      · repeat (first | refine Rdr.set ?_ (by have := HFw.out; simp; omega) _)
        exact hR
      · repeat (first | refine But.set ?_ (.inr (by have := HFw.out; simp <;> omega)) _)
        exact hbut
    · have tt : (m == 0) = false := by simpa using ee
      clear ee
      go_wp2
      refine bodyPost_ret (by simp [results, Try.results32, go_sem, qR]; first | rfl | (and_intros <;> rfl)) rfl ⟨_, _, p + 1 + 1 + 1, rfl, by omega, by omega, ?_, ?_⟩
      · repeat (first | refine Rdr.set ?_ (by have := HFw.out; simp; omega) _)
        exact hR
      · repeat (first | refine But.set ?_ (.inr (by have := HFw.out; simp <;> omega)) _)
        exact hbut
  · have t0 : (m == 0) = false := by simpa using e0
    clear e0
    by_cases e1 : m = 1
    · subst e1
      have hR := hR.set (q := ⟨F, 1, none⟩) (by have := HFw.out; simp; omega) (.int .i64 2)
      have fb := Bk.cast (fb.put 1 (.int .i64 2)) (cs' := #[.int .i64 x, .int .i64 2]) (by simp)
      have rb := rb.far (p := ⟨F, 1, none⟩) n2 (.int .i64 2)
      have hbut := hbut.set (p := ⟨F, 1, none⟩) (.inr (by have := HFw.out; simp; omega)) (.int .i64 2)
      go_wp2_with fail
      refine (pick_any _ g _ 40 hR (by omega) (by omega) (by omega)).mono ?_
      rintro e wn ⟨m, rfl, hm0, hm1, hR, kn⟩
      have fb := fb.just kn HFg.out
      have rb := rb.just kn (by omega)
      have hbut := hbut.just kn
      clear kn
      clear qF fF qR fR lF lR
      have qF := fb.cell
      have fF := fb.free
      have qR := rb.cell
      have fR := rb.free
      have lF := fb.lt
      have lR := rb.lt
      by_cases ee : m = 0
      · subst ee
        go_wp2_with fail
        refine (pick_any _ g _ 2 (hR.alloc _) (by omega) (by omega) (by omega)).mono ?_
        rintro e wn ⟨m, rfl, hm0, hm1, hR, kn⟩
        have b3 := (Bk.new _ 3 #[.int .i64 (-1), .int .i64 3]).just kn (by omega)
        have fb := (fb.alloc (.cells #[.int .i64 (-1), .int .i64 3] 3)).just kn HFg.out
        have rb := (rb.alloc (.cells #[.int .i64 (-1), .int .i64 3] 3)).just kn (by omega)
        have hbut := (hbut.alloc (.cells #[.int .i64 (-1), .int .i64 3] 3)).just kn
        clear kn
        clear qF fF qR fR lF lR
        have qF := fb.cell
        have fF := fb.free
        have qR := rb.cell
        have fR := rb.free
        have lF := fb.lt
        have lR := rb.lt
        obtain ⟨y, hy⟩ := two_at b3 hm0 hm1
        go_wp2
        refine bodyPost_ret (by simp [results, Try.results32, go_sem, qR]; first | rfl | (and_intros <;> rfl)) rfl ⟨_, _, p + 1 + 1 + 1 + 1, rfl, by omega, by omega, ?_, ?_⟩
        · repeat (first | refine Rdr.set ?_ (by have := HFw.out; simp; omega) _)
          exact hR
        · repeat (first | refine But.set ?_ (.inr (by have := HFw.out; simp <;> omega)) _)
          exact hbut
      · have tt : (m == 0) = false := by simpa using ee
        clear ee
        go_wp2
        refine bodyPost_ret (by simp [results, Try.results32, go_sem, qR]; first | rfl | (and_intros <;> rfl)) rfl ⟨_, _, p + 1 + 1 + 1, rfl, by omega, by omega, ?_, ?_⟩
        · repeat (first | refine Rdr.set ?_ (by have := HFw.out; simp; omega) _)
          exact hR
        · repeat (first | refine But.set ?_ (.inr (by have := HFw.out; simp <;> omega)) _)
          exact hbut
    · have t1 : (m == 1) = false := by simpa using e1
      clear e1
      go_wp2_with fail
      refine (pick_any _ g _ 40 hR (by omega) (by omega) (by omega)).mono ?_
      rintro e wn ⟨m, rfl, hm0, hm1, hR, kn⟩
      have fb := fb.just kn HFg.out
      have rb := rb.just kn (by omega)
      have hbut := hbut.just kn
      clear kn
      clear qF fF qR fR lF lR
      have qF := fb.cell
      have fF := fb.free
      have qR := rb.cell
      have fR := rb.free
      have lF := fb.lt
      have lR := rb.lt
      by_cases ee : m = 0
      · subst ee
        go_wp2_with fail
        refine (pick_any _ g _ 2 (hR.alloc _) (by omega) (by omega) (by omega)).mono ?_
        rintro e wn ⟨m, rfl, hm0, hm1, hR, kn⟩
        have b3 := (Bk.new _ 3 #[.int .i64 (-1), .int .i64 3]).just kn (by omega)
        have fb := (fb.alloc (.cells #[.int .i64 (-1), .int .i64 3] 3)).just kn HFg.out
        have rb := (rb.alloc (.cells #[.int .i64 (-1), .int .i64 3] 3)).just kn (by omega)
        have hbut := (hbut.alloc (.cells #[.int .i64 (-1), .int .i64 3] 3)).just kn
        clear kn
        clear qF fF qR fR lF lR
        have qF := fb.cell
        have fF := fb.free
        have qR := rb.cell
        have fR := rb.free
        have lF := fb.lt
        have lR := rb.lt
        obtain ⟨y, hy⟩ := two_at b3 hm0 hm1
        go_wp2
        refine bodyPost_ret (by simp [results, Try.results32, go_sem, qR]; first | rfl | (and_intros <;> rfl)) rfl ⟨_, _, p + 1 + 1 + 1 + 1, rfl, by omega, by omega, ?_, ?_⟩
        · repeat (first | refine Rdr.set ?_ (by have := HFw.out; simp; omega) _)
          exact hR
        · repeat (first | refine But.set ?_ (.inr (by have := HFw.out; simp <;> omega)) _)
          exact hbut
      · have tt : (m == 0) = false := by simpa using ee
        clear ee
        go_wp2
        refine bodyPost_ret (by simp [results, Try.results32, go_sem, qR]; first | rfl | (and_intros <;> rfl)) rfl ⟨_, _, p + 1 + 1 + 1, rfl, by omega, by omega, ?_, ?_⟩
        · repeat (first | refine Rdr.set ?_ (by have := HFw.out; simp; omega) _)
          exact hR
        · repeat (first | refine But.set ?_ (.inr (by have := HFw.out; simp <;> omega)) _)
          exact hbut

/-- A slice of the call's own: k pairs zs at the head of block h. -/
def OwnG (w : World) (base h k cap : Nat) (zs : List (Int × Int)) : Prop := w.ownsRow base 39 2 (.slice (some ⟨h, 0, none⟩) k cap) k (zs.flatMap fun z => [Value.int .i64 z.1, Value.int .i64 z.2])
section
variable {w w' : World} {base h k cap : Nat} {zs : List (Int × Int)}
theorem OwnG.len (o : OwnG w base h k cap zs) : zs.length = k := by have := o.1; rw [gflat_len] at this; omega
theorem OwnG.sg (o : OwnG w base h k cap zs) : Sg w (some ⟨h, 0, none⟩) k cap zs := by
  have hl := o.len
  have hcap : k ≤ cap ∧ cap ≤ maxLen := by
    rcases o.2 with ⟨hv, _⟩ | ⟨g, c, cur, hv, _, _, h1, h2, _⟩
    · cases hv
    · injection hv with _ _ hc
      subst hc
      exact ⟨h1, h2⟩
  refine ⟨hl, hcap.1, by simpa [maxLen] using hcap.2, fun hk => ⟨h, 0, rfl, fun i hi => ?_⟩⟩
  have hg := gflat_get zs i (by omega)
  have e0 := o.cells (g := h) rfl _ _ hg.1
  have e1 := o.cells (g := h) rfl _ _ hg.2
  rw [add_mk] at e0 e1
  rw [Nat.zero_add] at e0 e1 ⊢
  exact ⟨e0, e1⟩
theorem OwnG.lt (o : OwnG w base h k cap zs) : base ≤ h ∧ h < w.heap.size := World.ownsRow.lt o h rfl
theorem OwnG.but {g : Nat} (o : OwnG w base h k cap zs) (j : But g w w') (hg : h ≠ g) : OwnG w' base h k cap zs :=
  World.ownsRow.kept (row := some g) o ⟨j.os, j.tape, j.output, j.size, fun i h2 hi => j.block i h2 (fun e => hi (by rw [e]))⟩ (.inr (by simpa [Value.ownBlock] using hg))
theorem OwnG.just {g : Nat} (o : OwnG w base h k cap zs) (j : Just g w w') (hg : h ≠ g) : OwnG w' base h k cap zs :=
  World.ownsRow.kept (row := some g) o ⟨j.os, j.tape, j.output, by rw [j.size]; exact Nat.le_refl _, fun i _ hi => j.block i (fun e => hi (by rw [e]))⟩ (.inr (by simpa [Value.ownBlock] using hg))
theorem OwnG.alloc (o : OwnG w base h k cap zs) (ob : Obj) : OwnG (w.alloc ob) base h k cap zs := World.ownsRow.alloc o ob
theorem OwnG.far (o : OwnG w base h k cap zs) {p : Addr} (hp : h ≠ p.block) (u : Value) : OwnG (w.setCell p u) base h k cap zs :=
  World.ownsRow.kept (row := some p.block) o ⟨rfl, rfl, rfl, by simp [World.setCell], fun i _ hi => Below.heap_setCell w p u i (fun e => hi (by rw [e]))⟩ (.inr (by simpa [Value.ownBlock] using hp))
end
theorem OwnG.ne {w : World} {base h k cap g : Nat} {zs : List (Int × Int)} {t : TypeId} {cs : Array Value} (o : OwnG w base h k cap zs) (b : Bk w g t cs) (ht : t ≠ 39) : h ≠ g := by
  rintro rfl
  rcases o.2 with ⟨hv, _⟩ | ⟨h', c, cur, hv, _, hb, _⟩
  · cases hv
  · injection hv with ha _ _
    injection ha with ha
    injection ha with ha
    subst ha
    unfold Bk at b
    rw [hb] at b
    injection b with b
    injection b with _ b
    exact ht b.symm
theorem OwnG.le_ {w : World} {base base' h k cap : Nat} {zs : List (Int × Int)} (o : OwnG w base h k cap zs) (hb : base' ≤ base) : OwnG w base' h k cap zs :=
  ⟨o.1, o.2.elim Or.inl (fun ⟨g, c, cur, hv, hg, r⟩ => Or.inr ⟨g, c, cur, hv, Nat.le_trans hb hg, r⟩)⟩
theorem OwnG.new {w : World} {base h : Nat} (hb : base ≤ h) (b : Bk w h 39 #[]) : OwnG w base h 0 0 [] :=
  ⟨by simp, .inr ⟨h, 0, #[], rfl, hb, b, Nat.le_refl _, by simp [maxLen], by simp, by simp⟩⟩
theorem Bk.grow {w w' : World} {g : Nat} {t : TypeId} {cs : Array Value} {row : Option Nat} (b : Bk w g t cs) (k : w.grownBy w' row) (hne : row ≠ some g) : Bk w' g t cs := (k.block g b.lt (fun e => hne e.symm)).trans b
theorem Rdr.grow {w w' : World} {g : Nat} {p : Int} {row : Option Nat} (r : Rdr w g p) (k : w.grownBy w' row) (hr : ∀ h, row = some h → g < h) : Rdr w' g p :=
  r.keep fun i hi => k.block i (by have := r.lt; omega) (fun e => by have := hr i e.symm; omega)
theorem But.grow {g : Nat} {a b c : World} {row : Option Nat} (h : But g a b) (k : b.grownBy c row) (hr : ∀ i, row = some i → a.heap.size ≤ i) : But g a c :=
  ⟨k.os.trans h.os, k.tape.trans h.tape, k.output.trans h.output, Nat.le_trans h.size k.size, fun i hi hg => (k.block i (Nat.lt_of_lt_of_le hi h.size) (fun e => by have := hr i e.symm; omega)).trans (h.block i hi hg)⟩

/-- A drawn receiver. -/
def Rd (g : Nat) (w : World) (e : Ending) (w' : World) : Prop :=
  ∃ (room trig : Int) (h k cap : Nat) (zs : List (Int × Int)) (lost : Bool) (age : Int), e = .returned (.agg (rcvV room trig (some ⟨h, 0, none⟩) k cap lost age)) ∧ OwnG w' w.heap.size h k cap zs ∧ But g w w'

set_option maxHeartbeats 4000000 in
theorem l91Recv_any (w : World) (g : Nat) (p : Int) (h : Rdr w g p) (hp : p ≤ 800000) :
    Calls Try.prog 23 #[.pointer (some ⟨g, 0, none⟩)] w (Rd g w) := by
  have hg := h.lt
  obtain ⟨i0, hi0, hz0, hz1, hz2⟩ := info_parts got_info
  go_enter Try.func23, Try.ntmps23
  go_wp2_with fail
  refine (pick_any _ g p 6 (h.alloc _) (by omega) (by omega) (by omega)).mono ?_
  rintro e w1 ⟨r, rfl, hr0, hr1, hR, k1⟩
  have rb := (Bk.new w 25 #[.int .i64 0, .int .i64 0, .slice none 0 0, .bool false, .int .i64 0]).just k1 (by omega)
  have HZ1 := hide (show w1.heap.size = w.heap.size + 1 by rw [k1.size]; simp)
  have hbut := ((But.refl g w).alloc _).just k1
  clear k1
  go_wp2_with fail
  refine (pick_any _ g _ 4 (hR.alloc _) (by omega) (by omega) (by omega)).mono ?_
  rintro e w2 ⟨m4, rfl, hr4, hr5, hR, k2⟩
  have ob : OwnG w2 (w.heap.size + 1) w1.heap.size 0 0 [] := OwnG.new (by have := HZ1.out; omega) ((Bk.new w1 39 #[]).just k2 (by have := HZ1.out; omega))
  have rb := (rb.alloc (.cells #[] 39)).just k2 (by omega)
  have HZ := hide (show w2.heap.size = w.heap.size + 2 by rw [k2.size]; have := HZ1.out; simp; omega)
  have hbut := (hbut.alloc _).just k2
  clear k2
  go_wp2_with fail
  refine (pick_any _ g _ 8 hR (by omega) (by omega) (by omega)).mono ?_
  rintro e w3 ⟨age, rfl, hr6, hr7, hR, k3⟩
  have ob := ob.just k3 (by have := ob.lt; omega)
  have rb := rb.just k3 (by omega)
  have HZ := hide (show w3.heap.size = w.heap.size + 2 by rw [k3.size]; exact HZ.out)
  have hbut := hbut.just k3
  clear k3
  generalize (m4 == 0) = lost
  obtain ⟨F, hF⟩ : ∃ F, w3.heap.size = F := ⟨_, rfl⟩
  have fb := Bk.new w3 25 #[.int .i64 (1 + r), .int .i64 0, .slice (some ⟨w1.heap.size, 0, none⟩) 0 0, .bool lost, .int .i64 age]
  rw [hF] at fb
  have HF := hide hF
  have hFg : F ≠ g := by have := HZ.out; omega
  have HFg := hide hFg
  have HFw := hide (show w.heap.size < F by have := HZ.out; omega)
  have n1 : ¬ F = w.heap.size := by have := HFw.out; omega
  have n2 : ¬ w.heap.size = F := fun e => n1 e.symm
  have rb := rb.alloc (.cells #[.int .i64 (1 + r), .int .i64 0, .slice (some ⟨w1.heap.size, 0, none⟩) 0 0, .bool lost, .int .i64 age] 25)
  have ob := ob.alloc (.cells #[.int .i64 (1 + r), .int .i64 0, .slice (some ⟨w1.heap.size, 0, none⟩) 0 0, .bool lost, .int .i64 age] 25)
  have hbut := hbut.alloc (.cells #[.int .i64 (1 + r), .int .i64 0, .slice (some ⟨w1.heap.size, 0, none⟩) 0 0, .bool lost, .int .i64 age] 25)
  have hR := hR.alloc (.cells #[.int .i64 (1 + r), .int .i64 0, .slice (some ⟨w1.heap.size, 0, none⟩) 0 0, .bool lost, .int .i64 age] 25)
  clear hFg
  go_wp2_with fail
  clear hF
  refine (pick_any _ g _ (1 + r) hR (by omega) (by omega) (by omega)).mono ?_
  rintro e w4 ⟨t, rfl, ht0, ht1, hR, k4⟩
  have fb := fb.just k4 HFg.out
  have ob := ob.just k4 (by have := ob.lt; omega)
  have rb := rb.just k4 (by omega)
  have hbut := hbut.just k4
  clear k4
  have qF := fb.cell
  have fF := fb.free
  have hR := hR.set (q := ⟨F, 1, none⟩) (by have := HFw.out; simp; omega) (.int .i64 (1 + t))
  have fb := Bk.cast (fb.put 1 (.int .i64 (1 + t))) (cs' := #[.int .i64 (1 + r), .int .i64 (1 + t), .slice (some ⟨w1.heap.size, 0, none⟩) 0 0, .bool lost, .int .i64 age]) (by simp)
  have ob := ob.far (p := ⟨F, 1, none⟩) (by have := HZ.out; have := HZ1.out; have := HF.out; simp; omega) (.int .i64 (1 + t))
  have rb := rb.far (p := ⟨F, 1, none⟩) n2 (.int .i64 (1 + t))
  have hbut := hbut.set (p := ⟨F, 1, none⟩) (.inr (by have := HFw.out; simp; omega)) (.int .i64 (1 + t))
  go_wp2_with fail
  refine (pick_any _ g _ _ hR (by omega) (by omega) (by omega)).mono ?_
  rintro e w5 ⟨n, rfl, hn0, hn1, hR, k5⟩
  clear qF fF
  have fb := fb.just k5 HFg.out
  have ob := ob.just k5 (by have := ob.lt; omega)
  have rb := rb.just k5 (by omega)
  have hbut := hbut.just k5
  clear k5
  obtain ⟨n, rfl⟩ := Int.eq_ofNat_of_zero_le hn0
  generalize 1 + t = trig at fb
  obtain ⟨h0, hh0⟩ : ∃ h0, w1.heap.size = h0 := ⟨_, rfl⟩
  rw [hh0] at fb ob
  clear hh0
  go_wp2_with fail
  go_loopw [5] (fun i wr => ∃ (k h cap : Nat) (zs : List (Int × Int)) (q : Int), i = .int .i64 k ∧ k ≤ n ∧ Rdr wr g q ∧ q ≤ p + 6 + 4 * k ∧ Bk wr F 25 #[.int .i64 (1 + r), .int .i64 trig, .slice (some ⟨h, 0, none⟩) k cap, .bool lost, .int .i64 age] ∧ OwnG wr (w.heap.size + 1) h k cap zs ∧ Bk wr w.heap.size 25 #[.int .i64 0, .int .i64 0, .slice none 0 0, .bool false, .int .i64 0] ∧ But g w wr) (fun i _ => n - (intOf i).toNat)
  case atStart => exact ⟨0, _, _, _, _, rfl, by omega, hR, by omega, fb, ob, rb, hbut⟩
  case round =>
    clear fb ob rb hbut hR
    obtain ⟨k, h', cap, zs, q, rfl, hkn, hR, hq, fb, ob, rb, hbut⟩ := hrel
    have hgl := hR.lt
    by_cases hlt : k < n
    · have hlt' : (k : Int) < (n : Int) := by omega
      have hRd : Rdr wr.drew g q := hR
      have obd : OwnG wr.drew (w.heap.size + 1) h' k cap zs := ob
      have hne : h' ≠ g := by have := ob.lt; omega
      have hkm : k + 1 ≤ maxLen := by unfold maxLen; omega
      have HKM := hide hkm
      have HNE := hide hne
      have HFH := hide (ob.ne fb (by decide))
      have hwr : w.heap.size ≤ wr.heap.size := hbut.size
      clear hkm hne
      have qF := fb.cell
      have fF := fb.free
      go_wp2
      go_region_law (first | (go_simp; go_at_call 32; refine (l91Got_any wr.drew g q hRd (by omega)).mono ?_; rintro e w4 ⟨x, y, q4, rfl, hq0, hq1, hR4, k4⟩; have o4 := obd.but k4 HNE.out; have s4 : w.heap.size ≤ w4.heap.size := Nat.le_trans hwr k4.size; have f4 := Bk.but (w := wr.drew) fb k4 HFg.out; have q4' := f4.cell; have fr4 := f4.free; have lF4 := f4.lt) | (refine step_append_lies _ (by rfl) (.tmp 33) (.tmp 36) 23 (by rfl) (w.heap.size + 1) 39 i0 _ 2 16 Try.underlying23 hi0 hz0 hz1 hz2 rfl (by omega) (.slice (some ⟨h', 0, none⟩) k cap) k (zs.flatMap fun z => [Value.int .i64 z.1, Value.int .i64 z.2]) (by rfl) (World.ownsRow.alloc o4 _) ⟨w4.heap.size, 0, none⟩ 1 1 [.int .i64 x, .int .i64 y] (by rfl) (by rfl) (World.news_of_block (cs := #[.int .i64 x, .int .i64 y]) (t := 39) (fr := (0, 0)) (heap_alloc_new w4 _)) (by simp [Value.oneCell']) (by omega) HKM.out (by omega) (by simp; omega) (w4.heap.size + 1) (by simp) ?_; intro gg cap' w5 ho5 hgrow hat hlt5; have f5 := Bk.grow (f4.alloc (.cells #[.int .i64 x, .int .i64 y] 39)) hgrow (by simpa [Value.ownBlock] using HFH.out); have q5 := f5.cell; have fr5 := f5.free))
      all_goals
        have r5 := ((hR4.alloc (.cells #[.int .i64 x, .int .i64 y] 39)).grow hgrow (by intro h hh; have := ob.lt; simp [Value.ownBlock] at hh; omega)).set (q := ⟨F, 2, none⟩) (by have := HFw.out; simp; omega) (.slice (some ⟨gg, 0, none⟩) (k + 1) cap')
        have F5 : Bk (w5.setCell ⟨F, 2, none⟩ (.slice (some ⟨gg, 0, none⟩) (k + 1) cap')) F 25 #[.int .i64 (1 + r), .int .i64 trig, .slice (some ⟨gg, 0, none⟩) (k + 1) cap', .bool lost, .int .i64 age] := by simpa using f5.put 2 (.slice (some ⟨gg, 0, none⟩) (k + 1) cap')
        have O5 : OwnG w5 (w.heap.size + 1) gg (k + 1) cap' (zs ++ [(x, y)]) := by simpa [OwnG] using ho5
        have O6 := O5.far (p := ⟨F, 2, none⟩) (O5.ne f5 (by decide)) (.slice (some ⟨gg, 0, none⟩) (k + 1) cap')
        have R5 := (((Bk.but (w := wr.drew) rb k4 (by omega)).alloc (.cells #[.int .i64 x, .int .i64 y] 39)).grow hgrow (by have := ob.lt; simp [Value.ownBlock]; omega)).far (p := ⟨F, 2, none⟩) (by have := HFw.out; simp; omega) (.slice (some ⟨gg, 0, none⟩) (k + 1) cap')
        have B5 := ((((But.trans (b := wr.drew) ⟨hbut.os, hbut.tape, hbut.output, hbut.size, hbut.block⟩ k4).alloc (.cells #[.int .i64 x, .int .i64 y] 39)).grow hgrow (by intro i hi; have := ob.lt; simp [Value.ownBlock] at hi; omega)).set (p := ⟨F, 2, none⟩) (.inr (by have := HFw.out; simp; omega)) (.slice (some ⟨gg, 0, none⟩) (k + 1) cap'))
        clear q5 fr5 q4' fr4 f5 f4
        go_wp2
        go_roundw
        case rel => exact ⟨k + 1, gg, cap', zs ++ [(x, y)], q4, by go_num, by omega, r5, by omega, F5, O6, R5, B5⟩
        case measure => simp [intOf]; omega
    · have hge : ¬ (k : Int) < (n : Int) := by omega
      have hFh := hide (ob.ne fb (by decide))
      have hRh := hide (ob.ne rb (by decide))
      go_wp2_with fail
      refine (pick_any _ g q 30 hR (by omega) (by omega) (by omega)).mono ?_
      rintro e wn ⟨m, rfl, hm0, hm1, hR, kn⟩
      have fb := fb.just kn HFg.out
      have ob := ob.just kn (by have := ob.lt; omega)
      have rb := rb.just kn (by omega)
      have hbut := hbut.just kn
      clear kn
      have qF := fb.cell
      have fF := fb.free
      have qR := rb.cell
      have fR := rb.free
      have lF := fb.lt
      have lR := rb.lt
      by_cases e0 : m = 0
      · subst e0
        have obd : OwnG wn.drew (w.heap.size + 1) h' k cap zs := ob
        have hRd : Rdr wn.drew g (q + 1) := hR
        have hwr : w.heap.size ≤ wn.heap.size := hbut.size
        have HNE := hide (show h' ≠ g by have := ob.lt; omega)
        have obA : OwnG (wn.alloc (.cells #[.int .i64 0, .int .i64 (IntKind.i64.wrap (1 + r + 1))] 3)) (w.heap.size + 1) h' k cap zs := ob.alloc _
        have fbA := fb.alloc (.cells #[.int .i64 0, .int .i64 (IntKind.i64.wrap (1 + r + 1))] 3)
        have rbA := rb.alloc (.cells #[.int .i64 0, .int .i64 (IntKind.i64.wrap (1 + r + 1))] 3)
        have n3A := Bk.new wn 3 #[.int .i64 0, .int .i64 (IntKind.i64.wrap (1 + r + 1))]
        have n3g := hide (show wn.heap.size ≠ g by omega)
        have hRA : Rdr (wn.alloc (.cells #[.int .i64 0, .int .i64 (IntKind.i64.wrap (1 + r + 1))] 3)) g (q + 1) := hR.alloc _
        go_wp2
        go_region_law (first | (go_simp; go_at_call 31; refine (pick_any _ g (q + 1) 2 (show Rdr (wn.alloc (.cells #[.int .i64 0, .int .i64 (IntKind.i64.wrap (1 + r + 1))] 3)).drew g (q + 1) from hRA) (by omega) (by omega) (by omega)).mono ?_; rintro e w4 ⟨x, rfl, hx0, hx1, hR4, k4⟩; obtain ⟨y, hy⟩ := two_at (show Bk w4 wn.heap.size 3 #[.int .i64 0, .int .i64 (IntKind.i64.wrap (1 + r + 1))] from (k4.block _ n3g.out).trans n3A) hx0 hx1; have o4 : OwnG w4 (w.heap.size + 1) h' k cap zs := OwnG.just obA ⟨k4.os, k4.tape, k4.output, k4.size, k4.block⟩ HNE.out; have f4 : Bk w4 F 25 #[.int .i64 (1 + r), .int .i64 trig, .slice (some ⟨h', 0, none⟩) k cap, .bool lost, .int .i64 age] := (k4.block _ HFg.out).trans fbA; have r4 : Bk w4 w.heap.size 25 #[.int .i64 0, .int .i64 0, .slice none 0 0, .bool false, .int .i64 0] := (k4.block _ (by omega)).trans rbA; have B4 := But.just (b := wn.alloc (.cells #[.int .i64 0, .int .i64 (IntKind.i64.wrap (1 + r + 1))] 3)) (hbut.alloc _) ⟨k4.os, k4.tape, k4.output, k4.size, k4.block⟩; have q4 := f4.cell; have fr4 := f4.free; have lF4 := f4.lt; have s4 := B4.size; have tok1 : True := trivial) | (go_simp; go_at_call 31; refine (pick_any _ g (q + 1) 2 hRd (by omega) (by omega) (by omega)).mono ?_; rintro e w4 ⟨x, rfl, hx0, hx1, hR4, k4⟩; obtain ⟨y, hy⟩ := two_at (Bk.new w4 3 #[.int .i64 0, .int .i64 (IntKind.i64.wrap (1 + r + 1))]) hx0 hx1; have o4 : OwnG w4 (w.heap.size + 1) h' k cap zs := OwnG.just obd k4 HNE.out; have f4' : Bk w4 F 25 #[.int .i64 (1 + r), .int .i64 trig, .slice (some ⟨h', 0, none⟩) k cap, .bool lost, .int .i64 age] := (k4.block _ HFg.out).trans fb; have f4 := f4'.alloc (.cells #[.int .i64 0, .int .i64 (IntKind.i64.wrap (1 + r + 1))] 3); have r4 : Bk w4 w.heap.size 25 #[.int .i64 0, .int .i64 0, .slice none 0 0, .bool false, .int .i64 0] := (k4.block _ (by omega)).trans rb; have B4 := But.just (b := wn) hbut ⟨k4.os, k4.tape, k4.output, k4.size, k4.block⟩; have q4 := f4'.cell; have fr4 := f4'.free; have lF4 := f4'.lt; have s4 : w.heap.size ≤ w4.heap.size := Nat.le_trans hwr (Nat.le_of_eq k4.size.symm); have lF5 : F < w4.heap.size + 1 := by omega))
        · have F5 : Bk _ F 25 #[.int .i64 (1 + r), .int .i64 y, .slice (some ⟨h', 0, none⟩) k cap, .bool lost, .int .i64 age] := Bk.cast (f4.put 1 (.int .i64 y)) (by simp)
          have O5 := o4.far (p := ⟨F, 1, none⟩) hFh.out (.int .i64 y)
          have R5 := r4.far (p := ⟨F, 1, none⟩) n2 (.int .i64 y)
          have B5 := B4.set (p := ⟨F, 1, none⟩) (.inr (Nat.le_of_lt HFw.out)) (.int .i64 y)
          clear q4 fr4 qF fF qR fR
          have qF := F5.cell
          have qR := R5.cell
          have fR := R5.free
          go_wp2
          refine bodyPost_ret (by simp [results, Try.results23, go_sem, qR]; first | rfl | (and_intros <;> rfl)) rfl ⟨_, _, _, _, _, zs, _, _, rfl, ?_, ?_⟩
          · refine OwnG.le_ (base := w.heap.size + 1) ?_ (by omega)
            repeat (first | refine OwnG.far ?_ hRh.out _)
            exact O5
          · repeat (first | refine But.set ?_ (.inr (Nat.le_refl _)) _)
            exact B5
        all_goals
          have F5 := Bk.cast ((f4'.put 1 (.int .i64 y)).alloc (.cells #[.int .i64 0, .int .i64 (IntKind.i64.wrap (1 + r + 1))] 3)) (cs' := #[.int .i64 (1 + r), .int .i64 y, .slice (some ⟨h', 0, none⟩) k cap, .bool lost, .int .i64 age]) (by simp)
          have O5 := (o4.far (p := ⟨F, 1, none⟩) hFh.out (.int .i64 y)).alloc (.cells #[.int .i64 0, .int .i64 (IntKind.i64.wrap (1 + r + 1))] 3)
          have R5 := (r4.far (p := ⟨F, 1, none⟩) n2 (.int .i64 y)).alloc (.cells #[.int .i64 0, .int .i64 (IntKind.i64.wrap (1 + r + 1))] 3)
          have B5 := (B4.set (p := ⟨F, 1, none⟩) (.inr (Nat.le_of_lt HFw.out)) (.int .i64 y)).alloc (.cells #[.int .i64 0, .int .i64 (IntKind.i64.wrap (1 + r + 1))] 3)
          clear q4 fr4 qF fF qR fR f4 f4' r4 B4 hy lF lR
          generalize (w4.setCell ⟨F, 1, none⟩ (.int .i64 y)).alloc (.cells #[.int .i64 0, .int .i64 (IntKind.i64.wrap (1 + r + 1))] 3) = W at F5 O5 R5 B5 ⊢
          have qF := F5.cell
          have qR := R5.cell
          have fR := R5.free
          have lF := F5.lt
          have lR := R5.lt
          go_wp2
          refine bodyPost_ret (by simp [results, Try.results23, go_sem, qR]; first | rfl | (and_intros <;> rfl)) rfl ⟨_, _, _, _, _, zs, _, _, rfl, ?_, ?_⟩
          · refine OwnG.le_ (base := w.heap.size + 1) ?_ (by omega)
            repeat (first | refine OwnG.far ?_ hRh.out _)
            exact O5
          · repeat (first | refine But.set ?_ (.inr (Nat.le_refl _)) _)
            exact B5
      · have t0 : (m == 0) = false := by simpa using e0
        clear e0
        by_cases e1 : m = 1
        · subst e1
          go_wp2_with fail
          refine (pick_any _ g _ 3 (hR.alloc _) (by omega) (by omega) (by omega)).mono ?_
          rintro e wn ⟨m, rfl, hm0, hm1, hR, kn⟩
          have b3 := (Bk.new _ 3 #[.int .i64 (-1), .int .i64 99, .int .i64 100]).just kn (by omega)
          have fb := (fb.alloc (.cells #[.int .i64 (-1), .int .i64 99, .int .i64 100] 3)).just kn HFg.out
          have ob := (ob.alloc (.cells #[.int .i64 (-1), .int .i64 99, .int .i64 100] 3)).just kn (by have := ob.lt; omega)
          have rb := (rb.alloc (.cells #[.int .i64 (-1), .int .i64 99, .int .i64 100] 3)).just kn (by omega)
          have hbut := (hbut.alloc (.cells #[.int .i64 (-1), .int .i64 99, .int .i64 100] 3)).just kn
          clear kn
          clear qF fF qR fR lF lR
          have qF := fb.cell
          have fF := fb.free
          have qR := rb.cell
          have fR := rb.free
          have lF := fb.lt
          have lR := rb.lt
          obtain ⟨y, hy⟩ := three_at b3 hm0 hm1
          go_wp2
          refine bodyPost_ret (by simp [results, Try.results23, go_sem, qR]; first | rfl | (and_intros <;> rfl)) rfl ⟨_, _, _, _, _, zs, _, _, rfl, ?_, ?_⟩
          · refine OwnG.le_ (base := w.heap.size + 1) ?_ (by omega)
            repeat (first | refine OwnG.far ?_ hFh.out _ | refine OwnG.far ?_ hRh.out _)
            exact ob
          · repeat (first | refine But.set ?_ (.inr (Nat.le_of_lt HFw.out)) _ | refine But.set ?_ (.inr (Nat.le_refl _)) _)
            exact hbut
        · have t1 : (m == 1) = false := by simpa using e1
          clear e1
          go_wp2
          refine bodyPost_ret (by simp [results, Try.results23, go_sem, qR]; first | rfl | (and_intros <;> rfl)) rfl ⟨_, _, _, _, _, zs, _, _, rfl, ?_, ?_⟩
          · refine OwnG.le_ (base := w.heap.size + 1) ?_ (by omega)
            repeat (first | refine OwnG.far ?_ hFh.out _ | refine OwnG.far ?_ hRh.out _)
            exact ob
          · repeat (first | refine But.set ?_ (.inr (Nat.le_of_lt HFw.out)) _ | refine But.set ?_ (.inr (Nat.le_refl _)) _)
            exact hbut
end Go.Proofs.Ytnlclifdkhlcpaa
