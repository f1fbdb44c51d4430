/-
  The walks of the laws on drawn receivers: each law returns true for every code and turns nothing that was there.
-/
import Derived.Test.YtnlclifdkhlcpaaDrawR
import Derived.Test.YtnlclifdkhlcpaaRecvB
namespace Go.Proofs.Ytnlclifdkhlcpaa
open Go.RowKit
set_option linter.unusedVariables false

theorem IsRow.len {k : IntKind} {w : World} {a : Option Addr} {len cap : Nat} {zs : List Int} (h : IsRow k w a len cap zs) : (len : Int) ≤ 9223372036854775807 := by
  rcases h with ⟨_, rfl, _, _⟩ | ⟨x, _, hlc, hm, _⟩
  · omega
  · unfold maxLen at hm; omega

set_option maxHeartbeats 1000000 in
theorem dDrawRecvValid_any (a : Option Addr) (len cap : Nat) (zs : List Int) (w : World) (h : IsRow .u8 w a len cap zs) :
    Calls Try.prog 11 #[.slice a len cap] w fun e w' => ∃ (room trig : Int) (b : Option Addr) (k c : Nat) (xs : List (Int × Int)) (lost : Bool) (age : Int), e = .returned (.agg (rcvV room trig b k c lost age)) ∧ Sg w' b k c xs ∧ Below w.heap.size w w' := by
  go_enter Try.func11, Try.ntmps11
  go_wp2_with fail
  refine (open_any a len cap zs _ (h.alloc _)).mono ?_
  rintro e w1 ⟨rfl, hr1, hz1, k1⟩
  have b1 : Bk w1 w.heap.size 25 _ := (Bk.new w 25 _).belowAll k1
  have k1 := ((Below.refl w.heap.size w).alloc (Nat.le_refl _) _).trans (k1.mono (by simp))
  simp at hr1 hz1
  have Z1 := hide hz1
  clear hz1
  go_wp2_with fail
  refine (l91Recv_any _ _ _ hr1 (by omega)).mono ?_
  rintro e w2 ⟨room, trig, h', k, c, xs, lost, age, rfl, ow, k2⟩
  have b2 := (b1.but k2 (by omega))
  have q2 := b2.cell
  have f2 := b2.free
  have hne := hide (ow.ne b2 (by decide))
  have k3 := k1.trans (k2.toBelow (B := w.heap.size) (by omega) (by have := Z1.out; omega))
  clear k1 k2
  go_wp2
  refine bodyPost_ret (by simp [results, Try.results11, go_sem, q2]; first | rfl | (and_intros <;> rfl)) rfl ⟨_, _, _, _, _, xs, _, _, rfl, (((((ow.far hne.out _).far hne.out _).far hne.out _).far hne.out _).far hne.out _).sg, ?_⟩
  exact ((((k3.setCell (Nat.le_refl _) _).setCell (Nat.le_refl _) _).setCell (Nat.le_refl _) _).setCell (Nat.le_refl _) _).setCell (Nat.le_refl _) _
set_option maxHeartbeats 1000000 in
theorem dDrawRecvReady_any (a : Option Addr) (len cap : Nat) (zs : List Int) (w : World) (h : IsRow .u8 w a len cap zs) :
    Calls Try.prog 14 #[.slice a len cap] w fun e w' => ∃ (room trig : Int) (b : Option Addr) (k c : Nat) (xs : List (Int × Int)) (lost : Bool) (age : Int), e = .returned (.agg (rcvV room trig b k c lost age)) ∧ Sg w' b k c xs ∧ Below w.heap.size w w' := by
  go_enter Try.func14, Try.ntmps14
  go_wp2_with fail
  refine (open_any a len cap zs _ (h.alloc _)).mono ?_
  rintro e w1 ⟨rfl, hr1, hz1, k1⟩
  have b1 : Bk w1 w.heap.size 25 _ := (Bk.new w 25 _).belowAll k1
  have k1 := ((Below.refl w.heap.size w).alloc (Nat.le_refl _) _).trans (k1.mono (by simp))
  simp at hr1 hz1
  have Z1 := hide hz1
  clear hz1
  go_wp2_with fail
  refine (l91Recv_any _ _ _ hr1 (by omega)).mono ?_
  rintro e w2 ⟨room, trig, h', k, c, xs, lost, age, rfl, ow, k2⟩
  have b2 := (b1.but k2 (by omega))
  have q2 := b2.cell
  have f2 := b2.free
  have hne := hide (ow.ne b2 (by decide))
  have k3 := k1.trans (k2.toBelow (B := w.heap.size) (by omega) (by have := Z1.out; omega))
  clear k1 k2
  go_wp2
  refine bodyPost_ret (by simp [results, Try.results14, go_sem, q2]; first | rfl | (and_intros <;> rfl)) rfl ⟨_, _, _, _, _, xs, _, _, rfl, (((((ow.far hne.out _).far hne.out _).far hne.out _).far hne.out _).far hne.out _).sg, ?_⟩
  exact ((((k3.setCell (Nat.le_refl _) _).setCell (Nat.le_refl _) _).setCell (Nat.le_refl _) _).setCell (Nat.le_refl _) _).setCell (Nat.le_refl _) _
set_option maxHeartbeats 1000000 in
theorem dDrawRecvStatus_any (a : Option Addr) (len cap : Nat) (zs : List Int) (w : World) (h : IsRow .u8 w a len cap zs) :
    Calls Try.prog 20 #[.slice a len cap] w fun e w' => ∃ (room trig : Int) (b : Option Addr) (k c : Nat) (xs : List (Int × Int)) (lost : Bool) (age : Int), e = .returned (.agg (rcvV room trig b k c lost age)) ∧ Sg w' b k c xs ∧ Below w.heap.size w w' := by
  go_enter Try.func20, Try.ntmps20
  go_wp2_with fail
  refine (open_any a len cap zs _ (h.alloc _)).mono ?_
  rintro e w1 ⟨rfl, hr1, hz1, k1⟩
  have b1 : Bk w1 w.heap.size 25 _ := (Bk.new w 25 _).belowAll k1
  have k1 := ((Below.refl w.heap.size w).alloc (Nat.le_refl _) _).trans (k1.mono (by simp))
  simp at hr1 hz1
  have Z1 := hide hz1
  clear hz1
  go_wp2_with fail
  refine (l91Recv_any _ _ _ hr1 (by omega)).mono ?_
  rintro e w2 ⟨room, trig, h', k, c, xs, lost, age, rfl, ow, k2⟩
  have b2 := (b1.but k2 (by omega))
  have q2 := b2.cell
  have f2 := b2.free
  have hne := hide (ow.ne b2 (by decide))
  have k3 := k1.trans (k2.toBelow (B := w.heap.size) (by omega) (by have := Z1.out; omega))
  clear k1 k2
  go_wp2
  refine bodyPost_ret (by simp [results, Try.results20, go_sem, q2]; first | rfl | (and_intros <;> rfl)) rfl ⟨_, _, _, _, _, xs, _, _, rfl, (((((ow.far hne.out _).far hne.out _).far hne.out _).far hne.out _).far hne.out _).sg, ?_⟩
  exact ((((k3.setCell (Nat.le_refl _) _).setCell (Nat.le_refl _) _).setCell (Nat.le_refl _) _).setCell (Nat.le_refl _) _).setCell (Nat.le_refl _) _
set_option maxHeartbeats 2000000 in
theorem fnReady_walk (a : Option Addr) (len cap : Nat) (zs : List Int) (w : World) (h : IsRow .u8 w a len cap zs) :
    Calls Try.prog 4 #[.slice a len cap] w fun e w' => e = .returned (.bool true) ∧ Below w.heap.size w w' := by
  have hl := h.len
  by_cases hbig : (1048576 : Int) < (len : Int)
  · go_enter Try.func4, Try.ntmps4
    go_wp2
    go_ret
    exact ⟨rfl, Below.refl _ _⟩
  · go_enter Try.func4, Try.ntmps4
    go_wp2_with fail
    refine (dDrawRecvReady_any a len cap zs _ h).mono ?_
    rintro e w1 ⟨room, trig, b, k, c, xs, lost, age, rfl, s1, k1⟩
    have k1 := k1.alloc k1.size (.cells (rcvV room trig b k c lost age) 25)
    have b1 := Bk.new w1 25 (rcvV room trig b k c lost age)
    have s1 := s1.alloc (.cells (rcvV room trig b k c lost age) 25)
    have hk : (k : Int) ≤ 9223372036854775807 := by have := s1.2.1; have := s1.2.2.1; omega
    go_wp2_with fail
    refine (ird_any _ _ _ _ _ xs _ _ _ s1).mono ?_
    rintro e w2 ⟨rfl, k2⟩
    have b2 := b1.belowAll k2
    have s2 := s1.below k2 (Nat.le_refl _)
    have K := hide (k1.trans (k2.mono k1.size))
    clear k1 k2 b1
    have q2 := b2.cell
    go_wp2_with fail
    refine (srd_any _ _ _ _ _ xs _ _ _ s2).mono ?_
    rintro e w3 ⟨rfl, k3⟩
    have b3 := b2.belowAll k3
    have s3 := s2.below k3 (Nat.le_refl _)
    have K := hide (K.out.trans (k3.mono K.out.size))
    clear k3 q2
    have q3 := b3.cell
    have l3 := b3.lt
    cases hv : rv room trig k xs age
    · have E : rdOf room trig k xs age = 0 := by simp [rdOf, hv]
      have HV := hide hv
      rw [E]
      clear hv E
      go_wp2_with fail
      refine (irv_any _ _ _ _ _ xs _ _ _ s3).mono ?_
      rintro e w4 ⟨rfl, k4⟩
      rw [HV.out]
      have b4 := b3.belowAll k4
      have K := hide (K.out.trans (k4.mono K.out.size))
      clear k4 q3
      have q4 := b4.cell
      go_wp2
      go_ret
      first | exact ⟨rfl, K.out⟩ | exact ⟨ret_bool (by simp <;> omega), K.out⟩
    · obtain ⟨r1, r2, r3, r4, r5, r6, r7, _⟩ := rv_facts hv
      have HV := hide hv
      by_cases h1 : trig ≤ (k : Int)
      · have E : rdOf room trig k xs age = 1 := by simp [rdOf, hv, h1]
        have hn : ¬ (k : Int) < trig := by omega
        have hkp : (0 : Int) < (k : Int) := by omega
        rw [E]
        clear hv E
        go_wp2_with fail
        refine (irv_any _ _ _ _ _ xs _ _ _ s3).mono ?_
        rintro e w4 ⟨rfl, k4⟩
        rw [HV.out]
        have b4 := b3.belowAll k4
        have K := hide (K.out.trans (k4.mono K.out.size))
        clear k4 q3
        have q4 := b4.cell
        go_wp2
        go_ret
        first | exact ⟨rfl, K.out⟩ | exact ⟨ret_bool (by simp <;> omega), K.out⟩
      · by_cases h2 : 0 < k
        · have hkp : (0 : Int) < (k : Int) := by omega
          have hlt : (k : Int) < trig := by omega
          by_cases h3 : 4 ≤ age
          · have E : rdOf room trig k xs age = 2 := by simp [rdOf, hv, h1, h2, h3]
            rw [E]
            clear hv E h2
            go_wp2_with fail
            refine (irv_any _ _ _ _ _ xs _ _ _ s3).mono ?_
            rintro e w4 ⟨rfl, k4⟩
            rw [HV.out]
            have b4 := b3.belowAll k4
            have K := hide (K.out.trans (k4.mono K.out.size))
            clear k4 q3
            have q4 := b4.cell
            go_wp2
            go_ret
            first | exact ⟨rfl, K.out⟩ | exact ⟨ret_bool (by simp <;> omega), K.out⟩
          · have E : rdOf room trig k xs age = 0 := by simp [rdOf, hv, h1, h3]
            rw [E]
            clear hv E h2
            go_wp2_with fail
            refine (irv_any _ _ _ _ _ xs _ _ _ s3).mono ?_
            rintro e w4 ⟨rfl, k4⟩
            rw [HV.out]
            have b4 := b3.belowAll k4
            have K := hide (K.out.trans (k4.mono K.out.size))
            clear k4 q3
            have q4 := b4.cell
            go_wp2
            go_ret
            first | exact ⟨rfl, K.out⟩ | exact ⟨ret_bool (by simp <;> omega), K.out⟩
        · obtain rfl : k = 0 := by omega
          have E : rdOf room trig 0 xs age = 0 := by simp [rdOf, hv]; omega
          rw [E]
          clear hv E h2
          go_wp2_with fail
          refine (irv_any _ _ _ _ _ xs _ _ _ s3).mono ?_
          rintro e w4 ⟨rfl, k4⟩
          rw [HV.out]
          have b4 := b3.belowAll k4
          have K := hide (K.out.trans (k4.mono K.out.size))
          clear k4 q3
          have q4 := b4.cell
          go_wp2
          go_ret
          first | exact ⟨rfl, K.out⟩ | exact ⟨ret_bool (by simp <;> omega), K.out⟩
set_option maxHeartbeats 2000000 in
theorem fnReadyLateWhen_walk (a : Option Addr) (len cap : Nat) (zs : List Int) (w : World) (h : IsRow .u8 w a len cap zs) :
    Calls Try.prog 5 #[.slice a len cap] w fun e w' => e = .returned (.bool true) ∧ Below w.heap.size w w' := by
  have hl := h.len
  by_cases hbig : (1048576 : Int) < (len : Int)
  · go_enter Try.func5, Try.ntmps5
    go_wp2
    go_ret
    exact ⟨rfl, Below.refl _ _⟩
  · go_enter Try.func5, Try.ntmps5
    go_wp2_with fail
    refine (dDrawRecvReady_any a len cap zs _ h).mono ?_
    rintro e w1 ⟨room, trig, b, k, c, xs, lost, age, rfl, s1, k1⟩
    have k1 := k1.alloc k1.size (.cells (rcvV room trig b k c lost age) 25)
    have b1 := Bk.new w1 25 (rcvV room trig b k c lost age)
    have s1 := s1.alloc (.cells (rcvV room trig b k c lost age) 25)
    have hk : (k : Int) ≤ 9223372036854775807 := by have := s1.2.1; have := s1.2.2.1; omega
    go_wp2_with fail
    refine (ird_any _ _ _ _ _ xs _ _ _ s1).mono ?_
    rintro e w2 ⟨rfl, k2⟩
    have b2 := b1.belowAll k2
    have s2 := s1.below k2 (Nat.le_refl _)
    have K := hide (k1.trans (k2.mono k1.size))
    clear k1 k2 b1
    have q2 := b2.cell
    go_wp2_with fail
    refine (srd_any _ _ _ _ _ xs _ _ _ s2).mono ?_
    rintro e w3 ⟨rfl, k3⟩
    have b3 := b2.belowAll k3
    have s3 := s2.below k3 (Nat.le_refl _)
    have K := hide (K.out.trans (k3.mono K.out.size))
    clear k3 q2
    have q3 := b3.cell
    have l3 := b3.lt
    cases hv : rv room trig k xs age
    · have E : rdOf room trig k xs age = 0 := by simp [rdOf, hv]
      have HV := hide hv
      rw [E]
      clear hv E
      go_wp2_with fail
      refine (irv_any _ _ _ _ _ xs _ _ _ s3).mono ?_
      rintro e w4 ⟨rfl, k4⟩
      rw [HV.out]
      have b4 := b3.belowAll k4
      have K := hide (K.out.trans (k4.mono K.out.size))
      clear k4 q3
      have q4 := b4.cell
      go_wp2
      go_ret
      first | exact ⟨rfl, K.out⟩ | exact ⟨ret_bool (by simp <;> omega), K.out⟩
    · obtain ⟨r1, r2, r3, r4, r5, r6, r7, _⟩ := rv_facts hv
      have HV := hide hv
      by_cases h1 : trig ≤ (k : Int)
      · have E : rdOf room trig k xs age = 1 := by simp [rdOf, hv, h1]
        have hn : ¬ (k : Int) < trig := by omega
        have hkp : (0 : Int) < (k : Int) := by omega
        rw [E]
        clear hv E
        go_wp2_with fail
        refine (irv_any _ _ _ _ _ xs _ _ _ s3).mono ?_
        rintro e w4 ⟨rfl, k4⟩
        rw [HV.out]
        have b4 := b3.belowAll k4
        have K := hide (K.out.trans (k4.mono K.out.size))
        clear k4 q3
        have q4 := b4.cell
        go_wp2
        go_ret
        first | exact ⟨rfl, K.out⟩ | exact ⟨ret_bool (by simp <;> omega), K.out⟩
      · by_cases h2 : 0 < k
        · have hkp : (0 : Int) < (k : Int) := by omega
          have hlt : (k : Int) < trig := by omega
          by_cases h3 : 4 ≤ age
          · have E : rdOf room trig k xs age = 2 := by simp [rdOf, hv, h1, h2, h3]
            rw [E]
            clear hv E h2
            go_wp2_with fail
            refine (irv_any _ _ _ _ _ xs _ _ _ s3).mono ?_
            rintro e w4 ⟨rfl, k4⟩
            rw [HV.out]
            have b4 := b3.belowAll k4
            have K := hide (K.out.trans (k4.mono K.out.size))
            clear k4 q3
            have q4 := b4.cell
            go_wp2
            go_ret
            first | exact ⟨rfl, K.out⟩ | exact ⟨ret_bool (by simp <;> omega), K.out⟩
          · have E : rdOf room trig k xs age = 0 := by simp [rdOf, hv, h1, h3]
            rw [E]
            clear hv E h2
            go_wp2_with fail
            refine (irv_any _ _ _ _ _ xs _ _ _ s3).mono ?_
            rintro e w4 ⟨rfl, k4⟩
            rw [HV.out]
            have b4 := b3.belowAll k4
            have K := hide (K.out.trans (k4.mono K.out.size))
            clear k4 q3
            have q4 := b4.cell
            go_wp2
            go_ret
            first | exact ⟨rfl, K.out⟩ | exact ⟨ret_bool (by simp <;> omega), K.out⟩
        · obtain rfl : k = 0 := by omega
          have E : rdOf room trig 0 xs age = 0 := by simp [rdOf, hv]; omega
          rw [E]
          clear hv E h2
          go_wp2_with fail
          refine (irv_any _ _ _ _ _ xs _ _ _ s3).mono ?_
          rintro e w4 ⟨rfl, k4⟩
          rw [HV.out]
          have b4 := b3.belowAll k4
          have K := hide (K.out.trans (k4.mono K.out.size))
          clear k4 q3
          have q4 := b4.cell
          go_wp2
          go_ret
          first | exact ⟨rfl, K.out⟩ | exact ⟨ret_bool (by simp <;> omega), K.out⟩
set_option maxHeartbeats 2000000 in
theorem fnStatus_walk (a : Option Addr) (len cap : Nat) (zs : List Int) (w : World) (h : IsRow .u8 w a len cap zs) :
    Calls Try.prog 7 #[.slice a len cap] w fun e w' => e = .returned (.bool true) ∧ Below w.heap.size w w' := by
  have hl := h.len
  by_cases hbig : (1048576 : Int) < (len : Int)
  · go_enter Try.func7, Try.ntmps7
    go_wp2
    go_ret
    exact ⟨rfl, Below.refl _ _⟩
  · go_enter Try.func7, Try.ntmps7
    go_wp2_with fail
    refine (dDrawRecvStatus_any a len cap zs _ h).mono ?_
    rintro e w1 ⟨room, trig, b, k, c, xs, lost, age, rfl, s1, k1⟩
    have k1 := k1.alloc k1.size (.cells (rcvV room trig b k c lost age) 25)
    have b1 := Bk.new w1 25 (rcvV room trig b k c lost age)
    have s1 := s1.alloc (.cells (rcvV room trig b k c lost age) 25)
    have hk : (k : Int) ≤ 9223372036854775807 := by have := s1.2.1; have := s1.2.2.1; omega
    go_wp2_with fail
    refine (irs_any _ _ _ _ _ xs _ _ _ s1).mono ?_
    rintro e w2 ⟨rfl, k2⟩
    have b2 := b1.belowAll k2
    have s2 := s1.below k2 (Nat.le_refl _)
    have K := hide (k1.trans (k2.mono k1.size))
    clear k1 k2 b1
    have q2 := b2.cell
    go_wp2_with fail
    refine (srs_any _ _ _ _ _ xs _ _ _ s2).mono ?_
    rintro e w3 ⟨rfl, k3⟩
    have b3 := b2.belowAll k3
    have s3 := s2.below k3 (Nat.le_refl _)
    have K := hide (K.out.trans (k3.mono K.out.size))
    clear k3 q2
    have q3 := b3.cell
    have l3 := b3.lt
    have HZ := hide s3.1
    cases hv : rv room trig k xs age
    · have E : rsOf room trig k xs lost age = -1 := by simp [rsOf, hv]
      rw [E]
      clear hv E
      go_wp2
      go_ret
      first | exact ⟨rfl, K.out⟩ | exact ⟨ret_bool (by simp <;> omega), K.out⟩
    · obtain ⟨r1, r2, r3, r4, r5, r6, r7, r8⟩ := rv_facts hv
      by_cases h2 : 0 < k
      · have hkp : (0 : Int) < (k : Int) := by omega
        obtain ⟨x0, x1⟩ := code_range r8 (by have := HZ.out; omega)
        obtain ⟨b', o, rfl, _, c2⟩ := s3.at_ h2
        have HC := hide c2
        clear c2
        obtain hx | hx | hx : rcode xs = 0 ∨ rcode xs = 1 ∨ rcode xs = 2 := by omega
        · have c3 : w3.cell? ⟨b', o + 1, none⟩ = some (.int .i64 0) := by have := HC.out; rw [← hx]; simpa [rcode] using this
          have hlb : b' < w3.heap.size := lt_of_some (p := ⟨b', o + 1, none⟩) (by rw [c3]; rfl)
          cases lost
          · have E : rsOf room trig k xs false age = 1 := by simp [rsOf, hv, h2, hx]
            rw [E]
            clear hv E h2 hx x0 x1 r8
            go_wp2
            go_ret
            exact ⟨rfl, K.out.alloc K.out.size _⟩
          · have E : rsOf room trig k xs true age = 3 := by simp [rsOf, hv, h2, hx]
            rw [E]
            clear hv E h2 hx x0 x1 r8
            go_wp2
            go_ret
            exact ⟨rfl, K.out.alloc K.out.size _⟩
        · have c3 : w3.cell? ⟨b', o + 1, none⟩ = some (.int .i64 1) := by have := HC.out; rw [← hx]; simpa [rcode] using this
          have hlb : b' < w3.heap.size := lt_of_some (p := ⟨b', o + 1, none⟩) (by rw [c3]; rfl)
          cases lost
          · have E : rsOf room trig k xs false age = 5 := by simp [rsOf, hv, h2, hx]
            rw [E]
            clear hv E h2 hx x0 x1 r8
            go_wp2
            go_ret
            exact ⟨rfl, K.out.alloc K.out.size _⟩
          · have E : rsOf room trig k xs true age = 7 := by simp [rsOf, hv, h2, hx]
            rw [E]
            clear hv E h2 hx x0 x1 r8
            go_wp2
            go_ret
            exact ⟨rfl, K.out.alloc K.out.size _⟩
        · have c3 : w3.cell? ⟨b', o + 1, none⟩ = some (.int .i64 2) := by have := HC.out; rw [← hx]; simpa [rcode] using this
          have hlb : b' < w3.heap.size := lt_of_some (p := ⟨b', o + 1, none⟩) (by rw [c3]; rfl)
          cases lost
          · have E : rsOf room trig k xs false age = 9 := by simp [rsOf, hv, h2, hx]
            rw [E]
            clear hv E h2 hx x0 x1 r8
            go_wp2
            go_ret
            exact ⟨rfl, K.out.alloc K.out.size _⟩
          · have E : rsOf room trig k xs true age = 11 := by simp [rsOf, hv, h2, hx]
            rw [E]
            clear hv E h2 hx x0 x1 r8
            go_wp2
            go_ret
            exact ⟨rfl, K.out.alloc K.out.size _⟩
      · obtain rfl : k = 0 := by omega
        cases lost
        · have E : rsOf room trig 0 xs false age = 0 := by simp [rsOf, hv]
          rw [E]
          clear hv E h2 r8
          go_wp2
          go_ret
          first | exact ⟨rfl, K.out⟩ | exact ⟨ret_bool (by simp <;> omega), K.out⟩
        · have E : rsOf room trig 0 xs true age = 2 := by simp [rsOf, hv]
          rw [E]
          clear hv E h2 r8
          go_wp2
          go_ret
          first | exact ⟨rfl, K.out⟩ | exact ⟨ret_bool (by simp <;> omega), K.out⟩
set_option maxHeartbeats 2000000 in
theorem fnStatusTake_walk (a : Option Addr) (len cap : Nat) (zs : List Int) (w : World) (h : IsRow .u8 w a len cap zs) :
    Calls Try.prog 8 #[.slice a len cap] w fun e w' => e = .returned (.bool true) ∧ Below w.heap.size w w' := by
  have hl := h.len
  by_cases hbig : (1048576 : Int) < (len : Int)
  · go_enter Try.func8, Try.ntmps8
    go_wp2
    go_ret
    exact ⟨rfl, Below.refl _ _⟩
  · go_enter Try.func8, Try.ntmps8
    go_wp2_with fail
    refine (dDrawRecvStatus_any a len cap zs _ h).mono ?_
    rintro e w1 ⟨room, trig, b, k, c, xs, lost, age, rfl, s1, k1⟩
    have k1 := k1.alloc k1.size (.cells (rcvV room trig b k c lost age) 25)
    have b1 := Bk.new w1 25 (rcvV room trig b k c lost age)
    have s1 := s1.alloc (.cells (rcvV room trig b k c lost age) 25)
    have hk : (k : Int) ≤ 9223372036854775807 := by have := s1.2.1; have := s1.2.2.1; omega
    go_wp2_with fail
    refine (irs_any _ _ _ _ _ xs _ _ _ s1).mono ?_
    rintro e w2 ⟨rfl, k2⟩
    have b2 := b1.belowAll k2
    have s2 := s1.below k2 (Nat.le_refl _)
    have K := hide (k1.trans (k2.mono k1.size))
    clear k1 k2 b1
    have q2 := b2.cell
    go_wp2_with fail
    refine (srs_any _ _ _ _ _ xs _ _ _ s2).mono ?_
    rintro e w3 ⟨rfl, k3⟩
    have b3 := b2.belowAll k3
    have s3 := s2.below k3 (Nat.le_refl _)
    have K := hide (K.out.trans (k3.mono K.out.size))
    clear k3 q2
    have q3 := b3.cell
    have l3 := b3.lt
    have HZ := hide s3.1
    cases hv : rv room trig k xs age
    · have E : rsOf room trig k xs lost age = -1 := by simp [rsOf, hv]
      rw [E]
      clear hv E
      go_wp2
      go_ret
      first | exact ⟨rfl, K.out⟩ | exact ⟨ret_bool (by simp <;> omega), K.out⟩
    · obtain ⟨r1, r2, r3, r4, r5, r6, r7, r8⟩ := rv_facts hv
      by_cases h2 : 0 < k
      · have hkp : (0 : Int) < (k : Int) := by omega
        have hk0 : ((k : Int) == 0) = false := by simp; omega
        obtain ⟨x0, x1⟩ := code_range r8 (by have := HZ.out; omega)
        obtain hx | hx | hx : rcode xs = 0 ∨ rcode xs = 1 ∨ rcode xs = 2 := by omega
        · cases lost
          · have E : rsOf room trig k xs false age = 1 := by simp [rsOf, hv, h2, hx]
            rw [E]
            clear hv E h2 hx x0 x1 r8
            go_wp2
            go_ret
            first | exact ⟨rfl, K.out⟩ | exact ⟨ret_bool (by simp <;> omega), K.out⟩
          · have E : rsOf room trig k xs true age = 3 := by simp [rsOf, hv, h2, hx]
            rw [E]
            clear hv E h2 hx x0 x1 r8
            go_wp2
            go_ret
            first | exact ⟨rfl, K.out⟩ | exact ⟨ret_bool (by simp <;> omega), K.out⟩
        · cases lost
          · have E : rsOf room trig k xs false age = 5 := by simp [rsOf, hv, h2, hx]
            rw [E]
            clear hv E h2 hx x0 x1 r8
            go_wp2
            go_ret
            first | exact ⟨rfl, K.out⟩ | exact ⟨ret_bool (by simp <;> omega), K.out⟩
          · have E : rsOf room trig k xs true age = 7 := by simp [rsOf, hv, h2, hx]
            rw [E]
            clear hv E h2 hx x0 x1 r8
            go_wp2
            go_ret
            first | exact ⟨rfl, K.out⟩ | exact ⟨ret_bool (by simp <;> omega), K.out⟩
        · cases lost
          · have E : rsOf room trig k xs false age = 9 := by simp [rsOf, hv, h2, hx]
            rw [E]
            clear hv E h2 hx x0 x1 r8
            go_wp2
            go_ret
            first | exact ⟨rfl, K.out⟩ | exact ⟨ret_bool (by simp <;> omega), K.out⟩
          · have E : rsOf room trig k xs true age = 11 := by simp [rsOf, hv, h2, hx]
            rw [E]
            clear hv E h2 hx x0 x1 r8
            go_wp2
            go_ret
            first | exact ⟨rfl, K.out⟩ | exact ⟨ret_bool (by simp <;> omega), K.out⟩
      · obtain rfl : k = 0 := by omega
        cases lost
        · have E : rsOf room trig 0 xs false age = 0 := by simp [rsOf, hv]
          rw [E]
          clear hv E h2 r8
          go_wp2
          go_ret
          first | exact ⟨rfl, K.out⟩ | exact ⟨ret_bool (by simp <;> omega), K.out⟩
        · have E : rsOf room trig 0 xs true age = 2 := by simp [rsOf, hv]
          rw [E]
          clear hv E h2 r8
          go_wp2
          go_ret
          first | exact ⟨rfl, K.out⟩ | exact ⟨ret_bool (by simp <;> omega), K.out⟩
theorem allG_tail {zs : List (Int × Int)} (h : allG zs = true) : allG (zs.drop 1) = true := by
  unfold allG at h ⊢
  rw [List.all_eq_true] at h ⊢
  exact fun z hz => h z (List.mem_of_mem_drop hz)
theorem Sg.tail {w : World} {a : Option Addr} {len cap : Nat} {zs : List (Int × Int)} (h : Sg w a len cap zs) (hl : 0 < len) : Sg w (if cap = 1 then a else a.map (·.add 2)) (len - 1) (cap - 1) (zs.drop 1) := by
  refine ⟨by rw [List.length_drop, h.1], by have := h.2.1; omega, by have := h.2.2.1; omega, fun h1 => ?_⟩
  obtain ⟨b, o, rfl, hc⟩ := h.2.2.2 hl
  have hc1 : cap ≠ 1 := by have := h.2.1; omega
  rw [if_neg hc1]
  refine ⟨b, o + 2, by simp [add_mk], fun i hi => ?_⟩
  have := hc (i + 1) (by omega)
  rw [show o + (i + 1) * 2 = o + 2 + i * 2 by omega] at this
  have e : (zs.drop 1).getD i (0, 0) = zs.getD (i + 1) (0, 0) := by simp [List.getD_eq_getElem?_getD]
  rw [e]
  exact this
set_option maxHeartbeats 2000000 in
theorem fnRecvPart_walk (a : Option Addr) (len cap : Nat) (zs : List Int) (w : World) (h : IsRow .u8 w a len cap zs) :
    Calls Try.prog 3 #[.slice a len cap] w fun e w' => e = .returned (.bool true) ∧ Below w.heap.size w w' := by
  have hl := h.len
  by_cases hbig : (1048576 : Int) < (len : Int)
  · go_enter Try.func3, Try.ntmps3
    go_wp2
    go_ret
    exact ⟨rfl, Below.refl _ _⟩
  · go_enter Try.func3, Try.ntmps3
    go_wp2_with fail
    refine (dDrawRecvValid_any a len cap zs _ h).mono ?_
    rintro e w1 ⟨room, trig, b, k, c, xs, lost, age, rfl, s1, k1⟩
    have k1 := k1.alloc k1.size (.cells (rcvV room trig b k c lost age) 25)
    have b1 := Bk.new w1 25 (rcvV room trig b k c lost age)
    have s1 := s1.alloc (.cells (rcvV room trig b k c lost age) 25)
    have hk : (k : Int) ≤ 9223372036854775807 := by have := s1.2.1; have := s1.2.2.1; omega
    go_wp2_with fail
    refine (irv_any _ _ _ _ _ xs _ _ _ s1).mono ?_
    rintro e w2 ⟨rfl, k2⟩
    have b2 := b1.belowAll k2
    have s2 := s1.below k2 (Nat.le_refl _)
    have K := hide (k1.trans (k2.mono k1.size))
    clear k1 k2 b1
    have q2 := b2.cell
    go_wp2_with fail
    refine (srv_any _ _ _ _ _ xs _ _ _ s2).mono ?_
    rintro e w3 ⟨rfl, k3⟩
    have b3 := b2.belowAll k3
    have s3 := s2.below k3 (Nat.le_refl _)
    have K := hide (K.out.trans (k3.mono K.out.size))
    clear k3 q2
    have q3 := b3.cell
    have l3 := b3.lt
    cases hv : rv room trig k xs age
    · clear hv
      go_wp2
      go_ret
      first | exact ⟨rfl, K.out⟩ | exact ⟨ret_bool (by simp <;> omega), K.out⟩
    · obtain ⟨r1, r2, r3, r4, r5, r6, r7, r8⟩ := rv_facts hv
      have v17 := hide (show rv room (room + 1) k xs age = false by simp [rv, rh]; omega)
      by_cases hk0 : 0 < k
      · have hk1 : (0 : Int) < (k : Int) := by omega
        have hkc : (k : Int) ≤ (c : Int) := by have := s3.2.1; omega
        have st := s3.tail hk0
        obtain ⟨b', o, rfl, _⟩ := s3.at_ hk0
        have hk2 : (1 : Int) ≤ (k : Int) := by omega
        have vt : rv room trig (k - 1) (xs.drop 1) age = true := by simp only [rv, rh, allG_tail r8, Bool.and_true, decide_eq_true_eq]; omega
        have HVT := hide vt
        by_cases hc1 : c = 1
        · subst hc1
          rw [if_pos rfl] at st
          clear hv vt hk0 r3 r4 r5 r6 r7 r8
          go_wp2_with fail
          refine (irv_any _ _ _ _ _ (xs.drop 1) _ _ _ ((st.alloc _).alloc _)).mono ?_
          rintro e w4 ⟨rfl, k4⟩
          rw [HVT.out]
          have b5 : Bk w4 (w3.heap.size + 1) 25 (rcvV room (room + 1) (some ⟨b', o, none⟩) k 1 lost age) := by
            have := (Bk.new (w3.alloc (.cells (rcvV room trig (some ⟨b', o, none⟩) (k - 1) (1 - 1) lost age) 25)) 25 (rcvV room (room + 1) (some ⟨b', o, none⟩) k 1 lost age)).belowAll k4
            simpa using this
          have s4 := ((s3.alloc (.cells (rcvV room trig (some ⟨b', o, none⟩) (k - 1) (1 - 1) lost age) 25)).alloc (.cells (rcvV room (room + 1) (some ⟨b', o, none⟩) k 1 lost age) 25)).below k4 (Nat.le_refl _)
          have K := hide (((K.out.alloc K.out.size (.cells (rcvV room trig (some ⟨b', o, none⟩) (k - 1) (1 - 1) lost age) 25)).alloc (by have := K.out.size; simp; omega) (.cells (rcvV room (room + 1) (some ⟨b', o, none⟩) k 1 lost age) 25)).trans (k4.mono (by have := K.out.size; simp; omega)))
          clear k4 q3
          have q5 := b5.cell
          go_wp2_with fail
          refine (irv_any _ _ _ _ _ xs _ _ _ s4).mono ?_
          rintro e w5 ⟨rfl, k5⟩
          rw [v17.out]
          have K := hide (K.out.trans (k5.mono K.out.size))
          clear q5
          go_wp2
          go_ret
          exact ⟨rfl, K.out⟩
        · rw [if_neg hc1] at st
          have eA : (⟨b', o, none⟩ : Addr).add 2 = ⟨b', o + 2, none⟩ := add_mk _ _ _
          simp only [Option.map_some, eA] at st
          clear hv vt hk0 r3 r4 r5 r6 r7 r8 eA
          go_wp2_with fail
          refine (irv_any _ _ _ _ _ (xs.drop 1) _ _ _ ((st.alloc _).alloc _)).mono ?_
          rintro e w4 ⟨rfl, k4⟩
          rw [HVT.out]
          have b5 : Bk w4 (w3.heap.size + 1) 25 (rcvV room (room + 1) (some ⟨b', o, none⟩) k c lost age) := by
            have := (Bk.new (w3.alloc (.cells (rcvV room trig (some ⟨b', o + 2, none⟩) (k - 1) (c - 1) lost age) 25)) 25 (rcvV room (room + 1) (some ⟨b', o, none⟩) k c lost age)).belowAll k4
            simpa using this
          have s4 := ((s3.alloc (.cells (rcvV room trig (some ⟨b', o + 2, none⟩) (k - 1) (c - 1) lost age) 25)).alloc (.cells (rcvV room (room + 1) (some ⟨b', o, none⟩) k c lost age) 25)).below k4 (Nat.le_refl _)
          have K := hide (((K.out.alloc K.out.size (.cells (rcvV room trig (some ⟨b', o + 2, none⟩) (k - 1) (c - 1) lost age) 25)).alloc (by have := K.out.size; simp; omega) (.cells (rcvV room (room + 1) (some ⟨b', o, none⟩) k c lost age) 25)).trans (k4.mono (by have := K.out.size; simp; omega)))
          clear k4 q3
          have q5 := b5.cell
          go_wp2_with fail
          refine (irv_any _ _ _ _ _ xs _ _ _ s4).mono ?_
          rintro e w5 ⟨rfl, k5⟩
          rw [v17.out]
          have K := hide (K.out.trans (k5.mono K.out.size))
          clear q5
          go_wp2
          go_ret
          exact ⟨rfl, K.out⟩
      · obtain rfl : k = 0 := by omega
        have HV := hide hv
        clear hv hk0 r3 r4 r5 r6 r7 r8
        go_wp2_with fail
        refine (irv_any _ _ _ _ _ xs _ _ _ ((s3.alloc _).alloc _)).mono ?_
        rintro e w4 ⟨rfl, k4⟩
        rw [HV.out]
        have b5 : Bk w4 (w3.heap.size + 1) 25 (rcvV room (room + 1) b 0 c lost age) := by
          have := (Bk.new (w3.alloc (.cells (rcvV room trig b 0 c lost age) 25)) 25 (rcvV room (room + 1) b 0 c lost age)).belowAll k4
          simpa using this
        have s4 := ((s3.alloc (.cells (rcvV room trig b 0 c lost age) 25)).alloc (.cells (rcvV room (room + 1) b 0 c lost age) 25)).below k4 (Nat.le_refl _)
        have K := hide (((K.out.alloc K.out.size (.cells (rcvV room trig b 0 c lost age) 25)).alloc (by have := K.out.size; simp; omega) (.cells (rcvV room (room + 1) b 0 c lost age) 25)).trans (k4.mono (by have := K.out.size; simp; omega)))
        clear k4 q3
        have q5 := b5.cell
        go_wp2_with fail
        refine (irv_any _ _ _ _ _ xs _ _ _ s4).mono ?_
        rintro e w5 ⟨rfl, k5⟩
        rw [v17.out]
        have K := hide (K.out.trans (k5.mono K.out.size))
        clear q5
        go_wp2
        go_ret
        exact ⟨rfl, K.out⟩
end Go.Proofs.Ytnlclifdkhlcpaa
