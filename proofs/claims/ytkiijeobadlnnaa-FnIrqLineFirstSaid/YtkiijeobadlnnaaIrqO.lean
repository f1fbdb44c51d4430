/-
  The interrupt that counts most: of the program, and of the reference. Each contract says what the function returns and that nothing that was there has turned.
-/
import Derived.Test.YtkiijeobadlnnaaHepD
import Derived.Test.YtkiijeobadlnnaaIrq
namespace Go.Proofs.Ytkiijeobadlnnaa
open Go.RowKit
set_option linter.unusedVariables false

def kindsL : List Kd := [(0, 6, 4), (1, 4, 1), (2, 12, 1), (3, 2, 2), (4, 0, 8), (5, 1, 0)]
def hapB (st rd : Int) (md : Bool) (q : Int) : Bool :=
  if q = 6 then bits .and .i64 st 14 != 0 else if q = 4 then rd == 1 else if q = 12 then rd == 2 else if q = 2 then bits .and .i64 st 32 != 0 else if q = 0 then md else false
def onB (st rd : Int) (md : Bool) (en : Int) (z : Kd) : Bool := (bits .and .i64 en z.2.2 != 0) && hapB st rd md z.2.1
def firstV : List Kd → Int
  | [] => 1
  | z :: _ => z.2.1
def irqV (st rd : Int) (md : Bool) (en : Int) : Int := firstV (kindsL.filter (onB st rd md en))
theorem hap_any (q st rd : Int) (md : Bool) (w : World) (hq : q = 6 ∨ q = 4 ∨ q = 12 ∨ q = 2 ∨ q = 0) :
    Calls Try.prog 12 #[.int .i64 q, .int .i64 st, .int .i64 rd, .bool md] w fun e w' => e = .returned (.bool (hapB st rd md q)) ∧ w = w' := by
  rcases hq with rfl | rfl | rfl | rfl | rfl
  all_goals
    go_enter Try.func12, Try.ntmps12
    go_wp2
    go_ret
    exact ⟨rfl, rfl⟩
theorem num_of (x y z : Int) (w : World) : (Instr.field 34 (.agg #[.int .i64 x, .int .i64 y, .int .i64 z]) 1).run Try.prog w = .ok (.int .i64 y) w := by kernel_rfl
theorem len_z (s : Option Addr) (c : Nat) (w : World) : Calls Try.prog 14 #[.slice s 0 c] w fun e w' => e = .returned (.int .i64 0) ∧ w = w' := by
  go_enter Try.func14, Try.ntmps14
  go_wp2
  go_ret
  exact ⟨rfl, rfl⟩
theorem low_filter {l : List Kd} {f : Kd → Bool} {x : Int} (h : ∀ z ∈ l, z.1 ≤ x) : ∀ i, i < (l.filter f).length → ((l.filter f).getD i k0).1 ≤ x := by
  intro i hi
  rw [List.getD_eq_getElem?_getD, List.getElem?_eq_getElem hi]
  exact h _ (List.mem_filter.1 (List.getElem_mem hi)).1
theorem Owk.new {w : World} {base g : Nat} (hb : base ≤ g) (b : Bk w g 34 #[]) : Owk w base g 0 0 [] :=
  ⟨by simp [kflat], .inr ⟨g, 0, #[], rfl, hb, b, Nat.le_refl _, by simp [maxLen], by simp, by simp [kflat]⟩⟩
theorem step_no {w : World} {base p : Nat} {f : Kd → Bool} {l : List Kd} {z : Kd} (h : Hp w base p (l.filter f)) (hf : f z = false) : Hp w base p ((l ++ [z]).filter f) := by
  rw [List.filter_append]; simpa [hf] using h
theorem step_yes {w : World} {base p : Nat} {f : Kd → Bool} {l : List Kd} {z : Kd} (h : Hp w base p (l.filter f ++ [z])) (hf : f z = true) : Hp w base p ((l ++ [z]).filter f) := by
  rw [List.filter_append]; simpa [hf] using h
theorem Hp.below {w w' : World} {base p : Nat} {zs : List Kd} (h : Hp w base p zs) (k : Below w.heap.size w w') : Hp w' base p zs := by
  obtain ⟨g, cap, b, o, hp⟩ := h
  exact ⟨g, cap, b.belowAll k, World.ownsRow.kept (row := none) o ⟨k.os, k.tape, k.output, k.size, fun i h2 _ => k.block i h2⟩ (.inr (by simp [Value.ownBlock])), hp⟩
theorem Hp.alloc {w : World} {base p : Nat} {zs : List Kd} (h : Hp w base p zs) (o : Obj) : Hp (w.alloc o) base p zs := h.below ((Below.refl _ _).alloc (Nat.le_refl _) o)
theorem and_zero {en : Int} (h0 : 0 ≤ en) (h1 : en ≤ 15) : bits .and .i64 en 0 = 0 := by
  obtain ⟨n, rfl⟩ := Int.eq_ofNat_of_zero_le h0
  have hn : n < 16 := by omega
  revert hn
  clear h0 h1
  revert n
  decide +kernel
/-- What holds at a round's head. -/
def Rnd (w : World) (st rd : Int) (md : Bool) (en k : Int) (wr : World) : Prop :=
  Hp wr w.heap.size (w.heap.size + 1) ((kindsL.take k.toNat).filter (onB st rd md en)) ∧ Below w.heap.size w wr
set_option maxHeartbeats 4000000 in
theorem irqOf_yes (st rd en : Int) (md : Bool) (w : World) (s0 : 0 ≤ st) (s1 : st ≤ 127) (r0 : 0 ≤ rd) (r1 : rd ≤ 2) (n0 : 0 ≤ en) (n1 : en ≤ 15) :
    Calls Try.prog 7 #[.int .i64 st, .int .i64 rd, .bool md, .int .i64 en] w fun e w' => e = .returned (.int .i64 (irqV st rd md en)) ∧ Below w.heap.size w w' := by
  have i0 := fun w => (kind_at w).1
  have i1 := fun w => (kind_at w).2.1
  have i2 := fun w => (kind_at w).2.2.1
  have i3 := fun w => (kind_at w).2.2.2.1
  have i4 := fun w => (kind_at w).2.2.2.2.1
  have i5 := fun w => (kind_at w).2.2.2.2.2
  have hta := as_kind
  have hfd := num_of
  go_enter Try.func7, Try.ntmps7
  go_wp2_with (go_at_call 11; refine (kinds_any _).mono ?_; rintro e w' ⟨rfl, rfl⟩)
  have HS := hide (show Rnd w st rd md en 0 (((w.alloc (.cells #[] 34)).alloc (.cells #[.slice (some ⟨w.heap.size, 0, none⟩) 0 0] 32)).alloc (.cells kindsV 35)) from
    ⟨⟨w.heap.size, 0, by simpa using (Bk.new (w.alloc (.cells #[] 34)) 32 #[.slice (some ⟨w.heap.size, 0, none⟩) 0 0]).alloc (.cells kindsV 35), ((Owk.new (Nat.le_refl _) (Bk.new w 34 #[])).alloc _).alloc _, by omega⟩, (((Below.refl _ _).alloc (Nat.le_refl _) _).alloc (by simp) _).alloc (by simp; omega) _⟩)
  go_loopw [37] (fun i wr => ∃ k : Int, i = .int .i64 k ∧ 0 ≤ k ∧ k ≤ 6 ∧ Rnd w st rd md en k wr) (fun i _ => 6 - (intOf i).toNat)
  case atStart => exact ⟨0, rfl, by omega, by omega, HS.out⟩
  case round =>
    clear HS
    obtain ⟨k, rfl, hk0, hk6, hr, hb⟩ := hrel
    have RK := hide hb
    have RH := hide hr
    clear hb hr
    by_cases hlt : k < 6
    · obtain rfl | rfl | rfl | rfl | rfl | rfl : k = 0 ∨ k = 1 ∨ k = 2 ∨ k = 3 ∨ k = 4 ∨ k = 5 := by omega
      · have HT := hide (show kindsL.take (0 + 1 : Int).toNat = kindsL.take (0 : Int).toNat ++ [(0, 6, 4)] from rfl)
        cases hb : (bits .and .i64 en 4 != 0)
        · have HF := hide (show onB st rd md en (0, 6, 4) = false by simp only [onB, hb, Bool.false_and])
          go_wp2
          go_roundw
          case rel => exact ⟨0 + 1, rfl, by omega, by omega, by rw [HT.out]; exact step_no (RH.out.alloc _) HF.out, RK.out.alloc RK.out.size _⟩
          case measure => simp [intOf]
        · cases hh : hapB st rd md 6
          · have HF := hide (show onB st rd md en (0, 6, 4) = false by simp only [onB, hh, Bool.and_false])
            have HH := hide hh
            clear hh
            go_wp2_with fail
            refine (hap_any 6 st rd md _ (by omega)).mono ?_
            rintro e w' ⟨rfl, rfl⟩
            rw [HH.out]
            go_wp2
            go_roundw
            case rel => exact ⟨0 + 1, rfl, by omega, by omega, by rw [HT.out]; exact step_no (RH.out.alloc _) HF.out, RK.out.alloc RK.out.size _⟩
            case measure => simp [intOf]
          · have HF := hide (show onB st rd md en (0, 6, 4) = true by simp only [onB, hb, hh, Bool.and_true])
            have HH := hide hh
            clear hh
            go_wp2_with fail
            refine (hap_any 6 st rd md _ (by omega)).mono ?_
            rintro e w' ⟨rfl, rfl⟩
            rw [HH.out]
            go_wp2_with fail
            refine (push_h (w.heap.size + 1) w.heap.size _ 0 6 4 _ (RH.out.alloc _) (Nat.le_trans (List.length_filter_le _ _) (by decide)) (low_filter (by decide))).mono ?_
            rintro e w5 ⟨rfl, h5, k5⟩
            have H5 := hide h5
            have K5 := hide ((RK.out.alloc RK.out.size _).trans k5)
            clear h5 k5
            go_wp2
            go_roundw
            case rel => exact ⟨0 + 1, rfl, by omega, by omega, by rw [HT.out]; exact step_yes H5.out HF.out, K5.out⟩
            case measure => simp [intOf]
      · have HT := hide (show kindsL.take (1 + 1 : Int).toNat = kindsL.take (1 : Int).toNat ++ [(1, 4, 1)] from rfl)
        cases hb : (bits .and .i64 en 1 != 0)
        · have HF := hide (show onB st rd md en (1, 4, 1) = false by simp only [onB, hb, Bool.false_and])
          go_wp2
          go_roundw
          case rel => exact ⟨1 + 1, rfl, by omega, by omega, by rw [HT.out]; exact step_no (RH.out.alloc _) HF.out, RK.out.alloc RK.out.size _⟩
          case measure => simp [intOf]
        · cases hh : hapB st rd md 4
          · have HF := hide (show onB st rd md en (1, 4, 1) = false by simp only [onB, hh, Bool.and_false])
            have HH := hide hh
            clear hh
            go_wp2_with fail
            refine (hap_any 4 st rd md _ (by omega)).mono ?_
            rintro e w' ⟨rfl, rfl⟩
            rw [HH.out]
            go_wp2
            go_roundw
            case rel => exact ⟨1 + 1, rfl, by omega, by omega, by rw [HT.out]; exact step_no (RH.out.alloc _) HF.out, RK.out.alloc RK.out.size _⟩
            case measure => simp [intOf]
          · have HF := hide (show onB st rd md en (1, 4, 1) = true by simp only [onB, hb, hh, Bool.and_true])
            have HH := hide hh
            clear hh
            go_wp2_with fail
            refine (hap_any 4 st rd md _ (by omega)).mono ?_
            rintro e w' ⟨rfl, rfl⟩
            rw [HH.out]
            go_wp2_with fail
            refine (push_h (w.heap.size + 1) w.heap.size _ 1 4 1 _ (RH.out.alloc _) (Nat.le_trans (List.length_filter_le _ _) (by decide)) (low_filter (by decide))).mono ?_
            rintro e w5 ⟨rfl, h5, k5⟩
            have H5 := hide h5
            have K5 := hide ((RK.out.alloc RK.out.size _).trans k5)
            clear h5 k5
            go_wp2
            go_roundw
            case rel => exact ⟨1 + 1, rfl, by omega, by omega, by rw [HT.out]; exact step_yes H5.out HF.out, K5.out⟩
            case measure => simp [intOf]
      · have HT := hide (show kindsL.take (2 + 1 : Int).toNat = kindsL.take (2 : Int).toNat ++ [(2, 12, 1)] from rfl)
        cases hb : (bits .and .i64 en 1 != 0)
        · have HF := hide (show onB st rd md en (2, 12, 1) = false by simp only [onB, hb, Bool.false_and])
          go_wp2
          go_roundw
          case rel => exact ⟨2 + 1, rfl, by omega, by omega, by rw [HT.out]; exact step_no (RH.out.alloc _) HF.out, RK.out.alloc RK.out.size _⟩
          case measure => simp [intOf]
        · cases hh : hapB st rd md 12
          · have HF := hide (show onB st rd md en (2, 12, 1) = false by simp only [onB, hh, Bool.and_false])
            have HH := hide hh
            clear hh
            go_wp2_with fail
            refine (hap_any 12 st rd md _ (by omega)).mono ?_
            rintro e w' ⟨rfl, rfl⟩
            rw [HH.out]
            go_wp2
            go_roundw
            case rel => exact ⟨2 + 1, rfl, by omega, by omega, by rw [HT.out]; exact step_no (RH.out.alloc _) HF.out, RK.out.alloc RK.out.size _⟩
            case measure => simp [intOf]
          · have HF := hide (show onB st rd md en (2, 12, 1) = true by simp only [onB, hb, hh, Bool.and_true])
            have HH := hide hh
            clear hh
            go_wp2_with fail
            refine (hap_any 12 st rd md _ (by omega)).mono ?_
            rintro e w' ⟨rfl, rfl⟩
            rw [HH.out]
            go_wp2_with fail
            refine (push_h (w.heap.size + 1) w.heap.size _ 2 12 1 _ (RH.out.alloc _) (Nat.le_trans (List.length_filter_le _ _) (by decide)) (low_filter (by decide))).mono ?_
            rintro e w5 ⟨rfl, h5, k5⟩
            have H5 := hide h5
            have K5 := hide ((RK.out.alloc RK.out.size _).trans k5)
            clear h5 k5
            go_wp2
            go_roundw
            case rel => exact ⟨2 + 1, rfl, by omega, by omega, by rw [HT.out]; exact step_yes H5.out HF.out, K5.out⟩
            case measure => simp [intOf]
      · have HT := hide (show kindsL.take (3 + 1 : Int).toNat = kindsL.take (3 : Int).toNat ++ [(3, 2, 2)] from rfl)
        cases hb : (bits .and .i64 en 2 != 0)
        · have HF := hide (show onB st rd md en (3, 2, 2) = false by simp only [onB, hb, Bool.false_and])
          go_wp2
          go_roundw
          case rel => exact ⟨3 + 1, rfl, by omega, by omega, by rw [HT.out]; exact step_no (RH.out.alloc _) HF.out, RK.out.alloc RK.out.size _⟩
          case measure => simp [intOf]
        · cases hh : hapB st rd md 2
          · have HF := hide (show onB st rd md en (3, 2, 2) = false by simp only [onB, hh, Bool.and_false])
            have HH := hide hh
            clear hh
            go_wp2_with fail
            refine (hap_any 2 st rd md _ (by omega)).mono ?_
            rintro e w' ⟨rfl, rfl⟩
            rw [HH.out]
            go_wp2
            go_roundw
            case rel => exact ⟨3 + 1, rfl, by omega, by omega, by rw [HT.out]; exact step_no (RH.out.alloc _) HF.out, RK.out.alloc RK.out.size _⟩
            case measure => simp [intOf]
          · have HF := hide (show onB st rd md en (3, 2, 2) = true by simp only [onB, hb, hh, Bool.and_true])
            have HH := hide hh
            clear hh
            go_wp2_with fail
            refine (hap_any 2 st rd md _ (by omega)).mono ?_
            rintro e w' ⟨rfl, rfl⟩
            rw [HH.out]
            go_wp2_with fail
            refine (push_h (w.heap.size + 1) w.heap.size _ 3 2 2 _ (RH.out.alloc _) (Nat.le_trans (List.length_filter_le _ _) (by decide)) (low_filter (by decide))).mono ?_
            rintro e w5 ⟨rfl, h5, k5⟩
            have H5 := hide h5
            have K5 := hide ((RK.out.alloc RK.out.size _).trans k5)
            clear h5 k5
            go_wp2
            go_roundw
            case rel => exact ⟨3 + 1, rfl, by omega, by omega, by rw [HT.out]; exact step_yes H5.out HF.out, K5.out⟩
            case measure => simp [intOf]
      · have HT := hide (show kindsL.take (4 + 1 : Int).toNat = kindsL.take (4 : Int).toNat ++ [(4, 0, 8)] from rfl)
        cases hb : (bits .and .i64 en 8 != 0)
        · have HF := hide (show onB st rd md en (4, 0, 8) = false by simp only [onB, hb, Bool.false_and])
          go_wp2
          go_roundw
          case rel => exact ⟨4 + 1, rfl, by omega, by omega, by rw [HT.out]; exact step_no (RH.out.alloc _) HF.out, RK.out.alloc RK.out.size _⟩
          case measure => simp [intOf]
        · cases hh : hapB st rd md 0
          · have HF := hide (show onB st rd md en (4, 0, 8) = false by simp only [onB, hh, Bool.and_false])
            have HH := hide hh
            clear hh
            go_wp2_with fail
            refine (hap_any 0 st rd md _ (by omega)).mono ?_
            rintro e w' ⟨rfl, rfl⟩
            rw [HH.out]
            go_wp2
            go_roundw
            case rel => exact ⟨4 + 1, rfl, by omega, by omega, by rw [HT.out]; exact step_no (RH.out.alloc _) HF.out, RK.out.alloc RK.out.size _⟩
            case measure => simp [intOf]
          · have HF := hide (show onB st rd md en (4, 0, 8) = true by simp only [onB, hb, hh, Bool.and_true])
            have HH := hide hh
            clear hh
            go_wp2_with fail
            refine (hap_any 0 st rd md _ (by omega)).mono ?_
            rintro e w' ⟨rfl, rfl⟩
            rw [HH.out]
            go_wp2_with fail
            refine (push_h (w.heap.size + 1) w.heap.size _ 4 0 8 _ (RH.out.alloc _) (Nat.le_trans (List.length_filter_le _ _) (by decide)) (low_filter (by decide))).mono ?_
            rintro e w5 ⟨rfl, h5, k5⟩
            have H5 := hide h5
            have K5 := hide ((RK.out.alloc RK.out.size _).trans k5)
            clear h5 k5
            go_wp2
            go_roundw
            case rel => exact ⟨4 + 1, rfl, by omega, by omega, by rw [HT.out]; exact step_yes H5.out HF.out, K5.out⟩
            case measure => simp [intOf]
      · have HT := hide (show kindsL.take (5 + 1 : Int).toNat = kindsL.take (5 : Int).toNat ++ [(5, 1, 0)] from rfl)
        have hb := and_zero n0 n1
        have HF := hide (show onB st rd md en (5, 1, 0) = false by simp only [onB, hb]; rfl)
        go_wp2
        go_roundw
        case rel => exact ⟨5 + 1, rfl, by omega, by omega, by rw [HT.out]; exact step_no (RH.out.alloc _) HF.out, RK.out.alloc RK.out.size _⟩
        case measure => simp [intOf]
    · obtain rfl : k = 6 := by omega
      clear hlt
      have HT : kindsL.take (6 : Int).toNat = kindsL := rfl
      have RF := RH.out
      rw [HT] at RF
      clear RH HT
      have hlen : (kindsL.filter (onB st rd md en)).length ≤ 6 := List.length_filter_le _ _
      cases hL : kindsL.filter (onB st rd md en) with
      | nil =>
        have HV := hide (show irqV st rd md en = 1 by unfold irqV; rw [hL]; rfl)
        rw [hL] at RF
        clear hL hlen
        obtain ⟨g, cap, b, o, hp⟩ := RF
        have q := cell_0 b
        rw [List.length_nil] at q
        clear b o
        go_wp2_with (go_at_call 14; refine (len_z _ _ _).mono ?_; rintro e w' ⟨rfl, rfl⟩)
        go_ret
        exact ⟨by rw [HV.out]; rfl, RK.out⟩
      | cons z zs =>
        have HV := hide (show irqV st rd md en = z.2.1 by unfold irqV; rw [hL]; rfl)
        rw [hL] at RF hlen
        clear hL
        have HP := hide RF
        obtain ⟨g, cap, b, o, hp⟩ := RF
        have q := cell_0 b
        clear b o
        have hz : zs.length ≤ 5 := by simp at hlen; omega
        have HZ := hide hz
        rw [List.length_cons] at q
        clear hlen hz
        generalize hn : zs.length = n at q
        have hn5 : n ≤ 5 := by have := HZ.out; omega
        have hn0 : (0 : Int) ≤ (n : Int) := by omega
        have hn9 : (n : Int) ≤ 5 := by omega
        clear hn
        go_wp2_with (go_at_call 14; refine (len_m _ _ _ _ (by omega)).mono ?_; rintro e w' ⟨rfl, rfl⟩)
        refine (pop_h _ _ z zs _ HP.out (by have := HZ.out; omega)).mono ?_
        rintro e w5 ⟨rfl, k5⟩
        have K := RK.out.trans k5
        go_wp2
        go_ret
        exact ⟨by rw [HV.out]; rfl, K⟩
def irqG (st rd en : Int) : Bool := decide (0 ≤ st) && decide (st ≤ 127) && decide (0 ≤ rd) && decide (rd ≤ 2) && decide (0 ≤ en) && decide (en ≤ 15)
def irqR (st rd : Int) (md : Bool) (en : Int) : Int := if irqG st rd en = true then irqV st rd md en else 1
theorem irqOf_no (st rd en : Int) (md : Bool) (w : World) (h : irqG st rd en = false) :
    Calls Try.prog 7 #[.int .i64 st, .int .i64 rd, .bool md, .int .i64 en] w fun e w' => e = .returned (.int .i64 1) ∧ w = w' := by
  have hc : st < 0 ∨ 0 ≤ st ∧ 127 < st ∨ (0 ≤ st ∧ st ≤ 127) ∧ rd < 0 ∨ (0 ≤ st ∧ st ≤ 127) ∧ 0 ≤ rd ∧ 2 < rd ∨ ((0 ≤ st ∧ st ≤ 127) ∧ 0 ≤ rd ∧ rd ≤ 2) ∧ en < 0 ∨ ((0 ≤ st ∧ st ≤ 127) ∧ 0 ≤ rd ∧ rd ≤ 2) ∧ 0 ≤ en ∧ 15 < en := by simp [irqG] at h; omega
  clear h
  rcases hc with h | ⟨h0, h1⟩ | ⟨⟨h0, h1⟩, h2⟩ | ⟨⟨h0, h1⟩, h2, h3⟩ | ⟨⟨⟨h0, h1⟩, h2, h3⟩, h4⟩ | ⟨⟨⟨h0, h1⟩, h2, h3⟩, h4, h5⟩
  all_goals
    go_enter Try.func7, Try.ntmps7
    go_wp2
    go_ret
    exact ⟨rfl, rfl⟩
theorem irqOf_any (st rd en : Int) (md : Bool) (w : World) :
    Calls Try.prog 7 #[.int .i64 st, .int .i64 rd, .bool md, .int .i64 en] w fun e w' => e = .returned (.int .i64 (irqR st rd md en)) ∧ Below w.heap.size w w' := by
  unfold irqR
  cases h : irqG st rd en
  · refine (irqOf_no st rd en md w h).mono ?_
    rintro e w' ⟨rfl, rfl⟩
    exact ⟨rfl, Below.refl _ _⟩
  · simp [irqG] at h
    exact irqOf_yes st rd en md w (by omega) (by omega) (by omega) (by omega) (by omega) (by omega)
theorem bit_any (n b : Int) (w : World) (hb : b = 1 ∨ b = 2 ∨ b = 4 ∨ b = 8 ∨ b = 32) (h0 : 0 ≤ n) (h1 : n ≤ 1000) :
    Calls Try.prog 10 #[.int .i64 n, .int .i64 b] w fun e w' => e = .returned (.bool (n / b % 2 == 1)) ∧ w = w' := by
  rcases hb with rfl | rfl | rfl | rfl | rfl
  all_goals
    go_enter Try.func10, Try.ntmps10
    go_wp2
    go_ret
    exact ⟨by simp, rfl⟩
theorem bits_en {n : Int} (h0 : 0 ≤ n) (h1 : n ≤ 15) : (bits .and .i64 n 4 != 0) = (n / 4 % 2 == 1) ∧ (bits .and .i64 n 1 != 0) = (n % 2 == 1) ∧ (bits .and .i64 n 2 != 0) = (n / 2 % 2 == 1) ∧ (bits .and .i64 n 8 != 0) = (n / 8 % 2 == 1) ∧ (bits .and .i64 n 0 != 0) = false := by
  obtain ⟨m, rfl⟩ := Int.eq_ofNat_of_zero_le h0
  have hm : m < 16 := by omega
  revert hm
  clear h0 h1
  revert m
  decide +kernel
theorem bits_st {n : Int} (h0 : 0 ≤ n) (h1 : n ≤ 127) : (bits .and .i64 n 14 != 0) = decide (2 ≤ n % 16) ∧ (bits .and .i64 n 32 != 0) = (n / 32 % 2 == 1) := by
  obtain ⟨m, rfl⟩ := Int.eq_ofNat_of_zero_le h0
  have hm : m < 128 := by omega
  revert hm
  clear h0 h1
  revert m
  decide +kernel
/-- What the reference reckons. -/
def irqS (st rd : Int) (md : Bool) (en : Int) : Int :=
  if (en / 4 % 2 == 1) && decide (2 ≤ st % 16) then 6 else if (en % 2 == 1) && rd == 1 then 4 else if (en % 2 == 1) && rd == 2 then 12 else
    if (en / 2 % 2 == 1) && (st / 32 % 2 == 1) then 2 else if (en / 8 % 2 == 1) && md then 0 else 1
theorem irqV_eq {st rd en : Int} {md : Bool} (s0 : 0 ≤ st) (s1 : st ≤ 127) (n0 : 0 ≤ en) (n1 : en ≤ 15) : irqV st rd md en = irqS st rd md en := by
  obtain ⟨e1, e2, e3, e4, e5⟩ := bits_en n0 n1
  obtain ⟨t1, t2⟩ := bits_st s0 s1
  have a1 : onB st rd md en (0, 6, 4) = ((en / 4 % 2 == 1) && decide (2 ≤ st % 16)) := by simp only [onB, e1, ← t1]; rfl
  have a2 : onB st rd md en (1, 4, 1) = ((en % 2 == 1) && rd == 1) := by simp only [onB, e2]; rfl
  have a3 : onB st rd md en (2, 12, 1) = ((en % 2 == 1) && rd == 2) := by simp only [onB, e2]; rfl
  have a4 : onB st rd md en (3, 2, 2) = ((en / 2 % 2 == 1) && (st / 32 % 2 == 1)) := by simp only [onB, e3, ← t2]; rfl
  have a5 : onB st rd md en (4, 0, 8) = ((en / 8 % 2 == 1) && md) := by simp only [onB, e4]; rfl
  have a6 : onB st rd md en (5, 1, 0) = false := by simp only [onB, e5, Bool.false_and]
  unfold irqV irqS kindsL
  simp only [List.filter_cons, a1, a2, a3, a4, a5, a6]
  generalize ((en / 4 % 2 == 1) && decide (2 ≤ st % 16)) = b1
  generalize ((en % 2 == 1) && rd == 1) = b2
  generalize ((en % 2 == 1) && rd == 2) = b3
  generalize ((en / 2 % 2 == 1) && (st / 32 % 2 == 1)) = b4
  generalize ((en / 8 % 2 == 1) && md) = b5
  cases b1 <;> cases b2 <;> cases b3 <;> cases b4 <;> cases b5 <;> rfl
end Go.Proofs.Ytkiijeobadlnnaa
