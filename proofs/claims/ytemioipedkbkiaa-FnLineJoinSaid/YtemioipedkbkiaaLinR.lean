/-
  Walks of the two functions that read all bytes of samples. Each contract says what the function returns for what the slice reads as, and that nothing that was there has turned.
-/
import Derived.Test.YtemioipedkbkiaaLinY
import Derived.Test.YtemioipedkbkiaaOwnG
namespace Go.Proofs.Ytemioipedkbkiaa
open Go.RowKit
set_option linter.unusedVariables false

theorem rd_len {a b c : Int} {zs : List Int} (hL : 1 ≤ (flOf a b c).toNat) : (rd a b c zs 0).length ≤ zs.length + 1 := by
  rcases rd_count hL 0 (zs := zs) with e | e
  · omega
  · have : ((rd a b c zs 0).length - 1) * 1 ≤ ((rd a b c zs 0).length - 1) * (4 * (flOf a b c).toNat - 1) := Nat.mul_le_mul_left _ (by omega)
    omega
theorem sf_measure {zs : List Int} {k p n : Nat} (hl : zs.length = n) (hp : p < n) (hk : p < k) : (if intOf (.int .i64 (sf zs k)) < 0 then 0 else n + 1 - (intOf (.int .i64 (sf zs k))).toNat) < if intOf (.int .i64 (p : Int)) < 0 then 0 else n + 1 - (intOf (.int .i64 (p : Int))).toNat := by
  show (if sf zs k < 0 then 0 else n + 1 - (sf zs k).toNat) < if (p : Int) < 0 then 0 else n + 1 - (p : Int).toNat
  rw [if_neg (show ¬ (p : Int) < 0 by omega)]
  rcases sf_cases zs k with ⟨e, _⟩ | ⟨q, e, h1, h2, _⟩
  · rw [e, if_pos (by omega)]; simp; omega
  · rw [e, if_neg (by omega)]; simp; omega
/-- What LineRead returns. -/
def lrd (a b c : Int) (n : Nat) (zs : List Int) : List (Int × Int) := if fv a b c = true ∧ smp n zs = true then rd a b c zs 0 else []
def Lrd (a b c : Int) (n : Nat) (zs : List Int) (w : World) (e : Ending) (w' : World) : Prop :=
  ∃ (ad : Option Addr) (m cp : Nat), e = .returned (.slice ad m cp) ∧ Owg w' w.heap.size ad m cp (lrd a b c n zs) ∧ m ≤ 501 ∧ Below w.heap.size w w'
set_option maxRecDepth 100000 in
set_option maxHeartbeats 4000000 in
theorem iLr_any (a b c : Int) (x : Option Addr) (len cap : Nat) (zs : List Int) (w : World) (h : Sl w x len cap zs) :
    Calls Try.prog 20 #[.agg #[.int .i64 a, .int .i64 b, .int .i64 c], .slice x len cap] w (Lrd a b c len zs w) := by
  have HZ := hide h.1
  have K := hide ((Below.refl w.heap.size w).alloc (Nat.le_refl _) (.cells #[.int .i64 a, .int .i64 b, .int .i64 c] 27))
  have f := (Bk.new w 27 #[.int .i64 a, .int .i64 b, .int .i64 c])
  have hs := (h.alloc (.cells #[.int .i64 a, .int .i64 b, .int .i64 c] 27))
  have HSL := hide h
  clear h
  by_cases hv : fv a b c = true
  · have HV := hide hv
    by_cases hm : smp len zs = true
    · have HS := hide hm
      have E := hide (show lrd a b c len zs = rd a b c zs 0 by unfold lrd; rw [if_pos ⟨hv, hm⟩])
      have hl5 : len ≤ 500 := by simp [smp] at hm; exact hm.1
      obtain ⟨L, hL, h7, h12⟩ : ∃ L : Nat, flOf a b c = (L : Int) ∧ 7 ≤ L ∧ L ≤ 12 := ⟨(flOf a b c).toNat, by have := fl_bd hv; omega, by have := fl_bd hv; omega, by have := fl_bd hv; omega⟩
      have HRL := hide (rd_len (a := a) (b := b) (c := c) (zs := zs) (by rw [hL, Int.toNat_natCast]; omega))
      have HL := hide hL
      have hl5' : (len : Int) ≤ 500 := by omega
      clear hv hm hL
      go_enter Try.func20, Try.ntmps20
      go_wp2_with fail
      refine (ifv_any _ _ _ _).mono ?_
      rintro e w1 ⟨rfl, k1⟩
      rw [HV.out]
      have f := f.belowAll k1
      have hs := hs.below k1 (Nat.le_refl _)
      have K := hide (K.out.trans (k1.mono (by have := K.out.size; first | exact this | simpa using this)))
      clear k1
      go_wp2_with fail
      refine (samplesValid_any _ _ _ zs _ hs).mono ?_
      rintro e w2 ⟨rfl, hw2⟩
      subst hw2
      rw [HS.out]
      go_wp2_with fail
      refine (startFrom_any _ _ _ zs _ _ hs (by omega) (by omega)).mono ?_
      rintro e w2 ⟨rfl, hw2⟩
      subst hw2
      simp only [Int.toNat_zero]
      go_wp2
      go_loopw [5, 6] (fun v i wr => ∃ (ad : Option Addr) (m cp k : Nat) (acc : List (Int × Int)), v = .slice ad m cp ∧ i = .int .i64 (sf zs k) ∧ Owg wr (w.heap.size + 1) ad m cp acc ∧ acc ++ rd a b c zs k = rd a b c zs 0 ∧ Bk wr w.heap.size 27 #[.int .i64 a, .int .i64 b, .int .i64 c] ∧ Below w.heap.size w wr) (fun _ i _ => if intOf i < 0 then 0 else len + 1 - (intOf i).toNat)
      case atStart => exact ⟨_, 0, 0, 0, [], rfl, rfl, Owg.nil_ _ _, rfl, f, K.out⟩
      case round =>
        clear f K hs
        obtain ⟨ad, m, cp, k, acc, rfl, rfl, o, hacc, f, K⟩ := hrel
        have HK := hide K
        have hacc2 := congrArg List.length hacc
        rw [List.length_append, o.len] at hacc2
        have hm5 : m ≤ 501 := by have := HRL.out; have := HZ.out; omega
        have HACC := hide hacc
        clear K hacc hacc2
        by_cases hneg : sf zs k < 0
        · have hr := rd_none (a := a) (b := b) (c := c) (show sf zs k = -1 by rcases sf_cases zs k with ⟨e, _⟩ | ⟨p, e, _⟩ <;> omega)
          have HE := hide (show acc = lrd a b c len zs by have := HACC.out; rw [hr, List.append_nil] at this; rw [E.out, this])
          have hge : ¬ 0 ≤ sf zs k := by omega
          clear hr
          go_wp2
          go_ret
          exact ⟨ad, m, cp, rfl, by rw [← HE.out]; exact o.le_ (by omega), hm5, HK.out⟩
        · obtain ⟨p, hp⟩ := Int.eq_ofNat_of_zero_le (show 0 ≤ sf zs k by omega)
          obtain ⟨hpl, hpz, hkp, hrd⟩ := rd_some (a := a) (b := b) (c := c) hp
          have HPL := hide hpl
          have HPZ := hide hpz
          have HRD := hide hrd
          have hpl' : p < len := by rw [← HZ.out]; exact hpl
          rw [hp]
          have hp0 : (0 : Int) ≤ (p : Int) := by omega
          have hp5 : (p : Int) < 500 := by omega
          have q := f.cell
          have hs := HSL.out.below HK.out (Nat.le_refl _)
          clear hneg hp hpl hpz hrd
          go_wp2_with fail
          refine (iba_any _ _ _ _ _ _ zs p _ hs HV.out hpl' hl5).mono ?_
          rintro e w6 ⟨rfl, k6⟩
          obtain ⟨V, hV⟩ : ∃ V, byv a b c zs p = V := ⟨_, rfl⟩
          obtain ⟨C, hC⟩ : ∃ C, byc a b c zs p = C := ⟨_, rfl⟩
          rw [hV, hC]
          have HVE := hide hV
          have HCE := hide hC
          have f6 := f.belowAll k6
          have lf6 := f6.lt
          have o6 := o.belowAll k6
          have HK6 := hide (HK.out.trans (k6.mono HK.out.size))
          have fA := f6.alloc (.cells #[.int .i64 V, .int .i64 C] 43)
          have oA := o6.alloc (.cells #[.int .i64 V, .int .i64 C] 43)
          have HKA := hide (HK6.out.alloc HK6.out.size (.cells #[.int .i64 V, .int .i64 C] 43))
          have hsA := HSL.out.below HKA.out (Nat.le_refl _)
          clear hV hC k6 q f o hs
          have q6 := f6.cell
          by_cases h3 : C = 3
          · have h3' : (C == 3) = true := by simpa using h3
            have HB := hide (rd_bad HPL.out HPZ.out (by rw [HCE.out]; exact h3) (a := a) (b := b) (c := c))
            clear h3
            go_wp2_with fail
            refine (startFrom_any _ _ _ zs _ _ hsA (by omega) (by omega)).mono ?_
            rintro e w7 ⟨rfl, hw7⟩
            subst hw7
            rw [show ((p : Int) + 1).toNat = p + 1 by omega]
            go_wp2
            go_roundw
            case rel => exact ⟨ad, m, cp, p + 1, acc, rfl, rfl, oA, by rw [← HB.out, ← HRD.out]; exact HACC.out, fA, HKA.out⟩
            case measure => exact sf_measure HZ.out hpl' (by omega)
          · have h3' : (C == 3) = false := by simpa using h3
            have HB := hide (rd_got HPL.out HPZ.out (by rw [HCE.out]; exact h3) (by rw [HL.out, Int.toNat_natCast]; omega) (a := a) (b := b) (c := c))
            clear h3
            go_wp2_with (first | (refine app_got rfl (.tmp 30) (.tmp 32) rfl rfl rfl (oA.alloc _) (by have := Bk.new (w6.alloc (.cells #[.int .i64 V, .int .i64 C] 43)) 43 #[.int .i64 V, .int .i64 C]; simpa using this) (by omega) (by simp; omega) ?_; intro g9 cp9 w9 o9 k9; have f9 := Bk.grow (fA.alloc (.cells #[.int .i64 V, .int .i64 C] 43)) k9 (fun e => by have := (oA.row _ e).1; omega); have HK9 := hide ((HKA.out.alloc HKA.out.size (.cells #[.int .i64 V, .int .i64 C] 43)).trans (grown_below2 k9 (fun r hr => by have := (oA.row r hr).1; omega) (by have := HKA.out.size; simp at this ⊢; omega))); clear k9 q6; have q9 := f9.cell; have tok := True.intro) | (go_at_call 35; refine (lastRead_any _ _ _ p L _ HL.out h7 h12 (by omega)).mono ?_; rintro e w10 ⟨rfl, k10⟩; have f10 := f9.belowAll k10; have o10 := o9.belowAll k10; have HK10 := hide (HK9.out.trans (k10.mono HK9.out.size)); have hs10 := HSL.out.below HK10.out (Nat.le_refl _); clear k10 q9) | (go_at_call 33; refine (startFrom_any _ _ _ zs _ _ hs10 (by omega) (by omega)).mono ?_; rintro e w7 ⟨rfl, hw7⟩; subst hw7; rw [show ((p : Int) + 4 * ((L : Int) - 1) + 2 + 1).toNat = p + 4 * L - 1 by omega]))
            go_roundw
            case rel => exact ⟨_, _, _, p + 4 * L - 1, acc ++ [(V, C)], rfl, rfl, o10, by have := HB.out; rw [HVE.out, HCE.out, HL.out, Int.toNat_natCast] at this; rw [List.append_assoc, List.singleton_append, ← this, ← HRD.out]; exact HACC.out, f10, HK10.out⟩
            case measure => exact sf_measure HZ.out hpl' (by omega)
    · have E := hide (show lrd a b c len zs = [] by unfold lrd; rw [if_neg (fun h => hm h.2)])
      have HS := hide (show smp len zs = false by simpa using hm)
      clear hv hm
      go_enter Try.func20, Try.ntmps20
      go_wp2_with fail
      refine (ifv_any _ _ _ _).mono ?_
      rintro e w1 ⟨rfl, k1⟩
      rw [HV.out]
      have f := f.belowAll k1
      have hs := hs.below k1 (Nat.le_refl _)
      have K := hide (K.out.trans (k1.mono (by have := K.out.size; first | exact this | simpa using this)))
      clear k1
      go_wp2_with fail
      refine (samplesValid_any _ _ _ zs _ hs).mono ?_
      rintro e w2 ⟨rfl, hw2⟩
      subst hw2
      rw [HS.out]
      go_wp2
      go_ret
      exact ⟨none, 0, 0, rfl, by rw [E.out]; exact Owg.nil_ _ _, by omega, K.out⟩
  · have E := hide (show lrd a b c len zs = [] by unfold lrd; rw [if_neg (fun h => hv h.1)])
    have HV := hide (show fv a b c = false by simpa using hv)
    clear hv
    go_enter Try.func20, Try.ntmps20
    go_wp2_with fail
    refine (ifv_any _ _ _ _).mono ?_
    rintro e w1 ⟨rfl, k1⟩
    rw [HV.out]
    have f := f.belowAll k1
    have hs := hs.below k1 (Nat.le_refl _)
    have K := hide (K.out.trans (k1.mono (by have := K.out.size; first | exact this | simpa using this)))
    clear k1
    go_wp2
    go_ret
    exact ⟨none, 0, 0, rfl, by rw [E.out]; exact Owg.nil_ _ _, by omega, K.out⟩
end Go.Proofs.Ytemioipedkbkiaa
