/-
  The library's heap: down keeps what lies behind; pop hands back the first.
-/
import Derived.Test.YtkiijeobadlnnaaHepU
namespace Go.Proofs.Ytkiijeobadlnnaa
open Go.RowKit
set_option linter.unusedVariables false

theorem less_i (g n c : Nat) (i j : Int) (base : Nat) (zs : List Kd) (w : World) (o : Owk w base g n c zs) (hi0 : 0 ≤ i) (hi : i < n) (hj0 : 0 ≤ j) (hj : j < n) :
    Calls Try.prog 36 #[.slice (some ⟨g, 0, none⟩) n c, .int .i64 i, .int .i64 j] w fun e w' => ∃ b : Bool, e = .returned (.bool b) ∧ ∃ q, w' = w.drewN q := by
  obtain ⟨i, rfl⟩ := Int.eq_ofNat_of_zero_le hi0
  obtain ⟨j, rfl⟩ := Int.eq_ofNat_of_zero_le hj0
  exact (less_m g n c i j base zs w o (by omega) (by omega)).mono fun e w' ⟨h1, h2⟩ => ⟨_, h1, h2⟩
theorem swap_i (g n c : Nat) (i j : Int) (base : Nat) (zs : List Kd) (w : World) (o : Owk w base g n c zs) (hi0 : 0 ≤ i) (hi : i < n) (hj0 : 0 ≤ j) (hj : j < n) :
    Calls Try.prog 39 #[.slice (some ⟨g, 0, none⟩) n c, .int .i64 i, .int .i64 j] w fun e w' => e = .returned (.tuple #[]) ∧ ∃ ys, ys.length = zs.length ∧ (∀ k : Nat, ¬ (k : Int) = i → ¬ (k : Int) = j → ys.getD k k0 = zs.getD k k0) ∧ ys.getD j.toNat k0 = zs.getD i.toNat k0 ∧ Owk w' base g n c ys ∧ Just g w w' := by
  obtain ⟨i, rfl⟩ := Int.eq_ofNat_of_zero_le hi0
  obtain ⟨j, rfl⟩ := Int.eq_ofNat_of_zero_le hj0
  have hl := o.len
  refine (swap_m g n c i j base zs w o (by omega) (by omega)).mono fun e w' ⟨h1, h2, h3⟩ => ⟨h1, _, by simp, fun k hi hj => ?_, ?_, h2, h3⟩
  · rw [List.getD_eq_getElem?_getD, List.getElem?_set_ne (by omega), List.getElem?_set_ne (by omega), ← List.getD_eq_getElem?_getD]
  · simp only [Int.toNat_natCast]
    rw [List.getD_eq_getElem?_getD, List.getElem?_set_self (by simp; omega)]
    rfl
/-- What down leaves: the heap has as many as before, and from n on it is as it was. -/
def Dn (p base n : Nat) (zs : List Kd) (w w' : World) : Prop :=
  ∃ ys : List Kd, ys.length = zs.length ∧ (∀ k, n ≤ k → ys.getD k k0 = zs.getD k k0) ∧ Hp w' base p ys ∧ Below base w w'
def DnE (p base n : Nat) (zs : List Kd) (w : World) (e : Ending) (w' : World) : Prop := ∃ b : Bool, e = .returned (.bool b) ∧ Dn p base n zs w w'
theorem dn_step {p base n g cap : Nat} {zs ys xs : List Kd} {w wr w' : World} {q : Nat} (hl : ys.length = zs.length) (ha : ∀ k, n ≤ k → ys.getD k k0 = zs.getD k k0) (hb : Below base w wr) (b : Bk wr p 32 #[.slice (some ⟨g, 0, none⟩) ys.length cap]) (hp : base ≤ p) (hg : base ≤ g) (hne : g ≠ p)
    (hx : xs.length = ys.length) {i j : Int} (hi : i < n) (hj : j < n) (hs : ∀ k : Nat, ¬ (k : Int) = i → ¬ (k : Int) = j → xs.getD k k0 = ys.getD k k0) (o : Owk w' base g ys.length cap xs) (h : Just g (wr.drewN q) w') : Dn p base n zs w w' :=
  ⟨xs, by rw [hx, hl], fun k hk => by rw [hs k (by omega) (by omega)]; exact ha k hk, ⟨g, cap, by rw [hx]; exact (b.drewN q).just h (fun e => hne e.symm), by rw [hx]; exact o, hp⟩, h.below (below_drewN hb q) hg⟩
set_option maxHeartbeats 2000000 in
theorem down_any (p base n : Nat) (zs : List Kd) (w : World) (h : Hp w base p zs) (hn : n ≤ zs.length) (hz : zs.length ≤ 900) :
    Calls Try.prog 19 #[.iface 30 (.pointer (some ⟨p, 0, none⟩)), .int .i64 0, .int .i64 n] w (DnE p base n zs w) := by
  have H : Dn p base n zs w w := ⟨zs, rfl, fun _ _ => rfl, h, Below.refl _ _⟩
  clear h
  have HN := hide hn
  have HZ := hide hz
  have hn9 : (n : Int) ≤ 900 := by omega
  have hn0 : (0 : Int) ≤ (n : Int) := by omega
  clear hn hz
  go_enter Try.func19, Try.ntmps19
  go_wp2
  go_loopw [7] (fun i wr => ∃ m : Nat, i = .int .i64 m ∧ m ≤ n ∧ Dn p base n zs w wr) (fun i _ => n - (intOf i).toNat)
  case atStart => exact ⟨0, rfl, Nat.zero_le _, H⟩
  case round =>
    clear H
    obtain ⟨m, rfl, hm, ys, hl, ha, ⟨g, cap, b, o, hp⟩, hb⟩ := hrel
    have HA := hide ha
    have HL := hide hl
    have HBL := hide hb
    have HG := hide o.lt.1
    have HNE := hide (o.ne b)
    have HNY := hide (show n ≤ ys.length by have := HN.out; omega)
    clear ha hl hb
    have hm0 : (0 : Int) ≤ (m : Int) := by omega
    have hm1 : (m : Int) ≤ (n : Int) := by omega
    by_cases h1 : (n : Int) ≤ 2 * (m : Int) + 1
    · have D := hide (show Dn p base n zs w wr from ⟨ys, HL.out, HA.out, ⟨g, cap, b, o, hp⟩, HBL.out⟩)
      clear b o
      go_wp2
      go_ret
      exact ⟨_, rfl, D.out⟩
    · have hlt : 2 * (m : Int) + 1 < (n : Int) := by omega
      clear h1
      have q0 := m_less ⟨p, 0, none⟩ _ wr (cell_0 b)
      have HB := hide b
      have HO := hide o
      clear b o
      by_cases h2 : 2 * (m : Int) + 1 + 1 < (n : Int)
      · go_wp2_with fail
        refine (less_i g ys.length cap (2 * m + 1 + 1) (2 * m + 1) base ys wr HO.out (by omega) (by have := HNY.out; omega) (by omega) (by have := HNY.out; omega)).mono ?_
        rintro e w2 ⟨b2, rfl, q, rfl⟩
        have q2 := m_less ⟨p, 0, none⟩ _ (wr.drewN q) (cell_0 (HB.out.drewN q))
        cases b2
        · skip
          go_wp2_with fail
          refine (less_i g ys.length cap (2 * m + 1) m base ys _ (HO.out.drewN q) (by omega) (by have := HNY.out; omega) (by omega) (by have := HNY.out; omega)).mono ?_
          rintro e w3 ⟨b3, rfl, q3, hw3⟩
          obtain ⟨q4, hq4⟩ : ∃ q4, w3 = wr.drewN q4 := by first | exact ⟨_, hw3⟩ | exact ⟨q + q3, by rw [hw3]; simp [World.drewN, Nat.add_assoc]⟩
          clear hw3
          subst hq4
          have s3 := m_swap ⟨p, 0, none⟩ _ (wr.drewN q4) (cell_0 (HB.out.drewN q4))
          cases b3
          · have D := hide (show Dn p base n zs w (wr.drewN q4) from ⟨ys, HL.out, HA.out, ⟨g, cap, HB.out.drewN q4, HO.out.drewN q4, hp⟩, below_drewN HBL.out q4⟩)
            go_wp2
            go_ret
            exact ⟨_, rfl, D.out⟩
          · go_wp2_with fail
            refine (swap_i g ys.length cap m (2 * m + 1) base ys _ (HO.out.drewN q4) (by omega) (by have := HNY.out; omega) (by omega) (by have := HNY.out; omega)).mono ?_
            rintro e w5 ⟨rfl, xs, hx1, hx2, _, o5, j5⟩
            have D := hide (dn_step HL.out HA.out HBL.out HB.out hp HG.out HNE.out hx1 (by omega) (by omega) hx2 o5 j5)
            clear hx1 hx2 o5 j5
            go_wp2
            go_roundw
            case rel => exact ⟨2 * m + 1, by go_num, by omega, D.out⟩
            case measure => simp [intOf]; omega
        · skip
          go_wp2_with fail
          refine (less_i g ys.length cap (2 * m + 1 + 1) m base ys _ (HO.out.drewN q) (by omega) (by have := HNY.out; omega) (by omega) (by have := HNY.out; omega)).mono ?_
          rintro e w3 ⟨b3, rfl, q3, hw3⟩
          obtain ⟨q4, hq4⟩ : ∃ q4, w3 = wr.drewN q4 := by first | exact ⟨_, hw3⟩ | exact ⟨q + q3, by rw [hw3]; simp [World.drewN, Nat.add_assoc]⟩
          clear hw3
          subst hq4
          have s3 := m_swap ⟨p, 0, none⟩ _ (wr.drewN q4) (cell_0 (HB.out.drewN q4))
          cases b3
          · have D := hide (show Dn p base n zs w (wr.drewN q4) from ⟨ys, HL.out, HA.out, ⟨g, cap, HB.out.drewN q4, HO.out.drewN q4, hp⟩, below_drewN HBL.out q4⟩)
            go_wp2
            go_ret
            exact ⟨_, rfl, D.out⟩
          · go_wp2_with fail
            refine (swap_i g ys.length cap m (2 * m + 1 + 1) base ys _ (HO.out.drewN q4) (by omega) (by have := HNY.out; omega) (by omega) (by have := HNY.out; omega)).mono ?_
            rintro e w5 ⟨rfl, xs, hx1, hx2, _, o5, j5⟩
            have D := hide (dn_step HL.out HA.out HBL.out HB.out hp HG.out HNE.out hx1 (by omega) (by omega) hx2 o5 j5)
            clear hx1 hx2 o5 j5
            go_wp2
            go_roundw
            case rel => exact ⟨2 * m + 1 + 1, by go_num, by omega, D.out⟩
            case measure => simp [intOf]; omega
      · skip
        go_wp2_with fail
        refine (less_i g ys.length cap (2 * m + 1) m base ys _ (HO.out) (by omega) (by have := HNY.out; omega) (by omega) (by have := HNY.out; omega)).mono ?_
        rintro e w3 ⟨b3, rfl, q3, hw3⟩
        obtain ⟨q4, hq4⟩ : ∃ q4, w3 = wr.drewN q4 := by first | exact ⟨_, hw3⟩ | exact ⟨q + q3, by rw [hw3]; simp [World.drewN, Nat.add_assoc]⟩
        clear hw3
        subst hq4
        have s3 := m_swap ⟨p, 0, none⟩ _ (wr.drewN q4) (cell_0 (HB.out.drewN q4))
        cases b3
        · have D := hide (show Dn p base n zs w (wr.drewN q4) from ⟨ys, HL.out, HA.out, ⟨g, cap, HB.out.drewN q4, HO.out.drewN q4, hp⟩, below_drewN HBL.out q4⟩)
          go_wp2
          go_ret
          exact ⟨_, rfl, D.out⟩
        · go_wp2_with fail
          refine (swap_i g ys.length cap m (2 * m + 1) base ys _ (HO.out.drewN q4) (by omega) (by have := HNY.out; omega) (by omega) (by have := HNY.out; omega)).mono ?_
          rintro e w5 ⟨rfl, xs, hx1, hx2, _, o5, j5⟩
          have D := hide (dn_step HL.out HA.out HBL.out HB.out hp HG.out HNE.out hx1 (by omega) (by omega) hx2 o5 j5)
          clear hx1 hx2 o5 j5
          go_wp2
          go_roundw
          case rel => exact ⟨2 * m + 1, by go_num, by omega, D.out⟩
          case measure => simp [intOf]; omega
set_option maxHeartbeats 1000000 in
/-- The first of the list is handed back. -/
theorem pop_h (p base : Nat) (z : Kd) (zs : List Kd) (w : World) (h : Hp w base p (z :: zs)) (hz : zs.length ≤ 800) :
    Calls Try.prog 15 #[.iface 30 (.pointer (some ⟨p, 0, none⟩))] w fun e w' => e = .returned (.iface 34 (.agg #[.int .i64 z.1, .int .i64 z.2.1, .int .i64 z.2.2])) ∧ Below base w w' := by
  obtain ⟨g, cap, b, o, hp⟩ := h
  have hlen : (z :: zs).length = zs.length + 1 := rfl
  rw [hlen] at b o
  clear hlen
  generalize hn : zs.length = n at *
  have hn0 : (0 : Int) ≤ (n : Int) := by omega
  have hn1 : (n : Int) ≤ 800 := by omega
  have mp := m_pop ⟨p, 0, none⟩
  have ml := m_len ⟨p, 0, none⟩ _ w (cell_0 b)
  have ms := m_swap ⟨p, 0, none⟩ _ w (cell_0 b)
  have HB := hide b
  have HO := hide o
  have HG := hide o.lt.1
  have HNE := hide (o.ne b)
  have HN := hide hn
  clear b o hn
  go_enter Try.func15, Try.ntmps15
  go_wp2_with (go_at_call 14; refine (len_m _ _ _ _ (by omega)).mono ?_; rintro e w' ⟨rfl, rfl⟩)
  refine (swap_i g (n + 1) cap 0 n base (z :: zs) w HO.out (by omega) (by omega) (by omega) (by omega)).mono ?_
  rintro e w1 ⟨rfl, ys, hy1, _, hy2, o1, j1⟩
  have h1 : ys.length = n + 1 := by rw [hy1, List.length_cons, HN.out]
  have h2 : ys.getD n k0 = z := by simpa using hy2
  have HP := hide (show Hp w1 base p ys from ⟨g, cap, by rw [h1]; exact HB.out.just j1 (fun e => HNE.out e.symm), by rw [h1]; exact o1, hp⟩)
  have HK := hide (j1.below (Below.refl base w) HG.out)
  have H1 := hide h1
  have H2 := hide h2
  clear hy1 hy2 o1 j1 ml ms h1 h2
  go_wp2_with fail
  refine (down_any p base n ys w1 HP.out (by have := H1.out; omega) (by have := H1.out; omega)).mono ?_
  rintro e w2 ⟨b2, rfl, xs, hx1, hx2, ⟨g2, cap2, bx, ox, _⟩, k2⟩
  have h3 : xs.getD n k0 = z := by rw [hx2 n (Nat.le_refl _), H2.out]
  have h4 : xs.length = n + 1 := by rw [hx1, H1.out]
  rw [h4] at bx ox
  have HBX := hide bx
  have HOX := hide ox
  have HK := hide (HK.out.trans k2)
  have H3 := hide h3
  clear hx1 hx2 bx ox k2 h3 h4
  go_wp2_with fail
  refine (pop_m p g2 n cap2 base xs w2 HBX.out HOX.out hp (by omega)).mono ?_
  rw [H3.out]
  rintro e w3 ⟨rfl, _, _, k3⟩
  have K := HK.out.trans k3
  go_wp2
  go_ret
  exact ⟨rfl, K⟩
end Go.Proofs.Ytkiijeobadlnnaa
