/-
  The library's heap: up stays where the new one counts least; push; down keeps what lies behind; pop hands back the first.
-/
import Derived.Test.YtkiijeobadlnnaaHepM
import Derived.Deep.LoopGhost
namespace Go.Proofs.Ytkiijeobadlnnaa
open Go.RowKit
set_option linter.unusedVariables false

theorem up_zero (p g c n : Nat) (base : Nat) (w : World) :
    Calls Try.prog 18 #[.iface 30 (.pointer (some ⟨p, 0, none⟩)), .int .i64 0] w fun e w' => e = .returned (.tuple #[]) ∧ ∃ q, w' = w.drewN q := by
  go_enter Try.func18, Try.ntmps18
  go_wp2
  refine wp_loop_rounds 1 ?_
  rw [rounds_succ]
  go_wp2
  go_end0
  exact ⟨rfl, 0, rfl⟩
theorem up_stay (p g c n k base : Nat) (zs : List Kd) (w : World) (b : Bk w p 32 #[.slice (some ⟨g, 0, none⟩) n c]) (o : Owk w base g n c zs) (hk0 : 0 < k) (hk : k < n) (hk1 : k ≤ 1000) (hr : ∀ i, i < k → (zs.getD i k0).1 ≤ (zs.getD k k0).1) :
    Calls Try.prog 18 #[.iface 30 (.pointer (some ⟨p, 0, none⟩)), .int .i64 k] w fun e w' => e = .returned (.tuple #[]) ∧ ∃ q, w' = w.drewN q := by
  have hm := m_less ⟨p, 0, none⟩ _ w (cell_0 b)
  obtain ⟨i, hi, hik⟩ : ∃ i : Nat, ((k : Int) - 1) / 2 = (i : Int) ∧ i < k := ⟨(k - 1) / 2, by omega, by omega⟩
  have h1 : (1 : Int) ≤ (k : Int) := by omega
  have h2 : (k : Int) ≤ 1000 := by omega
  have he : ((i : Int) == (k : Int)) = false := by simp; omega
  have HD := hide (show decide ((zs.getD k k0).1 < (zs.getD i k0).1) = false by have := hr i hik; exact decide_eq_false (by omega))
  have HO := hide o
  have HIK := hide (show i < n by omega)
  have HK := hide hk
  clear b o hr hik hk hk0
  go_enter Try.func18, Try.ntmps18
  go_wp2
  refine wp_loop_rounds 1 ?_
  rw [rounds_succ]
  go_wp2_with fail
  refine (less_m g n c k i base zs w HO.out HK.out HIK.out).mono ?_
  rintro e w' ⟨rfl, q, rfl⟩
  rw [HD.out]
  go_wp2
  go_end0
  exact ⟨rfl, _, rfl⟩
theorem up_any (p g c n k base : Nat) (zs : List Kd) (w : World) (b : Bk w p 32 #[.slice (some ⟨g, 0, none⟩) n c]) (o : Owk w base g n c zs) (hk : k < n) (hk1 : k ≤ 1000) (hr : ∀ i, i < k → (zs.getD i k0).1 ≤ (zs.getD k k0).1) :
    Calls Try.prog 18 #[.iface 30 (.pointer (some ⟨p, 0, none⟩)), .int .i64 k] w fun e w' => e = .returned (.tuple #[]) ∧ ∃ q, w' = w.drewN q := by
  rcases Nat.eq_zero_or_pos k with rfl | h
  · exact up_zero p g c n base w
  · exact up_stay p g c n k base zs w b o h hk hk1 hr
/-- One more interrupt, which counts no more than those that are there. -/
theorem push_h (p base : Nat) (zs : List Kd) (x y z : Int) (w : World) (h : Hp w base p zs) (hk : zs.length ≤ 900) (hr : ∀ i, i < zs.length → (zs.getD i k0).1 ≤ x) :
    Calls Try.prog 13 #[.iface 30 (.pointer (some ⟨p, 0, none⟩)), .iface 34 (.agg #[.int .i64 x, .int .i64 y, .int .i64 z])] w fun e w' => e = .returned (.tuple #[]) ∧ Hp w' base p (zs ++ [(x, y, z)]) ∧ Below base w w' := by
  obtain ⟨g, cap, b, o, hp⟩ := h
  have mp := m_push ⟨p, 0, none⟩
  have HR := hide hr
  clear hr
  generalize hn : zs.length = n at *
  have HN := hide hn
  clear hn
  have hn0 : (0 : Int) ≤ (n : Int) := by omega
  have hn1 : (n : Int) ≤ 900 := by omega
  go_enter Try.func13, Try.ntmps13
  go_wp2_with fail
  refine (push_m p g n cap base zs x y z w b o hp (by omega)).mono ?_
  rintro e w1 ⟨rfl, g1, cap1, b1, o1, k1⟩
  have HB := hide b1
  have HO := hide o1
  have HK := hide k1
  have ml := m_len ⟨p, 0, none⟩ _ w1 (cell_0 b1)
  clear b o b1 o1 k1 mp
  go_wp2_with (go_at_call 14; refine (len_m _ _ _ _ (by omega)).mono ?_; rintro e w' ⟨rfl, rfl⟩)
  refine (up_any p g1 cap1 (n + 1) n base (zs ++ [(x, y, z)]) w1 HB.out HO.out (by omega) (by omega) ?_).mono ?_
  · intro i hi
    have e1 := HN.out
    have e2 := HR.out i hi
    rw [List.getD_eq_getElem?_getD] at e2
    rw [List.getD_eq_getElem?_getD, List.getD_eq_getElem?_getD, List.getElem?_append_left (by omega), List.getElem?_append_right (by omega), e1]
    simpa using e2
  rintro e w2 ⟨rfl, q, rfl⟩
  go_wp2
  go_end0
  have e1 : (zs ++ [(x, y, z)]).length = n + 1 := by simp [HN.out]
  exact ⟨rfl, ⟨g1, cap1, by rw [e1]; exact HB.out.drewN q, by rw [e1]; exact HO.out.drewN q, hp⟩, below_drewN HK.out q⟩
end Go.Proofs.Ytkiijeobadlnnaa
