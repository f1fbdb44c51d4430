/-
  Bytes that came, compared; a slice appended whole, however long; a part of a slice of the call's own.
-/
import Derived.Test.YtemioipedkbkiaaOwnG
import Derived.Test.YtemioipedkbkiaaLinD
namespace Go.Proofs.Ytemioipedkbkiaa
open Go.RowKit
set_option linter.unusedVariables false

set_option maxHeartbeats 1000000 in
theorem sameGot_same (a b : Option Addr) (n c d : Nat) (xs : List (Int × Int)) (w : World) (h : Sg w a n c xs) (k : Sg w b n d xs) :
    Calls Try.prog 19 #[.slice a n c, .slice b n d] w fun e w' => e = .returned (.bool true) ∧ ∃ q, w' = w.drewN q := by
  have hlc : (n : Int) ≤ 9223372036854775807 := by have := h.2.1; have := h.2.2.1; omega
  have H := hide h
  have K := hide k
  clear h k
  go_enter Try.func19, Try.ntmps19
  go_wp2
  go_loopw [5] (fun i wr => ∃ k : Nat, k ≤ n ∧ i = .int .i64 k ∧ ∃ q, wr = w.drewN q) (fun i _ => n - (intOf i).toNat)
  case atStart => exact ⟨0, by omega, rfl, 0, rfl⟩
  case round =>
    obtain ⟨k, hk, rfl, q, rfl⟩ := hrel
    by_cases hlt : k < n
    · have hlt' : (k : Int) < (n : Int) := by omega
      have h0' : (0 : Int) ≤ (k : Int) := by omega
      obtain ⟨p, o, rfl, c1, c2⟩ := H.out.at_ hlt
      obtain ⟨p2, u, rfl, d1, d2⟩ := K.out.at_ hlt
      generalize (xs.getD k (0, 0)).1 = x at c1 d1
      generalize (xs.getD k (0, 0)).2 = y at c2 d2
      go_wp2
      go_quiet (fail)
      go_wp2
      go_roundw
      case rel => exact ⟨k + 1, by omega, by go_num, _, rfl⟩
      case measure => simp [intOf]; omega
    · have hge : ¬ (k : Int) < (n : Int) := by omega
      go_wp2
      go_ret
      exact ⟨rfl, _, rfl⟩
/-- A list of numbers appended, at a plain region's list: it may be empty. -/
theorem app_any {w : World} {ops : Array Oper} {rest : List Oper} {o : Oper} {a : Act} {Q : Exit → Act → World → Prop} (hgd : o.guard = none) (s x : Operand)
    (ho : o.op = .call { callee := .builtin .append, args := #[s, x], argTypes := #[24, 24] })
    {base h k cap : Nat} {zs : List Int} {ad : Addr} {m c : Nat} {ys : List Int} (hs : a.eval s = .slice (some ⟨h, 0, none⟩) k cap) (hx : a.eval x = .slice (some ad) m c)
    (own : Own w base h k cap zs) (hy : Sl w (some ad) m c ys) (hk : k + m ≤ 1000000) (hbase : base ≤ w.heap.size)
    (K : ∀ g cap' w', Own w' base g (k + m) cap' (zs ++ ys) → w.grownBy w' (some h) → wpList Try.prog ops Q rest (a.put o.dst (.slice (some ⟨g, 0, none⟩) (k + m) cap')) w') : wpList Try.prog ops Q (o :: rest) a w := by
  obtain ⟨i, hi, hz⟩ := Option.map_eq_some_iff.1 int_info1
  simp only [Prod.mk.injEq] at hz
  obtain ⟨hz0, hz1, hz2⟩ := hz
  obtain ⟨v', w', hr, h2, h3, h4, _⟩ := run_append_own_at (P := Try.prog) w base 24 o.type 3 i (.int .i64 0) 1 8 Try.underlying24 hi hz0 hz1 hz2 (by rfl) (by omega) _ k _ own ad m c (ys.map (Value.int .i64)) (by simp [hy.1]) (news_sl hy) (by intro u hu; obtain ⟨z, _, rfl⟩ := List.mem_map.1 hu; simp [Value.oneCell']) (by unfold maxLen; omega) (by omega) hbase
  refine wpList_plain hgd fun K' hK' => ?_
  unfold Oper.wp execOp
  simp only [ho, resolve, invoke, builtin, Sem.run_bind, Sem.run_pure, Result.andThen_ok, List.map_toArray, List.map_cons, List.map_nil, hs, hx, hr]
  rcases h2.2 with ⟨hv, _⟩ | ⟨g, cp, cur, hv, r⟩
  · exact absurd (h4.1 hv).1 (by simp)
  · subst hv
    exact hK' _ _ (K g cp w' (by simpa [Own] using h2) h3)
theorem Sl.drop_ {w : World} {ad : Addr} {n c k : Nat} {zs : List Int} (h : Sl w (some ad) n c zs) (hk : k ≤ n) : Sl w (some (ad.add k)) (n - k) (c - k) (zs.drop k) := by
  refine ⟨by rw [List.length_drop, h.1], by have := h.2.1; omega, by have := h.2.2.1; omega, fun hl => ⟨ad.add k, rfl, fun i hi => ?_⟩⟩
  obtain ⟨y, hy, hc⟩ := h.at_ (k := k + i) (by omega)
  injection hy with hy
  subst hy
  rw [show (ad.add k).add i = ad.add (k + i) by by_cases h1 : i = 0 <;> by_cases h2 : k = 0 <;> simp [Addr.add, h1, h2, Nat.add_assoc], hc]
  simp [List.getD_eq_getElem?_getD, List.getElem?_drop]
theorem Sl.take_ {w : World} {a : Option Addr} {n c k : Nat} {zs : List Int} (h : Sl w a n c zs) (hk : k ≤ n) : Sl w a k c (zs.take k) := by
  refine ⟨by rw [List.length_take, h.1]; omega, by have := h.2.1; omega, h.2.2.1, fun hl => ?_⟩
  obtain ⟨x, hx, hc⟩ := h.2.2.2 (by omega)
  refine ⟨x, hx, fun i hi => ?_⟩
  rw [hc i (by omega)]
  simp [List.getD_eq_getElem?_getD, hi]
end Go.Proofs.Ytemioipedkbkiaa
