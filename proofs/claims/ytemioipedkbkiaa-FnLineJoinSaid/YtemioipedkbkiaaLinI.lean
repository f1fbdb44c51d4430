/-
  The walk of the program's function that hands over the frames of bytes one by one.
-/
import Derived.Test.YtemioipedkbkiaaRfW
import Derived.Test.YtemioipedkbkiaaFrmB
import Derived.Test.YtemioipedkbkiaaLinS
namespace Go.Proofs.Ytemioipedkbkiaa
open Go.RowKit Go.Shelf
set_option linter.unusedVariables false
attribute [local go_sem] Oper.semAt_some

/-- The value is the frame of the byte, and lies at or beyond B. -/
def FrR (a b c : Int) (x : Int) (v : Value) (B : Nat) (W : World) : Prop := ∃ h k cap, v = .slice (some ⟨h, 0, none⟩) k cap ∧ Own W B h k cap (frm a b c x)
/-- What the iterator leans on: its two boxes and the list. -/
def FrF (a b c : Int) (p : Option Addr) (len cap : Nat) (xs : List Int) (bf bl : Nat) (W : World) : Prop :=
  Bk W bf 27 #[.int .i64 a, .int .i64 b, .int .i64 c] ∧ Bk W bl 24 #[.slice p len cap] ∧ Sl W p len cap xs
theorem iframes_any (a b c : Int) (p : Option Addr) (len cap : Nat) (w : World) :
    Calls Try.prog 27 #[.agg #[.int .i64 a, .int .i64 b, .int .i64 c], .slice p len cap] w fun e w' => e = .returned (.func (.func 38) #[] #[.pointer (some ⟨w.heap.size + 1, 0, none⟩), .pointer (some ⟨w.heap.size, 0, none⟩)]) ∧
      w' = (w.alloc (.cells #[.int .i64 a, .int .i64 b, .int .i64 c] 27)).alloc (.cells #[.slice p len cap] 24) := by
  go_enter Try.func27, Try.ntmps27
  go_wp2
  go_ret
  exact ⟨by simp, rfl⟩
theorem iframes_says (a b c : Int) (p : Option Addr) (len cap : Nat) (xs : List Int) (bf bl : Nat) (hx : ∀ x ∈ xs, fok a b c x = true) :
    Says Try.prog 38 #[.pointer (some ⟨bl, 0, none⟩), .pointer (some ⟨bf, 0, none⟩)] (FrF a b c p len cap xs bf bl) (FrR a b c) xs := by
  intro n l J W hF hB hY h0
  have HF := hide hF
  have HX := hide hx
  obtain ⟨f0, q0, s0⟩ := hF _ _ h0
  have HZ := hide s0.1
  have hlc : (len : Int) ≤ 9223372036854775807 := by have := s0.2.1; have := s0.2.2.1; omega
  have c0 := q0.cell
  clear hF hx f0 q0 s0
  refine callsIn_of_wp Try.func38 rfl trivial ?_ rfl
  simp only [Try.ntmps38, List.size_toArray, List.length_cons, List.length_nil, Nat.reduceAdd, Nat.reduceSub, Array.replicate_succ, Array.replicate_zero, List.push_toArray, List.append_toArray, List.nil_append, List.cons_append]
  gi_wp2
  gi_loopw [10] (fun i wr => ∃ k : Nat, i = .int .i64 k ∧ k ≤ len ∧ J k wr) (fun i _ => len - (intOf i).toNat)
  case atStart => exact ⟨0, rfl, by omega, h0⟩
  case round =>
    clear h0 c0
    obtain ⟨k, rfl, hk, hj⟩ := hrel
    obtain ⟨f1, q1, s1⟩ := HF.out _ _ hj
    by_cases hlt : k < len
    · have hlt' : (k : Int) < (len : Int) := by omega
      obtain ⟨y, rfl, hc⟩ := s1.at_ hlt
      obtain ⟨x, hx⟩ : ∃ x, xs.getD k 0 = x := ⟨_, rfl⟩
      rw [hx] at hc
      have c1 := f1.cell
      have hok : fok a b c x = true := HX.out x (by rw [← hx, List.getD_eq_getElem?_getD, List.getElem?_eq_getElem (by have := HZ.out; omega)]; exact List.getElem_mem _)
      have HOK := hide hok
      have HXE := hide hx
      have HQ := hide q1
      clear hok hx q1 s1
      gi_wp2_with (refine ⟨trivial, fun hd => by simp [Fence.wide] at hd, (callsIn_wide.2 (ifb_yes _ _ _ _ _ HOK.out)).mono ?_⟩; rintro e w2 ⟨h2, k2, cap2, rfl, o2, b2⟩; obtain ⟨fn, tmps, assign, body, hy, hR⟩ := hY k _ wr w2 (by have := HZ.out; omega) hj b2 (by rw [HXE.out]; exact ⟨h2, k2, cap2, rfl, o2⟩))

      refine ⟨fun hd => by simp [Fence.wide] at hd, hR.mono ?_⟩
      rintro e w3 ⟨rfl, hj3⟩
      gi_wp2
      go_roundw
      case rel => exact ⟨k + 1, by go_num, by omega, hj3⟩
      case measure => simp [intOf]; omega
    · have hge : ¬ (k : Int) < (len : Int) := by omega
      obtain rfl : k = len := by omega
      gi_wp2
      go_end0
      refine ⟨⟨_, rfl⟩, ?_⟩
      rw [HZ.out]
      exact hj
end Go.Proofs.Ytemioipedkbkiaa
