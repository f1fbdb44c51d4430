/-
  'FnExactRecvStatus' of the given program: for every input that the statement speaks of the law returns true, and each argument reads behind the call as before. No condition beyond the statement's own.
  The frame round the walk 'fnExactRecvStatus_walk'; the frame follows the kit's shell of a proof, the walk lies in the texts that are imported.
-/
import Derived.Test.YtnlclifdkhlcpaaRows
import Derived.Test.YtnlclifdkhlcpaaOpens
import Derived.Test.YtnlclifdkhlcpaaRecvE
namespace Go.Proofs.Ytnlclifdkhlcpaa.fnExactRecvStatus
open Go.ChangeShapes Go.WideShapes Go.ChangeAt Go.RowKit
set_option linter.unusedVariables false

theorem own : ownKnob Try.prog.godebug = none := by kernel_rfl
theorem laidOut : laidOutB Try.prog = true := by kernel_rfl

set_option maxRecDepth 100000 in
theorem lifted (os : Os) (started : os.Started) (H : Type) (enc : TypeId × Value → H) :
    ReturnsInHanded {} Try.checked os 10 .any (Rows.fnExactRecvStatusSpec.pre6 enc Try.prog Try.f10 Rows.fnExactRecvStatusRow.domain false) (Rows.fnExactRecvStatusSpec.post enc Try.prog Try.f10 false true false false) := by
  refine returnsInHanded_of_change (C := Try.checked) own started (by kernel_rfl) Try.func10
    (ChangeSpec.witness6 (enc := enc) (C := Try.checked) false ⟨#[], #[.agg #[.int .i64 0, .int .i64 0, .slice none 0 0, .bool false, .int .i64 0]], []⟩ 8 (by kernel_rfl) (by kernel_rfl) (by kernel_rfl) (by kernel_rfl)) ?_
  intro W base args ds gs before hval0 hW hcnd _
  have hval : ∀ (j : Nat) t v, Try.f10.params[j]? = some t → args[j]? = some v → Value.okWide Try.prog W .any base t v := hval0
  have hW' := hW
  obtain ⟨p, q, hA0, hV, rfl, hfz, hnd⟩ := hW
  have hA : DataW.TrodAll enc Try.prog W 0 (fun _ => true) true Try.f10.params.toList args.toList ds p := hA0
  rw [Try.params10] at hA hval
  obtain ⟨v0, vs0, d0, ds0, p0, q0, hargs, rfl, rfl, h0, r0⟩ := trodAll_cons hA
  obtain ⟨rfl, rfl, rfl⟩ := trodAll_nil r0
  obtain rfl : args = #[v0] := by cases args; simp_all
  obtain ⟨rfl, rfl⟩ := trodVars_none hV
  have k0 := h0
  have lt0 : ∀ x ∈ p0, x.block < W.heap.size := by obtain ⟨m, hm⟩ := k0; exact DataW.trod_lt m _ _ _ hm
  obtain ⟨c00, c01, c02, c03, c04, y00, y01, y02, y03, y04, m0, rfl, rfl, rfl, hy00, hy01, hy02, hy03, hy04⟩ := open_five Try.underlying32 (by kernel_rfl) (show Try.prog.cellsOf 32 = 5 by kernel_rfl) (hval 0 32 v0 rfl rfl) h0
  obtain ⟨a00, e00, rfl, w00⟩ := DataW.trod_int Try.underlying3 hy00
  obtain ⟨a01, e01, rfl, w01⟩ := DataW.trod_int Try.underlying3 hy01
  obtain ⟨a04, e04, rfl, w04⟩ := DataW.trod_int Try.underlying3 hy04
  obtain ⟨a03, e03, rfl⟩ := DataW.trod_bool Try.underlying4 hy03
  simp at e00 e01 e03 e04
  subst e00 e01 e03 e04
  obtain ⟨a02, len02, cap02, z02, rfl, w02⟩ := field_pairs Try.underlying30 Try.underlying54 (by kernel_rfl) (by kernel_rfl) rfl rfl Try.underlying3 hy02
  clear hA0 hval0
  refine (fnExactRecvStatus_walk a00 w00 a01 w01 a02 len02 cap02 z02 a03 a04 w04 W w02).mono fun e W' ⟨he, bel⟩ => ?_
  subst he
  exact ⟨_, rfl, _, _, _, [], _, [], hW', trodAll_mk1 (shut_bool Try.underlying4 _), (trodAll_cons_mk (Below.trod laidOut (by kernel_rfl) (of_decide_eq_true (by kernel_rfl)) k0 bel lt0) trodAll_mk0), rfl, bel.frame _, fun h => by cases h⟩

theorem over : Rows.fnExactRecvStatusRow.holds Try.pinned (OpenSpec.ofChange Rows.fnExactRecvStatusSpec) :=
  OpenClaim.holds_of_wide 10 Try.f10 rfl rfl rfl rfl rfl rfl rfl ⟨rfl, rfl, rfl, rfl, rfl⟩ rfl rfl rfl rfl rfl (by kernel_rfl) Try.func10 (by kernel_rfl)
    (of_decide_eq_true (by kernel_rfl)) (by unfold Func.isWrapper; first | (rw [if_pos (by decide +kernel)]; kernel_rfl) | (rw [if_neg (by decide +kernel)]; exact ⟨rfl, rfl⟩))
    (fun os started H enc _ => lifted os started H enc)

theorem proved : Rows.FnExactRecvStatusSaid := over
#print axioms proved
end Go.Proofs.Ytnlclifdkhlcpaa.fnExactRecvStatus
