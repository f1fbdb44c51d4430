/-
  A receiver that came in, opened: five fields, the items a slice of pairs of numbers. No condition: plain lemmas over any program.
-/
import Derived.Test.YtnlclifdkhlcpaaGots
namespace Go.Proofs.Ytnlclifdkhlcpaa
open Go.ChangeShapes Go.WideShapes Go.ChangeAt Go.RowKit Go.Joins Go.Deep
set_option linter.unusedVariables false
theorem array5 {α : Type} {cs : Array α} (h : cs.size = 5) : ∃ c0 c1 c2 c3 c4, cs = #[c0, c1, c2, c3, c4] := by
  obtain ⟨l⟩ := cs
  match l, h with
  | [c0, c1, c2, c3, c4], _ => exact ⟨c0, c1, c2, c3, c4, rfl⟩
section
variable {H : Type} {enc : TypeId × Value → H} {P : Program} {w : World}
theorem open_five {base : Nat} {spare : Nat → Bool} {held : Bool} {r : Reach} {b0 : Nat} {t : TypeId} {f0 f1 f2 f3 f4 : Field} {v : Value} {d : DataW H} {p : List MemPlace} (hs : P.underlying t = some (.struct #[f0, f1, f2, f3, f4])) (hone : oneCellFields P #[f0, f1, f2, f3, f4] = true) (hC : P.cellsOf t = 5)
    (hv : Value.okWide P w r b0 t v) (h : DataW.Trod enc P w base spare held t v d p) :
    ∃ (v0 v1 v2 v3 v4 : Value) (y0 y1 y2 y3 y4 : DataW H × List MemPlace) (n : Nat), v = .agg #[v0, v1, v2, v3, v4] ∧ d = .agg [y0.1, y1.1, y2.1, y3.1, y4.1] ∧ p = y0.2 ++ (y1.2 ++ (y2.2 ++ (y3.2 ++ y4.2))) ∧
      DataW.trod enc P w base spare held n f0.type [v0] = some y0 ∧ DataW.trod enc P w base spare held n f1.type [v1] = some y1 ∧ DataW.trod enc P w base spare held n f2.type [v2] = some y2 ∧ DataW.trod enc P w base spare held n f3.type [v3] = some y3 ∧ DataW.trod enc P w base spare held n f4.type [v4] = some y4 := by
  obtain ⟨cs, rfl, hsz⟩ := okWide_struct hs hv
  obtain ⟨c0, c1, c2, c3, c4, rfl⟩ := array5 (hsz.trans hC)
  obtain ⟨fuel, hf⟩ := h
  obtain ⟨xs, n, _, hx, hl, hlen, hq⟩ := DataW.trod_struct hs hf
  match xs, hlen with
  | [y0, y1, y2, y3, y4], _ =>
    obtain ⟨o0, k0⟩ := hone_of hone 0 f0 rfl
    obtain ⟨o1, k1⟩ := hone_of hone 1 f1 rfl
    obtain ⟨o2, k2⟩ := hone_of hone 2 f2 rfl
    obtain ⟨o3, k3⟩ := hone_of hone 3 f3 rfl
    obtain ⟨o4, k4⟩ := hone_of hone 4 f4 rfl
    simp only [Prod.mk.injEq] at hx
    exact ⟨c0, c1, c2, c3, c4, y0, y1, y2, y3, y4, n, rfl, by simpa using hx.1, by simpa using hx.2, by simpa [Value.cells, o0, k0] using hq 0 f0 rfl, by simpa [Value.cells, o1, k1] using hq 1 f1 rfl, by simpa [Value.cells, o2, k2] using hq 2 f2 rfl, by simpa [Value.cells, o3, k3] using hq 3 f3 rfl, by simpa [Value.cells, o4, k4] using hq 4 f4 rfl⟩
/-- What a reading tells of a pair of numbers. -/
theorem pair_of {base : Nat} {spare : Nat → Bool} {held : Bool} {e i : TypeId} {f0 f1 : Field} {n : Nat} {x : Addr} {y : DataW H × List MemPlace} (he : P.underlying e = some (.struct #[f0, f1])) (hone : oneCellFields P #[f0, f1] = true) (hC : P.cellsOf e = 2) (hi0 : f0.type = i) (hi1 : f1.type = i) (hi : P.underlying i = some (.int .i64))
    (h : (w.cells? base x 2).bind (DataW.trod enc P w base spare held n e) = some y) : ∃ a b : Int, w.cell? x = some (.int .i64 a) ∧ w.cell? (x.add 1) = some (.int .i64 b) := by
  rw [Option.bind_eq_some_iff] at h
  obtain ⟨cs, hcs, hy⟩ := h
  obtain ⟨_, hlen, hc⟩ := World.cells?_some hcs
  obtain ⟨y0, y1, m, _, _, h0, h1⟩ := trod_struct2 he hy
  obtain ⟨o0, k0⟩ := hone_of hone 0 f0 rfl
  obtain ⟨o1, k1⟩ := hone_of hone 1 f1 rfl
  subst hi0
  rw [hi1] at h1 k1
  match cs, hlen with
  | [u, v], _ =>
    obtain ⟨a, ha, _, _⟩ := DataW.trod_int hi h0
    obtain ⟨b, hb, _, _⟩ := DataW.trod_int hi h1
    simp [o0, k0] at ha
    simp [o1, k1] at hb
    subst ha hb
    refine ⟨a, b, ?_, hc 1 (by omega)⟩
    have := hc 0 (by omega)
    simpa [Addr.add] using this
theorem field_pairs {t e i : TypeId} {f0 f1 : Field} {c : Value} {fuel : Nat} {y : DataW H × List MemPlace} (ht : P.underlying t = some (.slice e)) (he : P.underlying e = some (.struct #[f0, f1])) (hone : oneCellFields P #[f0, f1] = true) (hC : P.cellsOf e = 2) (hi0 : f0.type = i) (hi1 : f1.type = i) (hi : P.underlying i = some (.int .i64))
    (h : DataW.trod enc P w 0 (fun _ => true) true fuel t [c] = some y) : ∃ a len cap zs, c = .slice a len cap ∧ Sg w a len cap zs := by
  rcases DataW.trod_slice ht h with ⟨hc, _⟩ | ⟨a, len, cap, elems, rest, n, _, hc, rfl, _, hl, hm, hlen, hel, _, _⟩
  · simp at hc
    exact ⟨none, 0, 0, [], hc, rfl, Nat.le_refl _, by omega, fun h => absurd h (by omega)⟩
  · simp at hc
    have each : ∀ j, j < len → ∃ z : Int × Int, w.cell? (a.add (j * 2)) = some (.int .i64 z.1) ∧ w.cell? ((a.add (j * 2)).add 1) = some (.int .i64 z.2) := by
      intro j hj
      have hj' := hel j hj
      rw [hC, List.getElem?_eq_getElem (by omega)] at hj'
      obtain ⟨p, q, h0, h1⟩ := pair_of he hone hC hi0 hi1 hi hj'
      exact ⟨(p, q), h0, h1⟩
    classical
    refine ⟨_, _, _, (List.range len).map (fun j => if hj : j < len then (each j hj).choose else (0, 0)), hc, by simp, hl, by simpa [maxLen] using hm, fun hpos => ?_⟩
    have hsp : a.spot = none := by
      obtain ⟨z, h0, _⟩ := each 0 hpos
      simp [Addr.add, World.cell?] at h0
      split at h0
      · split at h0
        · cases h0
        · rename_i hs; simpa using hs
      · cases h0
    obtain ⟨b, o, s⟩ := a
    simp at hsp
    subst hsp
    refine ⟨b, o, rfl, fun j hj => ?_⟩
    have hz : ((List.range len).map (fun j => if hj : j < len then (each j hj).choose else (0, 0))).getD j (0, 0) = (each j hj).choose := by
      rw [List.getD_eq_getElem?_getD, List.getElem?_map, List.getElem?_range hj]
      simp [hj]
    have := (each j hj).choose_spec
    generalize (each j hj).choose = z at hz this
    rw [hz]
    simp only [add_mk] at this
    exact this
end
end Go.Proofs.Ytnlclifdkhlcpaa
