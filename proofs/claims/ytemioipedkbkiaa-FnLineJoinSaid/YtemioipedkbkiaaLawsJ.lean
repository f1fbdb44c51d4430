/-
  The walk of the law that lines are put one behind the other: it returns true for every input and turns nothing that was there.
-/
import Derived.Test.YtemioipedkbkiaaLawsU
import Derived.Test.YtemioipedkbkiaaSameG
namespace Go.Proofs.Ytemioipedkbkiaa
open Go.RowKit
set_option linter.unusedVariables false

theorem wpList_want {P : Program} {ops : Array Oper} {Q : Exit → Act → World → Prop} {a : Act} {w : World} {rest : List Oper} {o : Oper} (hg : Region.wanted o (yielded ops a.tmps) = true)
    (h : ∀ K : Act → World → Prop, (∀ a w, wpList P ops Q rest a w → K a w) → o.wp P a w K Q) : wpList P ops Q (o :: rest) a w :=
  wpList_step fun K hK => by simp only [hg, if_true]; exact h K hK
/-- A list of numbers appended, at a guarded operation: it may be empty. -/
theorem app_want {w : World} {ops : Array Oper} {rest : List Oper} {o : Oper} {a : Act} {Q : Exit → Act → World → Prop} (hgd : Region.wanted o (yielded ops a.tmps) = true) (s x : Operand)
    (ho : o.op = .call { callee := .builtin .append, args := #[s, x], argTypes := #[24, 24] })
    {base h k cap : Nat} {zs : List Int} {ad : Addr} {m c : Nat} {ys : List Int} (hs : a.eval s = .slice (some ⟨h, 0, none⟩) k cap) (hx : a.eval x = .slice (some ad) m c)
    (own : Own w base h k cap zs) (hy : Sl w (some ad) m c ys) (hk : k + m ≤ 1000000) (hbase : base ≤ w.heap.size)
    (K : ∀ g cap' w', Own w' base g (k + m) cap' (zs ++ ys) → w.grownBy w' (some h) → wpList Try.prog ops Q rest (a.put o.dst (.slice (some ⟨g, 0, none⟩) (k + m) cap')) w') : wpList Try.prog ops Q (o :: rest) a w := by
  obtain ⟨i, hi, hz⟩ := Option.map_eq_some_iff.1 int_info1
  simp only [Prod.mk.injEq] at hz
  obtain ⟨hz0, hz1, hz2⟩ := hz
  obtain ⟨v', w', hr, h2, h3, h4, _⟩ := run_append_own_at (P := Try.prog) w base 24 o.type 3 i (.int .i64 0) 1 8 Try.underlying24 hi hz0 hz1 hz2 (by rfl) (by omega) _ k _ own ad m c (ys.map (Value.int .i64)) (by simp [hy.1]) (news_sl hy) (by intro u hu; obtain ⟨z, _, rfl⟩ := List.mem_map.1 hu; simp [Value.oneCell']) (by unfold maxLen; omega) (by omega) hbase
  refine wpList_want hgd fun K' hK' => ?_
  unfold Oper.wp execOp
  simp only [ho, resolve, invoke, builtin, Sem.run_bind, Sem.run_pure, Result.andThen_ok, List.map_toArray, List.map_cons, List.map_nil, hs, hx, hr]
  rcases h2.2 with ⟨hv, _⟩ | ⟨g, cp, cur, hv, r⟩
  · exact absurd (h4.1 hv).1 (by simp)
  · subst hv
    exact hK' _ _ (K g cp w' (by simpa [Own] using h2) h3)
theorem sl_if {w : World} {h n cp k : Nat} {ys : List Int} (o : Sl w (some ⟨h, 0, none⟩) n cp ys) (hk : k ≤ n) : Sl w (if cp = k then some (⟨h, 0, none⟩ : Addr) else some ⟨h, k, none⟩) (n - k) (cp - k) (ys.drop k) := by
  have hc := o.2.1
  by_cases e : cp = k
  · rw [if_pos e]
    obtain rfl : n = k := by omega
    subst e
    have : ys.drop cp = [] := by rw [List.drop_eq_nil_iff]; have := o.1; omega
    rw [this, Nat.sub_self]
    exact Sl.nil_ _ _ _ (by omega)
  · rw [if_neg e]
    have s := o.drop_ hk
    have : (⟨h, 0, none⟩ : Addr).add k = ⟨h, k, none⟩ := by unfold Addr.add; split <;> simp_all
    rwa [this] at s
theorem lok_cut {a b c idle : Int} {xs ys : List Int} (h : lok a b c idle xs = true) (hl : ys.length ≤ xs.length) (hs : ∀ y ∈ ys, y ∈ xs) : lok a b c idle ys = true := by
  simp only [lok, pre1, bok, Bool.and_eq_true, decide_eq_true_eq, List.all_eq_true] at h ⊢
  obtain ⟨⟨h1, h2, h3, h4⟩, h5, h6⟩ := h
  exact ⟨⟨h1, h2, h3, by omega⟩, fun y hy => h5 y (hs y hy), Nat.le_trans (Nat.mul_le_mul_right _ hl) h6⟩

set_option maxRecDepth 100000 in
set_option maxHeartbeats 4000000 in
theorem fnLineJoin_walk (a : Option Addr) (len cap : Nat) (zs0 : List Int) (a2 : Option Addr) (len2 cap2 : Nat) (zs2 : List Int) (w : World) (h : IsRow .u8 w a len cap zs0) (h2 : IsRow .u8 w a2 len2 cap2 zs2) :
    Calls Try.prog 5 #[.slice a len cap, .slice a2 len2 cap2] w fun e w' => e = .returned (.bool true) ∧ Below w.heap.size w w' := by
  by_cases hbig : (1048576 : Int) < (len : Int) ∨ (1048576 : Int) < (len2 : Int)
  · rcases hbig with hbig | hbig
    · have hd1 : decide ((1048576 : Int) < (len : Int)) = true := by simpa using hbig
      go_enter Try.func5, Try.ntmps5
      go_wp2
      go_ret
      exact ⟨rfl, Below.refl _ _⟩
    · have hd2 : decide ((1048576 : Int) < (len2 : Int)) = true := by simpa using hbig
      cases hd1 : decide ((1048576 : Int) < (len : Int))
      all_goals
        go_enter Try.func5, Try.ntmps5
        go_wp2
        go_ret
        exact ⟨rfl, Below.refl _ _⟩
  · have hd1 : decide ((1048576 : Int) < (len : Int)) = false := by simp; omega
    have hd2 : decide ((1048576 : Int) < (len2 : Int)) = false := by simp; omega
    have HL2 := hide (show (len2 : Int) ≤ 1048576 by omega)
    clear hbig h2
    go_enter Try.func5, Try.ntmps5
    go_wp2_with fail
    refine (dDrawLineOf_any a len cap zs0 _ h).mono ?_
    rintro e w1 ⟨x, y, z, hb, n, cp, ys, idle, rfl, o, hn, hi0, hi1, k1⟩
    obtain ⟨I, rfl⟩ := Int.eq_ofNat_of_zero_le hi0
    have f := Bk.new w1 27 #[.int .i64 x, .int .i64 y, .int .i64 z]
    have K := hide (k1.alloc k1.size (.cells #[.int .i64 x, .int .i64 y, .int .i64 z] 27))
    have o := o.alloc (.cells #[.int .i64 x, .int .i64 y, .int .i64 z] 27)
    have HL := hide o.len
    have hn' : (n : Int) ≤ 9 := by omega
    obtain ⟨F, hF⟩ : ∃ F, w1.heap.size = F := ⟨_, rfl⟩
    rw [hF] at f
    have q := f.cell
    clear k1 hi0
    go_wp2_with fail
    clear hF
    cases hlok : lok x y z I ys
    · have HLOK := hide hlok
      clear hlok
      refine (iline_no _ _ _ _ _ _ _ ys _ o.sl HLOK.out).mono ?_
      rintro e w' ⟨rfl, k⟩
      clear q
      have o := o.belowAll k
      have f := f.belowAll k
      have K := hide (K.out.trans (k.mono K.out.size))
      clear k
      have q := f.cell
      go_wp2_with fail
      refine (slf_any _ _ _ _ _ _ _ ys _ o.sl).mono ?_
      rintro e w' ⟨h6, n6, c6, z6, rfl, o6, e6, k⟩
      clear q
      rw [HLOK.out]
      rw [HLOK.out, if_neg (by simp)] at e6
      subst e6
      obtain rfl : n6 = 0 := o6.len.symm
      have f := f.belowAll k
      have o := o.belowAll k
      have K := hide (K.out.trans (k.mono K.out.size))
      clear k
      have q := f.cell
      go_wp2_with fail
      refine (sameInts_any _ _ _ _ _ _ [] [] _ (Sl.nil_ _ _ _ (by omega)) o6.sl).mono ?_
      rintro e w' ⟨rfl, qq, hw⟩
      simp only [decide_true]
      clear q
      have K := hide (show Below w.heap.size w w' from hw ▸ below_drewN K.out qq)
      have f : Bk w' _ _ _ := hw ▸ f.drewN qq
      have o : Own w' _ _ _ _ _ := hw ▸ Own.drewN o qq
      have o6 : Own w' _ _ _ _ _ := hw ▸ Own.drewN o6 qq
      clear hw
      have q := f.cell
      go_wp2_with fail
      refine (sameInts_any _ _ _ _ _ _ [] [] _ (Sl.nil_ _ _ _ (by omega)) o6.sl).mono ?_
      rintro e w' ⟨rfl, qq, hw⟩
      simp only [decide_true]
      clear q
      have K := hide (show Below w.heap.size w w' from hw ▸ below_drewN K.out qq)
      have f : Bk w' _ _ _ := hw ▸ f.drewN qq
      have o : Own w' _ _ _ _ _ := hw ▸ Own.drewN o qq
      have o6 : Own w' _ _ _ _ _ := hw ▸ Own.drewN o6 qq
      clear hw
      have q := f.cell
      go_wp2
      go_ret
      exact ⟨rfl, K.out⟩
    · have HLOK := hide hlok
      have HFV := hide (lok_len hlok).1
      have HLN := hide (lok_len hlok).2
      clear hlok
      refine (iline_yes _ _ _ _ _ _ _ ys _ o.sl HLOK.out).mono ?_
      rintro e w' ⟨h5, n5, c5, rfl, o5, k⟩
      clear q
      have HOH := hide (show _ < h5 from Nat.lt_of_lt_of_le o.lt.2 o5.lt.1)
      have HFH := hide (show _ < h5 from Nat.lt_of_lt_of_le f.lt o5.lt.1)
      have o := o.belowAll k
      have f := f.belowAll k
      have K := hide (K.out.trans (k.mono K.out.size))
      clear k
      have q := f.cell
      go_wp2_with fail
      refine (slf_any _ _ _ _ _ _ _ ys _ o.sl).mono ?_
      rintro e w' ⟨h6, n6, c6, z6, rfl, o6, e6, k⟩
      clear q
      rw [HLOK.out]
      rw [HLOK.out, if_pos rfl] at e6
      subst e6
      obtain rfl : n6 = n5 := by rw [← o6.len, ← o5.len]
      have f := f.belowAll k
      have o := o.belowAll k
      have o5 := o5.belowAll k
      have K := hide (K.out.trans (k.mono K.out.size))
      clear k
      have q := f.cell
      simp only [Int.toNat_natCast] at o5 o6
      have hn5 : n6 ≤ 500 := by have := HLN.out; have := o5.len; simp only [Int.toNat_natCast] at *; omega
      have hn5' : (n6 : Int) ≤ 500 := by omega
      go_wp2_with fail
      refine (sameInts_any _ _ _ _ _ _ (lin x y z I ys) (lin x y z I ys) _ o5.sl o6.sl).mono ?_
      rintro e w' ⟨rfl, qq, hw⟩
      simp only [decide_true]
      clear q
      have K := hide (show Below w.heap.size w w' from hw ▸ below_drewN K.out qq)
      have f : Bk w' _ _ _ := hw ▸ f.drewN qq
      have o : Own w' _ _ _ _ _ := hw ▸ Own.drewN o qq
      have o5 : Own w' _ _ _ _ _ := hw ▸ Own.drewN o5 qq
      have o6 : Own w' _ _ _ _ _ := hw ▸ Own.drewN o6 qq
      clear hw
      have q := f.cell
      obtain ⟨k, hk⟩ : ∃ k : Nat, (len2 : Int) % ((n : Int) + 1) = (k : Int) := ⟨((len2 : Int) % ((n : Int) + 1)).toNat, by have := Int.emod_nonneg (len2 : Int) (show (n : Int) + 1 ≠ 0 by omega); omega⟩
      have hkn : k ≤ n := by have := Int.emod_lt_of_pos (len2 : Int) (show 0 < (n : Int) + 1 by omega); omega
      have L2 : (len2 : Int) ≤ 1048576 := HL2.out
      have k1 : (0 : Int) ≤ (k : Int) := by omega
      have k2 : (k : Int) ≤ (n : Int) := by omega
      have hcp := o.sl.2.1
      have k3 : (k : Int) ≤ (cp : Int) := by omega
      have k4 : (n : Int) ≤ (cp : Int) := by omega
      have HLA := hide (lok_cut (ys := ys.take k) HLOK.out (by rw [List.length_take]; omega) (fun y hy => List.mem_of_mem_take hy))
      have HLB := hide (lok_cut (ys := ys.drop k) HLOK.out (by rw [List.length_drop]; omega) (fun y hy => List.mem_of_mem_drop hy))
      obtain ⟨Z, hZ⟩ : ∃ Z, lin x y z I ys = Z := ⟨_, rfl⟩
      have HZ := hide hZ
      rw [hZ] at o5 o6
      clear hZ o6 HLN HOH HFH HFV
      go_wp2
      have fD : Bk w'.drew F 27 #[.int .i64 x, .int .i64 y, .int .i64 z] := f
      have oD : Own w'.drew 0 hb n cp ys := o.le_ (Nat.zero_le _)
      have o5D : Own w'.drew 0 h5 n6 c5 Z := o5.le_ (Nat.zero_le _)
      have KD : Below w.heap.size w w'.drew := K.out.drew
      have qD := fD.cell
      clear f o o5 K q
      go_region_held3 (fun W => (∀ i, W.cell? ⟨F, i, none⟩ = #[Value.int .i64 x, .int .i64 y, .int .i64 z][i]?) ∧ Bk W F 27 #[Value.int .i64 x, .int .i64 y, .int .i64 z] ∧ Own W 0 hb n cp ys ∧ Own W 0 h5 n6 c5 Z ∧ Below w.heap.size w W)
        (first | exact ⟨qA, fA, oA, o5A, KA⟩ | exact ⟨qD, fD, oD, o5D, KD⟩)
        (first | (go_at_call 11; go_split_ands; with_reducible refine (iline_yes x y z I (some ⟨hb, 0, none⟩) k cp (ys.take k) _ (Sl.take_ (Own.sl (zs := ys) (by assumption)) hkn) HLA.out).mono ?_; rintro e wA ⟨h7, n7, c7, rfl, o7, k7⟩; have fA := Bk.belowAll (g := F) (by assumption) k7; have oA := Own.belowAll (zs := ys) (by assumption) k7; have o5A := Own.belowAll (zs := Z) (by assumption) k7; have qA := fA.cell; have KA := Below.trans (a := w) (by assumption) (k7.mono (Below.size (by assumption)))))
      clear fD oD o5D KD qD k7
      have o7 := Own.le_ o7 (base' := 0) (Nat.zero_le _)
      have HO7 := hide o7
      have HOA := hide oA
      have HO5 := hide o5A
      have HFA := hide fA
      have HKA := hide KA
      clear o7 oA o5A fA KA
      obtain ⟨A, hA⟩ : ∃ A, (if cp = k then some (⟨hb, 0, none⟩ : Addr) else some ⟨hb, k, none⟩) = A := ⟨_, rfl⟩
      have HSA : Hid (∀ W, Own W 0 hb n cp ys → Sl W A (n - k) (cp - k) (ys.drop k)) := hide (fun W o => hA ▸ sl_if o.sl hkn)
      have hn7 : n7 ≤ 500 := by have := (lok_len HLA.out).2; rw [HO7.out.len] at this; exact this
      go_wp2
      have fE : Bk wA.drew F 27 #[.int .i64 x, .int .i64 y, .int .i64 z] := HFA.out
      have oE : Own wA.drew 0 hb n cp ys := HOA.out
      have o5E : Own wA.drew 0 h5 n6 c5 Z := HO5.out
      have o7E : Own wA.drew 0 h7 n7 c7 (lin x y z (I : Int).toNat (ys.take k)) := HO7.out
      have KE : Below w.heap.size w wA.drew := HKA.out.drew
      have qE := fE.cell
      clear qA
      go_region_held3 (fun W => (∀ i, W.cell? ⟨F, i, none⟩ = #[Value.int .i64 x, .int .i64 y, .int .i64 z][i]?) ∧ Bk W F 27 #[Value.int .i64 x, .int .i64 y, .int .i64 z] ∧ Own W 0 hb n cp ys ∧ Own W 0 h5 n6 c5 Z ∧ Own W 0 h7 n7 c7 (lin x y z (I : Int).toNat (ys.take k)) ∧ Below w.heap.size w W)
        (first | exact ⟨qB, fB, oB, o5B, o7B, KB⟩ | exact ⟨qE, fE, oE, o5E, o7E, KE⟩)
        (first | (go_at_call 11; go_split_ands; with_reducible refine (iline_yes x y z I A (n - k) (cp - k) (ys.drop k) _ (HSA.out _ (by assumption)) HLB.out).mono ?_; rintro e wB ⟨h8, n8, c8, rfl, o8, k8⟩; have fB := Bk.belowAll (g := F) (by assumption) k8; have oB := Own.belowAll (zs := ys) (by assumption) k8; have o5B := Own.belowAll (zs := Z) (by assumption) k8; have o7B := Own.belowAll (zs := lin x y z (I : Int).toNat (ys.take k)) (by assumption) k8; have qB := fB.cell; have KB := Below.trans (a := w) (by assumption) (k8.mono (Below.size (by assumption)))))
      have o8 := Own.le_ o8 (base' := 0) (Nat.zero_le _)
      have hn8 : n8 ≤ 500 := by have := (lok_len HLB.out).2; rw [o8.len] at this; exact this
      have HE := hide (show lin x y z (I : Int).toNat (ys.take k) ++ lin x y z (I : Int).toNat (ys.drop k) = Z by rw [lin_append, List.take_append_drop, Int.toNat_natCast]; exact HZ.out)
      generalize lin x y z (I : Int).toNat (ys.take k) = ZA at *
      generalize lin x y z (I : Int).toNat (ys.drop k) = ZB at *
      have HO7 := hide o7B
      have HO8 := hide o8
      have HO5 := hide o5B
      have HKB := hide KB
      clear fE oE o5E o7E KE qE o8 o7B o5B KB fB oB qB k8 HOA HFA HKA HSA HLA HLB hA
      have HL7 := hide HO7.out.lt.2
      have HL8 := hide HO8.out.lt.2
      have HL5 := hide HO5.out.lt.2
      go_wp2_with (first | (refine app_want (by rfl) (.tmp 95) (.tmp 96) rfl (by rfl) (by rfl) (Own.new (Nat.le_refl _) (Bk.new wB 3 #[])) (HO7.out.alloc _).sl (by omega) (by simp) ?_; intro g9 cp9 w9 o9 k9; simp only [Nat.zero_add, List.nil_append] at o9; have HO9 := hide o9; have H89 := hide (Own.grow (HO8.out.alloc _) k9 (by have := HL8.out; omega)); have H59 := hide (Own.grow (HO5.out.alloc _) k9 (by have := HL5.out; omega)); have K9 := hide ((HKB.out.alloc HKB.out.size _).trans (grown_below k9 HKB.out.size (by have := HKB.out.size; simp; omega))); have HG9 := hide (show wB.heap.size ≤ g9 from o9.lt.1); clear o9 k9) | (refine app_want (by rfl) (.tmp 97) (.tmp 98) rfl (by rfl) (by rfl) HO9.out H89.out.sl (by omega) (by have := HO9.out.lt; omega) ?_; intro g10 cp10 w10 o10 k10; rw [HE.out] at o10; have HO10 := hide o10; have H510 := hide (Own.grow H59.out k10 (by have := HL5.out; have := HG9.out; omega)); have K10 := hide (K9.out.trans (grown_below k10 (by have := HKB.out.size; have := HG9.out; omega) (by have := K9.out.size; omega))); clear o10 k10))
      refine (sameInts_any _ _ _ _ _ _ Z Z _ HO10.out.sl H510.out.sl).mono ?_
      rintro e w11 ⟨rfl, qq, hw⟩
      simp only [decide_true]
      have K11 : Below w.heap.size w w11 := hw ▸ below_drewN K10.out qq
      clear hw
      go_wp2
      go_ret
      exact ⟨rfl, K11⟩
end Go.Proofs.Ytemioipedkbkiaa
