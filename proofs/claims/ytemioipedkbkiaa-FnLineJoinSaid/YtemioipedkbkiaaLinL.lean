/-
  The walk of the program's function that returns the samples of bytes.
-/
import Derived.Test.YtemioipedkbkiaaLinT
namespace Go.Proofs.Ytemioipedkbkiaa
open Go.RowKit Go.Shelf
set_option linter.unusedVariables false
attribute [local go_sem] Oper.semAt_some

set_option maxHeartbeats 4000000 in
theorem iline_yes (a b c idle : Int) (p : Option Addr) (len cap : Nat) (xs : List Int) (w : World) (h : Sl w p len cap xs) (hp : lok a b c idle xs = true) :
    Calls Try.prog 11 #[.agg #[.int .i64 a, .int .i64 b, .int .i64 c], .slice p len cap, .int .i64 idle] w fun e w' =>
      ∃ g k cp, e = .returned (.tuple #[.slice (some ⟨g, 0, none⟩) k cp, .bool true]) ∧ Own w' w.heap.size g k cp (lin a b c idle.toNat xs) ∧ Below w.heap.size w w' := by
  have HZ := hide h.1
  have hp' := hp
  simp only [lok, pre1, Bool.and_eq_true, decide_eq_true_eq] at hp'
  obtain ⟨⟨hv, hi0, hi1, hn⟩, hbk, h500⟩ := hp'
  obtain ⟨r1, r2, r3, r4, r5, r6⟩ := fv_iff.1 hv
  obtain ⟨l7, l12⟩ := fl_bd hv
  have HV := hide hv
  have HBY := hide (bok_at hbk)
  have hok : ∀ x ∈ xs, fok a b c x = true := fun x hx => fok_mk hv (bok_at hbk x hx).1 (bok_at hbk x hx).2
  have HOK := hide hok
  have hn' : (len : Int) ≤ 20 := by have := HZ.out; omega
  obtain ⟨I, rfl⟩ := Int.eq_ofNat_of_zero_le hi0
  have HH := hide h
  obtain ⟨L, hL, hL0, hL1⟩ : ∃ L : Nat, flOf a b c = (L : Int) ∧ 7 ≤ L ∧ L ≤ 12 := ⟨(flOf a b c).toNat, by omega, by omega, by omega⟩
  have HL := hide hL
  have hI20 : I ≤ 20 := by omega
  have hpr : (len : Int) * ((I : Int) + 4 * (L : Int)) = ((xs.length * (I + 4 * L) : Nat) : Int) := by rw [HZ.out]; push_cast; rfl
  obtain ⟨T, hT⟩ : ∃ T, xs.length * (I + 4 * L) = T := ⟨_, rfl⟩
  have hT5 : T ≤ 500 := by rw [← hT]; rw [hL] at h500; simpa using h500
  rw [hT] at hpr
  have HT := hide hT
  have HPR := hide hpr
  have B0 := hide (((Below.refl w.heap.size w).alloc (Nat.le_refl _) (.cells #[.int .i64 a, .int .i64 b, .int .i64 c] 27)).alloc (by simp) (.cells #[.int .i64 (I : Int)] 3))
  have f := (Bk.new w 27 #[.int .i64 a, .int .i64 b, .int .i64 c]).alloc (.cells #[.int .i64 (I : Int)] 3)
  have i0 := Bk.new (w.alloc (.cells #[.int .i64 a, .int .i64 b, .int .i64 c] 27)) 3 #[.int .i64 (I : Int)]
  rw [World.size_alloc] at i0
  have hmk : ∀ W : World, (Instr.makeSlice 24 (.int .i64 0) (.int .i64 (T : Int))).run Try.prog W = .ok (.slice (some ⟨W.heap.size, 0, none⟩) 0 T) (W.alloc (.cells (madeCells #[.int .i64 0] (T * 1)) 3)) := by
    intro W
    obtain ⟨i, hi, hz⟩ := Option.map_eq_some_iff.1 int_info1
    simp only [Prod.mk.injEq] at hz
    obtain ⟨hz0, hz1, hz2⟩ := hz
    have hr := run_make (P := Try.prog) W 24 3 i _ Try.underlying24 hi hz0 .i64 .i64 0 T (by omega) (by omega) (by rw [hz2]; omega) (by omega)
    simpa [hz1, Value.cells] using hr
  have HMK := hide hmk
  have hd1 : decide ((20 : Int) < (len : Int)) = false := by simp; omega
  have hd2 : decide ((I : Int) < 0) = false := by simp
  have hd3 : decide ((20 : Int) < (I : Int)) = false := by simp; omega
  clear hv hn hbk h500 hok h hp hL hT hpr hmk
  refine callsIn_wide.1 (callsIn_of_wp_marks (F := Fence.wide) (n := 5) Try.func11 rfl trivial (wpIn_wide.2 ?_) rfl)
  simp only [Try.ntmps11, List.size_toArray, List.length_cons, List.length_nil, Nat.reduceAdd, Nat.reduceSub, Array.replicate_succ, Array.replicate_zero, List.push_toArray, List.append_toArray, List.nil_append, List.cons_append]
  have q := f.cell
  have qi := i0.cell
  go_wp2_with fail
  refine (ifv_any _ _ _ _).mono ?_
  rintro e w1 ⟨rfl, k1⟩
  rw [HV.out]
  have f := f.belowAll k1
  have i0 := i0.belowAll k1
  have K := hide (B0.out.trans (k1.mono B0.out.size))
  clear k1 q qi
  have q := f.cell
  have qi := i0.cell
  go_wp2
  go_loopw [33] (fun i wr => ∃ k : Nat, i = .int .i64 k ∧ k ≤ len ∧ Bk wr w.heap.size 27 #[.int .i64 a, .int .i64 b, .int .i64 c] ∧ Bk wr (w.heap.size + 1) 3 #[.int .i64 (I : Int)] ∧ Below w.heap.size w wr) (fun i _ => len - (intOf i).toNat)
  case atStart => exact ⟨0, rfl, by omega, f, i0, K.out⟩
  case round =>
    clear f i0 K q qi
    obtain ⟨k, rfl, hk, f, i0, K⟩ := hrel
    have HK := hide K
    clear K
    have hs := HH.out.below HK.out (Nat.le_refl _)
    have q := f.cell
    have qi := i0.cell
    by_cases hlt : k < len
    · have hlt' : (k : Int) < (len : Int) := by omega
      obtain ⟨y, rfl, hc⟩ := hs.at_ hlt
      obtain ⟨x, hx⟩ : ∃ x, xs.getD k 0 = x := ⟨_, rfl⟩
      rw [hx] at hc
      have hm : x ∈ xs := by rw [← hx, List.getD_eq_getElem?_getD, List.getElem?_eq_getElem (by have := HZ.out; omega)]; exact List.getElem_mem _
      have HB := hide (show (decide (0 ≤ x) && decide (x < 2 ^ a.toNat)) = true by simpa using HBY.out x hm)
      go_wp2_with fail
      refine (ihas_any _ _ _ _ _ r1 r2).mono ?_
      rintro e w2 ⟨rfl, k2⟩
      rw [HB.out]
      have f2 := f.belowAll k2
      have i2 := i0.belowAll k2
      have K2 := hide (HK.out.trans (k2.mono HK.out.size))
      clear k2 q qi hc
      go_wp2
      go_roundw
      case rel => exact ⟨k + 1, by go_num, by omega, f2, i2, K2.out⟩
      case measure => simp [intOf]; omega
    · have hge : ¬ (k : Int) < (len : Int) := by omega
      obtain rfl : k = len := by omega
      have HS := hide hs
      have KK := HK.out
      have z1 : IntKind.i64.wrap (4 * (L : Int)) = 4 * (L : Int) := IntWalk.i64_in _ (by omega)
      have z2 : IntKind.i64.wrap ((I : Int) + 4 * (L : Int)) = (I : Int) + 4 * (L : Int) := IntWalk.i64_in _ (by omega)
      have z3 : IntKind.i64.wrap ((k : Int) * ((I : Int) + 4 * (L : Int))) = (T : Int) := by rw [HPR.out]; exact IntWalk.i64_in _ (by omega)
      go_wp2
      go_region_held3 (fun W => (∀ i, W.cell? ⟨w.heap.size, i, none⟩ = #[Value.int .i64 a, .int .i64 b, .int .i64 c][i]?) ∧ (∀ i, W.cell? ⟨w.heap.size + 1, i, none⟩ = #[Value.int .i64 (I : Int)][i]?) ∧ Bk W w.heap.size 27 #[Value.int .i64 a, .int .i64 b, .int .i64 c] ∧ Bk W (w.heap.size + 1) 3 #[Value.int .i64 (I : Int)] ∧ Below w.heap.size w W)
        (first | exact ⟨f6.cell, i6.cell, f6, i6, l6⟩ | exact ⟨q, qi, f, i0, KK.drew⟩)
        (first | (go_at_call 17; refine (ifl_any _ _ _ _).mono ?_; rintro e w6 ⟨rfl, k6⟩; rw [HL.out]; go_split_ands; have f6 := Bk.belowAll (g := w.heap.size) (by assumption) k6; have i6 := Bk.belowAll (g := w.heap.size + 1) (by assumption) k6; have l6 := Below.trans (by assumption) (k6.mono (Below.size (by assumption)))))
      clear q qi f i0 KK
      have hd4 : decide ((500 : Int) < (T : Int)) = false := by simp; omega
      have hmk := HMK.out
      have q := ((f6.alloc (.cells (madeCells #[.int .i64 0] T) 3)).alloc (.cells #[.slice (some ⟨w6.heap.size, 0, none⟩) 0 T] 24)).cell
      go_wp2_with (go_at_call 27; refine (iframes_any _ _ _ _ _ _ _).mono ?_; rintro e w7 ⟨rfl, rfl⟩)
      have st0 : LSt w a b c I p k cap (w.heap.size + 1) w6.heap.size ((((w6.alloc (.cells (madeCells #[.int .i64 0] T) 3)).alloc (.cells #[.slice (some ⟨w6.heap.size, 0, none⟩) 0 T] 24)).alloc (.cells #[.int .i64 a, .int .i64 b, .int .i64 c] 27)).alloc (.cells #[.slice p k cap] 24)) 0 w6.heap.size T [] := by
        have n1 := Bk.new (w6.alloc (.cells (madeCells #[.int .i64 0] T) 3)) 24 #[.slice (some ⟨w6.heap.size, 0, none⟩) 0 T]
        have n2 := Bk.new ((w6.alloc (.cells (madeCells #[.int .i64 0] T) 3)).alloc (.cells #[.slice (some ⟨w6.heap.size, 0, none⟩) 0 T] 24)) 27 #[.int .i64 a, .int .i64 b, .int .i64 c]
        have n3 := Bk.new (((w6.alloc (.cells (madeCells #[.int .i64 0] T) 3)).alloc (.cells #[.slice (some ⟨w6.heap.size, 0, none⟩) 0 T] 24)).alloc (.cells #[.int .i64 a, .int .i64 b, .int .i64 c] 27)) 24 #[.slice p k cap]
        simp only [World.size_alloc] at n1 n2 n3
        have o0 : Own (w6.alloc (.cells (madeCells #[.int .i64 0] T) 3)) w6.heap.size w6.heap.size 0 T [] := Own.room (Nat.le_refl _) (Bk.new w6 _ _) (by simpa using size_madeCells #[.int .i64 0] (T * 1)) (by omega)
        exact ⟨by omega, i6.lt, (n1.alloc _).alloc _, ((o0.alloc _).alloc _).alloc _, (((i6.alloc _).alloc _).alloc _).alloc _, n2.alloc _, n3, (((l6.alloc l6.size _).alloc (by have := l6.size; simp; omega) _).alloc (by have := l6.size; simp; omega) _).alloc (by have := l6.size; simp; omega) _⟩
      have hws := l6.size
      clear q f6 i6 l6 hmk
      refine (wpIn_wide (n := 5)).1 ?_
      refine' wpIn_rf (gf := 38) (lb := #[.pointer (some ⟨w6.heap.size + 3, 0, none⟩), .pointer (some ⟨w6.heap.size + 2, 0, none⟩)]) rfl (enters_of Try.func38 (by kernel_rfl) rfl)
        (iframes_says a b c p k cap xs (w6.heap.size + 2) (w6.heap.size + 3) HOK.out)
        (fun j W => ∃ m g cp, LSt w a b c I p k cap (w.heap.size + 1) w6.heap.size W m g cp (lin a b c I (xs.take j)))
        (fun j W h => h.elim fun m h => h.elim fun g h => h.elim fun cp h => h.fa HH.out)
        (fun j W W2 h k => h.elim fun m h => h.elim fun g h => h.elim fun cp h => ⟨m, g, cp, h.below k⟩)
        (fun j W l o o' hq h hl ho => h.elim fun m h => h.elim fun g h => h.elim fun cp h => ⟨m, g, cp, h.put (by simp at hq; omega) hl ho o'⟩)
        (fun x v B W l o o' h hl ho => h.elim fun g h => h.elim fun n h => h.elim fun cp h => ⟨g, n, cp, h.1, h.2.putObj' hl ho o'⟩)
        ⟨0, _, _, st0⟩ _ ?assign ?body ?done
      case assign =>
        intro l v W K hK
        gi_wp2
        exact hK
      case body =>
        rintro l j v W0 W hj ⟨m, g, cp, st⟩ hb ⟨h8, n8, c8, rfl, o8⟩
        have hne : g ≠ h8 := by have h1 := st.2.2.2.1.lt.2; have h2 := o8.lt.1; omega
        have st1 := st.below hb
        have hm : m ≤ 2000 := by
          have h1 := st1.2.2.2.1.len
          rw [lin_len I HV.out, List.length_take] at h1
          have h2 : (min j xs.length) * (I + 4 * (flOf a b c).toNat) ≤ 20 * (20 + 4 * 12) := Nat.mul_le_mul (by have := HZ.out; omega) (by omega)
          omega
        have hn8 : n8 ≤ 12 ∧ n8 = (flOf a b c).toNat := by have h1 := o8.len; rw [frm_toNat HV.out] at h1; exact ⟨by omega, h1.symm⟩
        obtain ⟨hn12, hnf⟩ := hn8
        obtain ⟨F8, hF8⟩ : ∃ F8, frm a b c (xs.getD j 0) = F8 := ⟨_, rfl⟩
        rw [hF8] at o8
        have HFF := hide hF8
        obtain ⟨Z, hZ⟩ : ∃ Z, lin a b c I (xs.take j) = Z := ⟨_, rfl⟩
        rw [hZ] at st1
        have HZZ := hide hZ
        have HLJ := hide hj
        have HNF := hide hnf
        clear hF8 hZ st hb hj hnf
        have qb := st1.2.2.1.cell
        have qi := st1.2.2.2.2.1.cell
        gi_wp2
        clear qb qi
        gi_loopw [59] (fun i wr => ∃ (n g cp : Nat), i = .int .i64 n ∧ n ≤ I ∧ LSt w a b c I p k cap (w.heap.size + 1) w6.heap.size wr (m + n) g cp (Z ++ List.replicate n 1) ∧ Own wr W0.heap.size h8 n8 c8 F8 ∧ g ≠ h8 ∧ KeepsOthers W wr) (fun i _ => I - (intOf i).toNat)
        case atStart => exact ⟨0, g, cp, rfl, by omega, by simpa using st1, o8, hne, KeepsOthers.refl W⟩
        case round =>
          clear st1 o8 hne
          obtain ⟨n, g, cp, rfl, hnI, st, o8, hne, ko⟩ := hrel
          have qb := st.2.2.1.cell
          have qi := st.2.2.2.2.1.cell
          have HN := hide hne
          have HO8 := hide o8.lt.2
          clear hne
          by_cases hlt : n < I
          · have hlt' : (n : Int) < (I : Int) := by omega
            gi_wp2_with (gi_at_builtin; refine app_int2In rfl (.tmp 61) (.tmp 62) rfl rfl rfl (Own.alloc st.2.2.2.1 _) (Bk.new _ _ _) (by omega) (by have := st.2.2.2.1.lt; simp; omega) ?_; intro g9 cp9 w9 o9 k9 hg9; obtain ⟨k3, st9, ko9, fr9⟩ := st.step o9 k9; have o89 := fr9 _ _ _ _ _ o8 (Ne.symm HN.out); have hne9 : g9 ≠ h8 := (by rcases hg9 with e | e <;> first | (rw [e]; exact HN.out) | (simp at e; have := HO8.out; omega)); have qb9 := k3.cell; have qf9 : w9.frozen? ⟨w6.heap.size + 1, 0, none⟩ = false := Boxed.frozen k3)
            go_roundw
            case rel => exact ⟨n + 1, g9, cp9, by go_num, by omega, by rw [List.replicate_succ', ← List.append_assoc]; exact st9, o89, hne9, ko.trans ko9⟩
            case measure => simp [intOf]; omega
          · have hge : ¬ (n : Int) < (I : Int) := by omega
            obtain rfl : n = I := by omega
            gi_wp2
            clear qb qi HO8
            gi_loopw [67, 14] (fun i _ wr => ∃ (r g cp : Nat), i = .int .i64 r ∧ r ≤ n8 ∧ LSt w a b c n p k cap (w.heap.size + 1) w6.heap.size wr (m + n + 4 * r) g cp ((Z ++ List.replicate n 1) ++ (rep4 F8).take (4 * r)) ∧ Own wr W0.heap.size h8 n8 c8 F8 ∧ g ≠ h8 ∧ KeepsOthers W wr) (fun i _ _ => n8 - (intOf i).toNat)
            case atStart => exact ⟨0, g, cp, rfl, by omega, by simpa using st, o8, HN.out, ko⟩
            case round =>
              clear st o8 ko HN
              obtain ⟨r, g, cp, rfl, hr8, st, o8, hne, ko⟩ := hrel
              have HN := hide hne
              have HO8 := hide o8.len
              clear hne
              by_cases hlr : r < n8
              · have hlr' : (r : Int) < (n8 : Int) := by omega
                have hc := o8.cellAt hlr
                obtain ⟨u, hu⟩ : ∃ u, F8.getD r 0 = u := ⟨_, rfl⟩
                rw [hu] at hc
                have HU := hide hu
                clear hu
                gi_wp2
                clear hc
                gi_loopw [71] (fun i wr => ∃ (s g cp : Nat), i = .int .i64 s ∧ s ≤ 4 ∧ LSt w a b c n p k cap (w.heap.size + 1) w6.heap.size wr (m + n + (4 * r + s)) g cp ((Z ++ List.replicate n 1) ++ (rep4 F8).take (4 * r + s)) ∧ Own wr W0.heap.size h8 n8 c8 F8 ∧ g ≠ h8 ∧ KeepsOthers W wr) (fun i _ => 4 - (intOf i).toNat)
                case atStart => exact ⟨0, g, cp, rfl, by omega, st, o8, HN.out, ko⟩
                case round =>
                  clear st o8 ko HN
                  obtain ⟨s, g, cp, rfl, hs4, st, o8, hne, ko⟩ := hrel
                  have HN := hide hne
                  have HO9 := hide o8.lt.2
                  clear hne
                  by_cases hls : s < 4
                  · have hls' : (s : Int) < 4 := by omega
                    have qb := st.2.2.1.cell
                    gi_wp2_with (gi_at_builtin; refine app_int2In rfl (.tmp 73) (.tmp 75) rfl rfl rfl (Own.alloc st.2.2.2.1 _) (Bk.new _ _ _) (by omega) (by have := st.2.2.2.1.lt; simp; omega) ?_; intro g9 cp9 w9 o9 k9 hg9; obtain ⟨k3, st9, ko9, fr9⟩ := st.step o9 k9; have o89 := fr9 _ _ _ _ _ o8 (Ne.symm HN.out); have hne9 : g9 ≠ h8 := (by rcases hg9 with e | e <;> first | (rw [e]; exact HN.out) | (simp at e; have := HO9.out; omega)); have qb9 := k3.cell; have qf9 : w9.frozen? ⟨w6.heap.size + 1, 0, none⟩ = false := Boxed.frozen k3)
                    go_roundw
                    case rel =>
                      refine ⟨s + 1, g9, cp9, by go_num, by omega, ?_, o89, hne9, ko.trans ko9⟩
                      rw [List.append_assoc, show u = F8.getD ((4 * r + s) / 4) 0 by rw [show (4 * r + s) / 4 = r by omega]; exact HU.out.symm, rep4_snoc (by rw [HO8.out]; omega)] at st9
                      exact st9
                    case measure => simp [intOf]; omega
                  · have hge2 : ¬ (s : Int) < 4 := by omega
                    obtain rfl : s = 4 := by omega
                    gi_wp2
                    go_roundw
                    case rel => exact ⟨r + 1, g, cp, by go_num, by omega, st, o8, HN.out, ko⟩
                    case measure => simp [intOf]; omega
              · have hge2 : ¬ (r : Int) < (n8 : Int) := by omega
                obtain rfl : r = n8 := by omega
                gi_wp2
                refine ⟨ko, ?_⟩
                refine ⟨m + n + 4 * r, g, cp, ?_⟩
                rw [← lin_snoc a b c n HLJ.out, HZZ.out]
                unfold chunk
                rw [HFF.out, ← List.append_assoc]
                rw [List.take_of_length_le (by rw [rep4_len, HO8.out]; exact Nat.le_refl _)] at st
                exact st
      case done =>
        rintro D W hD ⟨m, g, cp, st⟩ hK
        have qb := st.2.2.1.cell
        go_wp2
        refine ⟨by simp, .inl ⟨_, _, rfl, run_takeDeferred hK, ?_⟩⟩
        have st2 := st.put (by simp at hD; omega) hK rfl (.deferred none)
        rw [List.take_of_length_le (Nat.le_refl _)] at st2
        exact ⟨_, results_tmp2 rfl _ _ _, g, m, cp, rfl, st2.2.2.2.1.le_ (by omega), st2.2.2.2.2.2.2.2⟩
set_option maxHeartbeats 4000000 in
theorem iline_no (a b c idle : Int) (p : Option Addr) (len cap : Nat) (xs : List Int) (w : World) (h : Sl w p len cap xs) (hp : lok a b c idle xs = false) :
    Calls Try.prog 11 #[.agg #[.int .i64 a, .int .i64 b, .int .i64 c], .slice p len cap, .int .i64 idle] w fun e w' =>
      e = .returned (.tuple #[.slice none 0 0, .bool false]) ∧ Below w.heap.size w w' := by
  have hlc : (len : Int) ≤ 9223372036854775807 := by have := h.2.1; have := h.2.2.1; omega
  have HZ := hide h.1
  have HP := hide hp
  have HH := hide h
  have B0 := hide (((Below.refl w.heap.size w).alloc (Nat.le_refl _) (.cells #[.int .i64 a, .int .i64 b, .int .i64 c] 27)).alloc (by simp) (.cells #[.int .i64 idle] 3))
  have f := (Bk.new w 27 #[.int .i64 a, .int .i64 b, .int .i64 c]).alloc (.cells #[.int .i64 idle] 3)
  have i0 := Bk.new (w.alloc (.cells #[.int .i64 a, .int .i64 b, .int .i64 c] 27)) 3 #[.int .i64 idle]
  rw [World.size_alloc] at i0
  cases hv : fv a b c
  · have HV := hide hv
    clear hv hp h
    have q := f.cell
    have qi := i0.cell
    go_enter Try.func11, Try.ntmps11
    go_wp2_with fail
    refine (ifv_any _ _ _ _).mono ?_
    rintro e w1 ⟨rfl, k1⟩
    rw [HV.out]
    have i0 := i0.belowAll k1
    have qi := i0.cell
    have K := hide (B0.out.trans (k1.mono B0.out.size))
    clear k1
    cases hd1 : decide ((20 : Int) < (len : Int)) <;> cases hd2 : decide ((idle : Int) < 0) <;> cases hd3 : decide ((20 : Int) < (idle : Int))
    all_goals
      go_wp2
      go_ret2
      exact ⟨rfl, K.out⟩
  · obtain ⟨r1, r2, r3, r4, r5, r6⟩ := fv_iff.1 hv
    obtain ⟨l7, l12⟩ := fl_bd hv
    have HV := hide hv
    clear hv hp h
    have q := f.cell
    have qi := i0.cell
    go_enter Try.func11, Try.ntmps11
    go_wp2_with fail
    refine (ifv_any _ _ _ _).mono ?_
    rintro e w1 ⟨rfl, k1⟩
    rw [HV.out]
    have f1 := f.belowAll k1
    have i1 := i0.belowAll k1
    have K := hide (B0.out.trans (k1.mono B0.out.size))
    clear k1 q qi f i0
    have q := f1.cell
    have qi := i1.cell
    by_cases hg : decide ((20 : Int) < (len : Int)) = false ∧ decide ((idle : Int) < 0) = false ∧ decide ((20 : Int) < (idle : Int)) = false
    · obtain ⟨hd1, hd2, hd3⟩ := hg
      have hn' : (len : Int) ≤ 20 := by simpa using hd1
      have hi0 : 0 ≤ idle := by simpa using hd2
      have hi1 : idle ≤ 20 := by simpa using hd3
      have HE := hide (show (bok a xs && decide (xs.length * (idle.toNat + 4 * (flOf a b c).toNat) ≤ 500)) = false by
        have := HP.out
        unfold lok pre1 at this
        rw [HV.out] at this
        have hx : xs.length ≤ 20 := by have := HZ.out; omega
        simpa [hi0, hi1, hx] using this)
      obtain ⟨L, hL, hL0, hL1⟩ : ∃ L : Nat, flOf a b c = (L : Int) ∧ 7 ≤ L ∧ L ≤ 12 := ⟨(flOf a b c).toNat, by omega, by omega, by omega⟩
      have HL := hide hL
      obtain ⟨I, rfl⟩ := Int.eq_ofNat_of_zero_le hi0
      have hpr : (len : Int) * ((I : Int) + 4 * (L : Int)) = ((xs.length * (I + 4 * L) : Nat) : Int) := by rw [HZ.out]; push_cast; rfl
      obtain ⟨T, hT⟩ : ∃ T, xs.length * (I + 4 * L) = T := ⟨_, rfl⟩
      have hTb : T ≤ 20 * (20 + 4 * 12) := by rw [← hT]; exact Nat.mul_le_mul (by have := HZ.out; omega) (by omega)
      rw [hT] at hpr
      have HT := hide hT
      have HPR := hide hpr
      clear hL hT hpr
      go_wp2
      go_loopw [33] (fun i wr => ∃ k : Nat, i = .int .i64 k ∧ k ≤ len ∧ (∀ j, j < k → (decide (0 ≤ xs.getD j 0) && decide (xs.getD j 0 < 2 ^ a.toNat)) = true) ∧ Bk wr w.heap.size 27 #[.int .i64 a, .int .i64 b, .int .i64 c] ∧ Bk wr (w.heap.size + 1) 3 #[.int .i64 (I : Int)] ∧ Below w.heap.size w wr) (fun i _ => len - (intOf i).toNat)
      case atStart => exact ⟨0, rfl, by omega, fun j hj => absurd hj (by omega), f1, i1, K.out⟩
      case round =>
        clear f1 i1 K q qi
        obtain ⟨k, rfl, hk, hall, f, i0, K⟩ := hrel
        have HK := hide K
        have HA := hide hall
        clear K hall
        have hs := HH.out.below HK.out (Nat.le_refl _)
        have q := f.cell
        have qi := i0.cell
        by_cases hlt : k < len
        · have hlt' : (k : Int) < (len : Int) := by omega
          obtain ⟨y, rfl, hc⟩ := hs.at_ hlt
          obtain ⟨x, hx⟩ : ∃ x, xs.getD k 0 = x := ⟨_, rfl⟩
          rw [hx] at hc
          have HX := hide hx
          clear hx
          cases hb : (decide (0 ≤ x) && decide (x < 2 ^ a.toNat))
          · have HB := hide hb
            clear hb
            go_wp2_with fail
            refine (ihas_any _ _ _ _ _ r1 r2).mono ?_
            rintro e w2 ⟨rfl, k2⟩
            rw [HB.out]
            have K2 := hide (HK.out.trans (k2.mono HK.out.size))
            clear k2 q qi hc
            go_wp2
            go_ret2
            exact ⟨rfl, K2.out⟩
          · have HB := hide hb
            clear hb
            go_wp2_with fail
            refine (ihas_any _ _ _ _ _ r1 r2).mono ?_
            rintro e w2 ⟨rfl, k2⟩
            rw [HB.out]
            have f2 := f.belowAll k2
            have i2 := i0.belowAll k2
            have K2 := hide (HK.out.trans (k2.mono HK.out.size))
            clear k2 q qi hc
            go_wp2
            go_roundw
            case rel =>
              refine ⟨k + 1, by go_num, by omega, fun j hj => ?_, f2, i2, K2.out⟩
              by_cases e : j = k
              · subst e; rw [HX.out]; exact HB.out
              · exact HA.out j (by omega)
            case measure => simp [intOf]; omega
        · have hge : ¬ (k : Int) < (len : Int) := by omega
          obtain rfl : k = len := by omega
          have hbk := bok_yes (a := a) (xs := xs) fun j hj => HA.out j (by have := HZ.out; omega)
          have hT5 : 500 < T := by
            have h1 := HE.out
            rw [hbk, HL.out] at h1
            have h2 := HT.out
            simp only [Bool.true_and, decide_eq_false_iff_not, Int.toNat_natCast] at h1
            omega
          have KK := HK.out
          have z1 : IntKind.i64.wrap (4 * (L : Int)) = 4 * (L : Int) := IntWalk.i64_in _ (by omega)
          have z2 : IntKind.i64.wrap ((I : Int) + 4 * (L : Int)) = (I : Int) + 4 * (L : Int) := IntWalk.i64_in _ (by omega)
          have z3 : IntKind.i64.wrap ((k : Int) * ((I : Int) + 4 * (L : Int))) = (T : Int) := by rw [HPR.out]; exact IntWalk.i64_in _ (by omega)
          clear hbk
          go_wp2
          go_region_held3 (fun W => (∀ i, W.cell? ⟨w.heap.size, i, none⟩ = #[Value.int .i64 a, .int .i64 b, .int .i64 c][i]?) ∧ (∀ i, W.cell? ⟨w.heap.size + 1, i, none⟩ = #[Value.int .i64 (I : Int)][i]?) ∧ Bk W w.heap.size 27 #[Value.int .i64 a, .int .i64 b, .int .i64 c] ∧ Bk W (w.heap.size + 1) 3 #[Value.int .i64 (I : Int)] ∧ Below w.heap.size w W)
            (first | exact ⟨f6.cell, i6.cell, f6, i6, l6⟩ | exact ⟨q, qi, f, i0, KK.drew⟩)
            (first | (go_at_call 17; refine (ifl_any _ _ _ _).mono ?_; rintro e w6 ⟨rfl, k6⟩; rw [HL.out]; go_split_ands; have f6 := Bk.belowAll (g := w.heap.size) (by assumption) k6; have i6 := Bk.belowAll (g := w.heap.size + 1) (by assumption) k6; have l6 := Below.trans (by assumption) (k6.mono (Below.size (by assumption)))))
          clear q qi f i0 KK
          have hd4 : decide ((500 : Int) < (T : Int)) = true := by simp; omega
          go_wp2
          go_ret2
          exact ⟨rfl, l6⟩
    · cases hd1 : decide ((20 : Int) < (len : Int)) <;> cases hd2 : decide ((idle : Int) < 0) <;> cases hd3 : decide ((20 : Int) < (idle : Int))
      case false.false.false => exact absurd ⟨hd1, hd2, hd3⟩ hg
      all_goals
        clear hg
        go_wp2
        go_ret2
        exact ⟨rfl, K.out⟩
end Go.Proofs.Ytemioipedkbkiaa
