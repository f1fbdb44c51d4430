/-
  The plain law of frames: what the bits of a byte read as, what one wrong bit does. No program in sight.
-/
import Derived.Test.YtemioipedkbkiaaFrmB
import Derived.Test.YtemioipedkbkiaaSmp
namespace Go.Proofs.Ytemioipedkbkiaa
set_option linter.unusedVariables false

/-- The value of the first k bits of a frame, the least one first. -/
def vs (zs : List Int) : Nat → Int
  | 0 => 0
  | k + 1 => vs zs k + zs.getD (1 + k) 0 * 2 ^ k
theorem vs_bd {zs : List Int} (h : allBt zs = true) : ∀ k, k < zs.length → 0 ≤ vs zs k ∧ vs zs k < 2 ^ k
  | 0, _ => by simp [vs]
  | k + 1, hk => by
    have ih := vs_bd h k (by omega)
    have hb := allBt_at h (j := 1 + k) (by omega)
    have hp : (0 : Int) < 2 ^ k := Int.pow_pos (by omega)
    simp only [vs]
    rw [Int.pow_succ]
    obtain e | e : zs.getD (1 + k) 0 = 0 ∨ zs.getD (1 + k) 0 = 1 := by omega
    all_goals (rw [e]; omega)
def st (c : Int) (len : Nat) (zs : List Int) : Bool := zs.getD (len - 1) 0 == 0 || (c == 2 && zs.getD (len - 2) 0 == 0)
def gd (a b c : Int) (len : Nat) (zs : List Int) : Bool := fv a b c && (decide ((len : Int) = flOf a b c) && (allBt zs && zs.getD 0 0 == 0))
def ffv (a b c : Int) (len : Nat) (zs : List Int) : Int := if gd a b c len zs = true then vs zs a.toNat else 0
def ffc (a b c : Int) (len : Nat) (zs : List Int) : Int := if gd a b c len zs = true then if st c len zs = true then 2 else if b ≠ 0 ∧ zs.getD (1 + a.toNat) 0 ≠ pb b (vs zs a.toNat) then 1 else 0 else 3
/-- The sum of the first k bits behind the start bit. -/
def sm (zs : List Int) : Nat → Int
  | 0 => 0
  | k + 1 => sm zs k + zs.getD (1 + k) 0
theorem ones_add {V : Int} (k : Nat) (hk : k < 8) (h0 : 0 ≤ V) (h1 : V < 2 ^ k) : ones (V + 1 * 2 ^ k) = ones V + 1 := by
  obtain rfl | rfl | rfl | rfl | rfl | rfl | rfl | rfl : k = 0 ∨ k = 1 ∨ k = 2 ∨ k = 3 ∨ k = 4 ∨ k = 5 ∨ k = 6 ∨ k = 7 := by omega
  all_goals (simp at h1; unfold ones; simp <;> omega)
theorem ones_vs {zs : List Int} (h : allBt zs = true) : ∀ k, k ≤ 8 → k < zs.length → ones (vs zs k) = sm zs k
  | 0, _, _ => by simp [vs, sm, ones]
  | k + 1, h8, hk => by
    have ih := ones_vs h k (by omega) (by omega)
    have hb := allBt_at h (j := 1 + k) (by omega)
    have hV := vs_bd h k (by omega)
    simp only [vs, sm]
    obtain e | e : zs.getD (1 + k) 0 = 0 ∨ zs.getD (1 + k) 0 = 1 := by omega
    · rw [e]; simp [ih]
    · rw [e, ones_add k (by omega) hV.1 hV.2, ih]
theorem vs_bit {zs : List Int} (h : allBt zs = true) : ∀ k, k ≤ 8 → k < zs.length → ∀ i, i < k → vs zs k / 2 ^ i % 2 = zs.getD (1 + i) 0
  | 0, _, _, i, hi => absurd hi (by omega)
  | k + 1, h8, hk, i, hi => by
    have hb := allBt_at h (j := 1 + k) (by omega)
    have hV := vs_bd h k (by omega)
    simp only [vs]
    generalize hz : zs.getD (1 + k) 0 = z at hb ⊢
    by_cases e : i = k
    · subst e
      rw [hz]
      clear hz
      generalize vs zs i = V at hV ⊢
      obtain rfl | rfl | rfl | rfl | rfl | rfl | rfl | rfl : i = 0 ∨ i = 1 ∨ i = 2 ∨ i = 3 ∨ i = 4 ∨ i = 5 ∨ i = 6 ∨ i = 7 := by omega
      all_goals (simp at hV ⊢; omega)
    · have ih := vs_bit h k (by omega) (by omega) i (by omega)
      rw [← ih]
      clear hz ih
      generalize vs zs k = V at hV ⊢
      obtain rfl | rfl | rfl | rfl | rfl | rfl | rfl | rfl : k = 0 ∨ k = 1 ∨ k = 2 ∨ k = 3 ∨ k = 4 ∨ k = 5 ∨ k = 6 ∨ k = 7 := by omega
      all_goals
        obtain rfl | rfl | rfl | rfl | rfl | rfl | rfl : i = 0 ∨ i = 1 ∨ i = 2 ∨ i = 3 ∨ i = 4 ∨ i = 5 ∨ i = 6 := by omega
        all_goals first | (exfalso; omega) | (simp at hV ⊢ <;> omega)
/-! ### What a frame reads as -/
theorem frm_length {a b c x : Int} (h : fv a b c = true) : ((frm a b c x).length : Int) = flOf a b c := by
  obtain ⟨r1, r2, r3, r4, r5, r6⟩ := fv_iff.1 h
  unfold frm flOf
  rw [if_pos h]
  simp only [List.length_cons, List.length_append, fbits_len, List.length_replicate]
  split <;> simp <;> omega
theorem frm_zero (a b c x : Int) : (frm a b c x).getD 0 0 = 0 := by simp [frm]
theorem frm_bit (a b c x : Int) {i : Nat} (hi : i < a.toNat) : (frm a b c x).getD (1 + i) 0 = x / 2 ^ i % 2 := by
  unfold frm
  rw [Nat.add_comm, List.getD_cons_succ, List.getD_eq_getElem?_getD, List.getElem?_append_left (by rw [fbits_len]; exact hi)]
  simp [fbits, hi]
theorem frm_par (a b c x : Int) (hb : b ≠ 0) : (frm a b c x).getD (1 + a.toNat) 0 = pb b x := by
  unfold frm
  rw [Nat.add_comm, List.getD_cons_succ, List.getD_eq_getElem?_getD, List.getElem?_append_right (by rw [fbits_len]; omega), fbits_len]
  simp [hb]
theorem frm_one {a b c x : Int} (h : fv a b c = true) {j : Nat} (h0 : (flOf a b c).toNat - c.toNat ≤ j) (h1 : j < (flOf a b c).toNat) : (frm a b c x).getD j 0 = 1 := by
  obtain ⟨r1, r2, r3, r4, r5, r6⟩ := fv_iff.1 h
  unfold flOf at h0 h1
  rw [if_pos h] at h0 h1
  unfold frm
  obtain ⟨j, rfl⟩ : ∃ i, j = i + 1 := ⟨j - 1, by split at h0 <;> omega⟩
  rw [List.getD_cons_succ, List.getD_eq_getElem?_getD, List.getElem?_append_right (by rw [fbits_len]; split at h0 <;> omega), fbits_len]
  by_cases hb : b = 0
  · simp [hb] at h0 h1 ⊢
    rw [List.getElem?_replicate, if_pos (by omega)]; simp
  · simp only [hb, if_false] at h0 h1 ⊢
    rw [List.getElem?_append_right (by simp; omega), List.getElem?_replicate, if_pos (by simp; omega)]; simp
theorem fok_parts {a b c x : Int} (h : fok a b c x = true) : fv a b c = true ∧ 0 ≤ x ∧ x < 2 ^ a.toNat := by
  simp only [fok, Bool.and_eq_true, decide_eq_true_eq] at h
  exact h
theorem fok_mk {a b c x : Int} (h : fv a b c = true) (h0 : 0 ≤ x) (h1 : x < 2 ^ a.toNat) : fok a b c x = true := by
  simp only [fok, Bool.and_eq_true, decide_eq_true_eq]
  exact ⟨h, h0, h1⟩
theorem frm_bits (a b c x : Int) : allBt (frm a b c x) = true := by
  unfold allBt frm
  rw [List.all_eq_true]
  intro z hz
  rw [isBt_iff]
  simp only [List.mem_cons, List.mem_append, fbits, List.mem_map, List.mem_range, List.mem_replicate] at hz
  rcases hz with rfl | ⟨i, _, rfl⟩ | hz | ⟨_, rfl⟩
  · omega
  · omega
  · split at hz
    · cases hz
    · simp at hz; subst hz; exact pb_bit _ _
  · omega
theorem vs_frm {a b c x : Int} (h0 : 0 ≤ x) : ∀ k, k ≤ 8 → k ≤ a.toNat → vs (frm a b c x) k = x % 2 ^ k
  | 0, _, _ => by simp [vs]
  | k + 1, h8, hk => by
    have ih := vs_frm (a := a) (b := b) (c := c) h0 k (by omega) (by omega)
    simp only [vs]
    rw [ih, frm_bit a b c x (by omega)]
    obtain rfl | rfl | rfl | rfl | rfl | rfl | rfl | rfl : k = 0 ∨ k = 1 ∨ k = 2 ∨ k = 3 ∨ k = 4 ∨ k = 5 ∨ k = 6 ∨ k = 7 := by omega
    all_goals (simp <;> omega)
theorem vs_frm_all {a b c x : Int} (h : fok a b c x = true) : vs (frm a b c x) a.toNat = x := by
  obtain ⟨hv, h0, h1⟩ := fok_parts h
  obtain ⟨r1, r2, r3, r4, r5, r6⟩ := fv_iff.1 hv
  rw [vs_frm h0 _ (by omega) (Nat.le_refl _), Int.emod_eq_of_lt h0 h1]
theorem gd_frm {a b c x : Int} (h : fv a b c = true) : gd a b c (frm a b c x).length (frm a b c x) = true := by
  unfold gd
  rw [h, frm_bits, frm_zero, frm_length h]; simp
theorem st_frm {a b c x : Int} (h : fv a b c = true) : st c (frm a b c x).length (frm a b c x) = false := by
  obtain ⟨r1, r2, r3, r4, r5, r6⟩ := fv_iff.1 h
  have hl := frm_length (x := x) h
  have hf : 7 ≤ flOf a b c := by unfold flOf; rw [if_pos h]; split <;> omega
  unfold st
  rw [frm_one h (by omega) (by omega)]
  obtain rfl | rfl : c = 1 ∨ c = 2 := by omega
  · simp
  · rw [frm_one h (by omega) (by omega)]; simp
theorem ffv_frm {a b c x : Int} (h : fok a b c x = true) : ffv a b c (frm a b c x).length (frm a b c x) = x := by
  unfold ffv
  rw [if_pos (gd_frm (fok_parts h).1), vs_frm_all h]
theorem ffc_frm {a b c x : Int} (h : fok a b c x = true) : ffc a b c (frm a b c x).length (frm a b c x) = 0 := by
  unfold ffc
  rw [if_pos (gd_frm (fok_parts h).1), if_neg (by rw [st_frm (fok_parts h).1]; simp), if_neg (fun ⟨hb, hp⟩ => hp (by rw [frm_par a b c x hb, vs_frm_all h]))]
theorem sm_frm {a b c x : Int} (h : fok a b c x = true) : sm (frm a b c x) a.toNat = ones x := by
  obtain ⟨hv, h0, h1⟩ := fok_parts h
  obtain ⟨r1, r2, r3, r4, r5, r6⟩ := fv_iff.1 hv
  have hl := frm_length (x := x) hv
  have hf : a + 2 ≤ flOf a b c := by unfold flOf; rw [if_pos hv]; split <;> omega
  rw [← ones_vs (frm_bits a b c x) a.toNat (by omega) (by omega), vs_frm_all h]
theorem sm_par {a b c x : Int} (h : fok a b c x = true) (hb : b ≠ 0) : sm (frm a b c x) (a.toNat + 1) % 2 = b % 2 := by
  obtain ⟨hv, h0, h1⟩ := fok_parts h
  obtain ⟨r1, r2, r3, r4, r5, r6⟩ := fv_iff.1 hv
  simp only [sm]
  rw [sm_frm h, frm_par a b c x hb]
  unfold pb
  obtain rfl | rfl : b = 1 ∨ b = 2 := by omega
  · rw [if_pos rfl]; omega
  · rw [if_neg (by omega)]; omega
/-! ### One bit turned -/
theorem getD_set_eq {zs : List Int} {i : Nat} {v : Int} (h : i < zs.length) : (zs.set i v).getD i 0 = v := by
  rw [List.getD_eq_getElem?_getD, List.getElem?_set_self h]; rfl
theorem getD_set_ne {zs : List Int} {i j : Nat} {v : Int} (h : i ≠ j) : (zs.set i v).getD j 0 = zs.getD j 0 := by
  rw [List.getD_eq_getElem?_getD, List.getElem?_set_ne h, ← List.getD_eq_getElem?_getD]
theorem sm_set {zs : List Int} {m : Nat} {v : Int} (hl : 1 + m < zs.length) : ∀ k, sm (zs.set (1 + m) v) k = if m < k then sm zs k - zs.getD (1 + m) 0 + v else sm zs k
  | 0 => by simp [sm]
  | k + 1 => by
    have ih := sm_set (v := v) hl k
    simp only [sm]
    rw [ih]
    by_cases e : m = k
    · subst e
      rw [getD_set_eq hl, if_neg (by omega), if_pos (by omega)]
      omega
    · rw [getD_set_ne (by omega)]
      by_cases h : m < k
      · rw [if_pos h, if_pos (by omega)]; omega
      · rw [if_neg h, if_neg (by omega)]
theorem allBt_set {zs : List Int} {i : Nat} {v : Int} (h : allBt zs = true) (hv : isBt v = true) : allBt (zs.set i v) = true := by
  refine allBt_yes fun j hj => ?_
  by_cases e : i = j
  · subst e
    rw [List.length_set] at hj
    rw [getD_set_eq hj]; exact hv
  · rw [getD_set_ne e]
    rw [List.length_set] at hj
    exact isBt_iff.2 (allBt_at h hj)
theorem ffc_flip {a b c x : Int} (h : fok a b c x = true) (hb : b ≠ 0) {m : Nat} (hm : m ≤ a.toNat) :
    ffc a b c (frm a b c x).length ((frm a b c x).set (1 + m) (1 - (frm a b c x).getD (1 + m) 0)) = 1 := by
  obtain ⟨hv, h0, h1⟩ := fok_parts h
  obtain ⟨r1, r2, r3, r4, r5, r6⟩ := fv_iff.1 hv
  have hl := frm_length (x := x) hv
  have hf : flOf a b c = 1 + a + c + 1 := by simp [flOf, hv, hb]
  have hlen : 1 + m < (frm a b c x).length := by omega
  have hbit := allBt_at (frm_bits a b c x) hlen
  have hA := allBt_set (i := 1 + m) (v := 1 - (frm a b c x).getD (1 + m) 0) (frm_bits a b c x) (isBt_iff.2 (by omega))
  have hg : gd a b c (frm a b c x).length ((frm a b c x).set (1 + m) (1 - (frm a b c x).getD (1 + m) 0)) = true := by
    unfold gd
    rw [hv, hA, getD_set_ne (by omega), frm_zero, hl]; simp
  have hs : st c (frm a b c x).length ((frm a b c x).set (1 + m) (1 - (frm a b c x).getD (1 + m) 0)) = false := by
    have hs0 := st_frm (x := x) hv
    unfold st at hs0 ⊢
    obtain rfl | rfl : c = 1 ∨ c = 2 := by omega
    · rw [getD_set_ne (by omega)]
      simpa using hs0
    · rw [getD_set_ne (by omega), getD_set_ne (by omega)]
      simpa using hs0
  unfold ffc
  rw [if_pos hg, if_neg (by rw [hs]; simp), if_pos]
  refine ⟨hb, ?_⟩
  have hov := ones_vs hA a.toNat (by omega) (by simp; omega)
  have hso := sm_frm h
  by_cases e : m = a.toNat
  · rw [sm_set hlen, if_neg (by omega), hso] at hov
    subst e
    unfold pb
    rw [hov, getD_set_eq hlen, frm_par a b c x hb]
    unfold pb
    split <;> omega
  · rw [sm_set hlen, if_pos (by omega), hso] at hov
    unfold pb
    rw [hov, getD_set_ne (by omega), frm_par a b c x hb]
    unfold pb
    split <;> omega
/-! ### What is read was written -/
theorem gd_parts {a b c : Int} {len : Nat} {zs : List Int} (h : gd a b c len zs = true) : fv a b c = true ∧ (len : Int) = flOf a b c ∧ allBt zs = true ∧ zs.getD 0 0 = 0 := by
  simpa [gd] using h
theorem ffc_fine {a b c : Int} {zs : List Int} (h : ffc a b c zs.length zs = 0) : fok a b c (ffv a b c zs.length zs) = true ∧ frm a b c (ffv a b c zs.length zs) = zs := by
  unfold ffc at h
  split at h
  · rename_i hg
    split at h
    · cases h
    · rename_i hs
      split at h
      · cases h
      · rename_i hp
        obtain ⟨hv, hl, hA, h00⟩ := gd_parts hg
        obtain ⟨r1, r2, r3, r4, r5, r6⟩ := fv_iff.1 hv
        have hfl : flOf a b c = if b = 0 then 1 + a + c else 1 + a + c + 1 := by simp [flOf, hv]
        have ha : a.toNat < zs.length := by split at hfl <;> omega
        have hV := vs_bd hA a.toNat ha
        have e : ffv a b c zs.length zs = vs zs a.toNat := by unfold ffv; rw [if_pos hg]
        rw [e]
        refine ⟨fok_mk hv hV.1 hV.2, ?_⟩
        have hlf := frm_length (x := vs zs a.toNat) hv
        refine getD_eq (by omega) fun j hj => ?_
        rcases Nat.eq_zero_or_pos j with rfl | hj0
        · rw [frm_zero, h00]
        · obtain ⟨i, rfl⟩ : ∃ i, j = 1 + i := ⟨j - 1, by omega⟩
          by_cases hi : i < a.toNat
          · rw [frm_bit _ _ _ _ hi, vs_bit hA _ (by omega) ha i hi]
          · by_cases hpb : b ≠ 0 ∧ i = a.toNat
            · obtain ⟨hb, rfl⟩ := hpb
              rw [frm_par _ _ _ _ hb]
              by_cases e : zs.getD (1 + a.toNat) 0 = pb b (vs zs a.toNat)
              · exact e.symm
              · exact absurd ⟨hb, e⟩ hp
            · have hge : (flOf a b c).toNat - c.toNat ≤ 1 + i := by
                by_cases hb : b = 0
                · rw [if_pos hb] at hfl; omega
                · rw [if_neg hb] at hfl
                  have : i ≠ a.toNat := fun e => hpb ⟨hb, e⟩
                  omega
              rw [frm_one hv hge (by omega)]
              have hbit := allBt_at hA (j := 1 + i) (by omega)
              have hs' : st c zs.length zs = false := by simpa using hs
              unfold st at hs'
              simp only [Bool.or_eq_false_iff, Bool.and_eq_false_iff, beq_eq_false_iff_ne] at hs'
              obtain ⟨s1, s2⟩ := hs'
              by_cases e1 : 1 + i = zs.length - 1
              · rw [e1] at hbit ⊢; omega
              · have : c = 2 := by omega
                have e2 : 1 + i = zs.length - 2 := by omega
                rcases s2 with s2 | s2
                · exact absurd this s2
                · rw [e2] at hbit ⊢; omega
  · cases h
/-! ### No frame; a wrong stop bit -/
theorem gd_set0 {a b c : Int} {len : Nat} {zs : List Int} (hl : 0 < zs.length) : gd a b c len (zs.set 0 1) = false := by
  unfold gd
  rw [getD_set_eq hl]; simp
theorem gd_short {a b c : Int} {len : Nat} {zs ys : List Int} (h : gd a b c len zs = true) (h0 : 0 < len) : gd a b c (len - 1) ys = false := by
  obtain ⟨hv, hl, hA, h00⟩ := gd_parts h
  unfold gd
  rw [decide_eq_false (by omega)]; simp
theorem ffc_bad {a b c : Int} {len : Nat} {zs : List Int} (h : gd a b c len zs = false) : ffc a b c len zs = 3 := by simp [ffc, h]
theorem ffc_gd {a b c : Int} {len : Nat} {zs : List Int} (h : ffc a b c len zs ≠ 3) : gd a b c len zs = true := by
  cases hg : gd a b c len zs
  · exact absurd (ffc_bad hg) h
  · rfl
theorem ffc_stop {a b c : Int} {len : Nat} {zs : List Int} (h : gd a b c len zs = true) : (ffc a b c len zs == 2) = st c len zs := by
  unfold ffc
  rw [if_pos h]
  cases st c len zs
  · rw [if_neg (by simp)]
    split <;> simp
  · simp
end Go.Proofs.Ytemioipedkbkiaa
