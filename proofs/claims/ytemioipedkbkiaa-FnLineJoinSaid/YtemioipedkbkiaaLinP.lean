/-
  The plain law of lines: the samples of bytes, the bytes of samples. No program in sight.
-/
import Derived.Test.YtemioipedkbkiaaFrmP
namespace Go.Proofs.Ytemioipedkbkiaa
set_option linter.unusedVariables false

/-- Either no 0 comes, or the first one. -/
theorem sf_cases (zs : List Int) (k : Nat) : (sf zs k = -1 ∧ ∀ j, k ≤ j → j < zs.length → zs.getD j 0 ≠ 0) ∨ ∃ p : Nat, sf zs k = p ∧ k ≤ p ∧ p < zs.length ∧ zs.getD p 0 = 0 ∧ ∀ j, k ≤ j → j < p → zs.getD j 0 ≠ 0 := by
  induction hm : zs.length - k using Nat.strongRecOn generalizing k with
  | ind m ih =>
    by_cases h : k < zs.length
    · by_cases hz : zs.getD k 0 = 0
      · exact .inr ⟨k, sf_here h hz, Nat.le_refl _, h, hz, fun j h1 h2 => absurd h2 (by omega)⟩
      · rw [sf_next h hz]
        rcases ih (zs.length - (k + 1)) (by omega) (k + 1) rfl with ⟨e, hall⟩ | ⟨p, e, h1, h2, h3, hall⟩
        · refine .inl ⟨e, fun j h1 h2 => ?_⟩
          by_cases e' : j = k
          · subst e'; exact hz
          · exact hall j (by omega) h2
        · refine .inr ⟨p, e, by omega, h2, h3, fun j h4 h5 => ?_⟩
          by_cases e' : j = k
          · subst e'; exact hz
          · exact hall j (by omega) h5
    · exact .inl ⟨sf_end h, fun j h1 h2 => absurd h2 (by omega)⟩
/-- The third sample of each bit of a frame at a place; what they read as. -/
def pk (zs : List Int) (p L : Nat) : List Int := (List.range L).map fun i => zs.getD (p + 4 * i + 2) 0
def byc (a b c : Int) (zs : List Int) (p : Nat) : Int := if p + 4 * ((flOf a b c).toNat - 1) + 2 < zs.length then ffc a b c (flOf a b c).toNat (pk zs p (flOf a b c).toNat) else 3
def byv (a b c : Int) (zs : List Int) (p : Nat) : Int := if p + 4 * ((flOf a b c).toNat - 1) + 2 < zs.length then ffv a b c (flOf a b c).toNat (pk zs p (flOf a b c).toNat) else 0
theorem pk_len (zs : List Int) (p L : Nat) : (pk zs p L).length = L := by simp [pk]
theorem pk_snoc (zs : List Int) (p L : Nat) : pk zs p L ++ [zs.getD (p + 4 * L + 2) 0] = pk zs p (L + 1) := by simp [pk, List.range_succ]
theorem pk_at (zs : List Int) (p L : Nat) {i : Nat} (h : i < L) : (pk zs p L).getD i 0 = zs.getD (p + 4 * i + 2) 0 := by
  simp [pk, List.getD_eq_getElem?_getD, h]
/-- All bytes of samples, from a place on. -/
def rd (a b c : Int) (zs : List Int) (k : Nat) : List (Int × Int) :=
  if h : k < zs.length then
    if zs.getD k 0 = 0 then
      if byc a b c zs k = 3 then rd a b c zs (k + 1) else (byv a b c zs k, byc a b c zs k) :: rd a b c zs (k + 1 + (4 * (flOf a b c).toNat - 2))
    else rd a b c zs (k + 1)
  else []
termination_by zs.length - k
section
variable {a b c : Int} {zs : List Int} {k : Nat}
theorem rd_end (h : ¬ k < zs.length) : rd a b c zs k = [] := by rw [rd, dif_neg h]
theorem rd_bad (h : k < zs.length) (hz : zs.getD k 0 = 0) (hc : byc a b c zs k = 3) : rd a b c zs k = rd a b c zs (k + 1) := by rw [rd, dif_pos h, if_pos hz, if_pos hc]
theorem rd_got (h : k < zs.length) (hz : zs.getD k 0 = 0) (hc : byc a b c zs k ≠ 3) (hL : 1 ≤ (flOf a b c).toNat) : rd a b c zs k = (byv a b c zs k, byc a b c zs k) :: rd a b c zs (k + 4 * (flOf a b c).toNat - 1) := by
  rw [rd, dif_pos h, if_pos hz, if_neg hc, show k + 1 + (4 * (flOf a b c).toNat - 2) = k + 4 * (flOf a b c).toNat - 1 by omega]
theorem rd_next (h : k < zs.length) (hz : zs.getD k 0 ≠ 0) : rd a b c zs k = rd a b c zs (k + 1) := by rw [rd, dif_pos h, if_neg hz]
theorem rd_skip : ∀ m, k + m ≤ zs.length → (∀ j, k ≤ j → j < k + m → zs.getD j 0 ≠ 0) → rd a b c zs k = rd a b c zs (k + m)
  | 0, _, _ => rfl
  | m + 1, h, hall => by
    rw [rd_skip m (by omega) fun j h1 h2 => hall j h1 (by omega), rd_next (by omega) (hall (k + m) (by omega) (by omega))]
    rfl
theorem rd_none (h : sf zs k = -1) : rd a b c zs k = [] := by
  rcases sf_cases zs k with ⟨_, hall⟩ | ⟨p, e, _⟩
  · by_cases hk : k < zs.length
    · rw [rd_skip (zs.length - k) (by omega) fun j h1 h2 => hall j h1 (by omega)]
      exact rd_end (by omega)
    · exact rd_end hk
  · omega
theorem rd_some {p : Nat} (h : sf zs k = p) : p < zs.length ∧ zs.getD p 0 = 0 ∧ k ≤ p ∧ rd a b c zs k = rd a b c zs p := by
  rcases sf_cases zs k with ⟨e, _⟩ | ⟨p', e, h1, h2, h3, hall⟩
  · omega
  · obtain rfl : p' = p := by omega
    refine ⟨h2, h3, h1, ?_⟩
    rw [rd_skip (p' - k) (by omega) fun j h4 h5 => hall j h4 (by omega), show k + (p' - k) = p' by omega]
end
theorem rd_count {a b c : Int} {zs : List Int} (hL : 1 ≤ (flOf a b c).toNat) (k : Nat) : (rd a b c zs k).length = 0 ∨ k + ((rd a b c zs k).length - 1) * (4 * (flOf a b c).toNat - 1) < zs.length := by
  induction hm : zs.length - k using Nat.strongRecOn generalizing k with
  | ind m ih =>
    by_cases h : k < zs.length
    · by_cases hz : zs.getD k 0 = 0
      · by_cases hc : byc a b c zs k = 3
        · rw [rd_bad h hz hc]
          rcases ih _ (by omega) (k + 1) rfl with e | e
          · exact .inl e
          · exact .inr (by omega)
        · rw [rd_got h hz hc hL]
          right
          rcases ih _ (by omega) (k + 4 * (flOf a b c).toNat - 1) rfl with e | e
          · simp [e]; exact h
          · simp only [List.length_cons, Nat.add_sub_cancel]
            generalize (rd a b c zs (k + 4 * (flOf a b c).toNat - 1)).length = n at e ⊢
            rcases Nat.eq_zero_or_pos n with rfl | hn
            · simpa using h
            · obtain ⟨n, rfl⟩ : ∃ q, n = q + 1 := ⟨n - 1, by omega⟩
              simp only [Nat.add_sub_cancel] at e
              rw [Nat.add_mul, Nat.one_mul]
              omega
      · rw [rd_next h hz]
        rcases ih _ (by omega) (k + 1) rfl with e | e
        · exact .inl e
        · exact .inr (by omega)
    · exact .inl (by rw [rd_end h]; rfl)
theorem rd_codes {a b c : Int} {zs : List Int} (hL : 1 ≤ (flOf a b c).toNat) (k : Nat) : ∀ x ∈ rd a b c zs k, x.2 ≠ 3 := by
  induction hm : zs.length - k using Nat.strongRecOn generalizing k with
  | ind m ih =>
    by_cases h : k < zs.length
    · by_cases hz : zs.getD k 0 = 0
      · by_cases hc : byc a b c zs k = 3
        · rw [rd_bad h hz hc]
          exact ih _ (by omega) (k + 1) rfl
        · rw [rd_got h hz hc hL]
          intro x hx
          rcases List.mem_cons.1 hx with rfl | hx
          · exact hc
          · exact ih _ (by omega) _ rfl x hx
      · rw [rd_next h hz]
        exact ih _ (by omega) (k + 1) rfl
    · rw [rd_end h]; intro x hx; cases hx
/-! ### One sample ahead -/
theorem getD_cons1 (y : Int) (zs : List Int) (k : Nat) : (y :: zs).getD (k + 1) 0 = zs.getD k 0 := rfl
theorem pk_cons (y : Int) (zs : List Int) (p L : Nat) : pk (y :: zs) (p + 1) L = pk zs p L := by
  unfold pk
  refine List.map_congr_left fun i _ => ?_
  rw [show p + 1 + 4 * i + 2 = (p + 4 * i + 2) + 1 by omega]; rfl
theorem byc_cons (a b c y : Int) (zs : List Int) (p : Nat) : byc a b c (y :: zs) (p + 1) = byc a b c zs p := by
  unfold byc
  rw [pk_cons, List.length_cons]
  by_cases h : p + 4 * ((flOf a b c).toNat - 1) + 2 < zs.length
  · rw [if_pos h, if_pos (by omega)]
  · rw [if_neg h, if_neg (by omega)]
theorem byv_cons (a b c y : Int) (zs : List Int) (p : Nat) : byv a b c (y :: zs) (p + 1) = byv a b c zs p := by
  unfold byv
  rw [pk_cons, List.length_cons]
  by_cases h : p + 4 * ((flOf a b c).toNat - 1) + 2 < zs.length
  · rw [if_pos h, if_pos (by omega)]
  · rw [if_neg h, if_neg (by omega)]
theorem rd_cons {a b c y : Int} {zs : List Int} (hL : 1 ≤ (flOf a b c).toNat) (k : Nat) : rd a b c (y :: zs) (k + 1) = rd a b c zs k := by
  induction hm : zs.length - k using Nat.strongRecOn generalizing k with
  | ind m ih =>
    by_cases h : k < zs.length
    · have h' : k + 1 < (y :: zs).length := by simpa using h
      by_cases hz : zs.getD k 0 = 0
      · by_cases hc : byc a b c zs k = 3
        · rw [rd_bad h hz hc, rd_bad h' hz (by rw [byc_cons]; exact hc)]
          exact ih _ (by omega) (k + 1) rfl
        · rw [rd_got h hz hc hL, rd_got h' hz (by rw [byc_cons]; exact hc) hL, byc_cons, byv_cons, show k + 1 + 4 * (flOf a b c).toNat - 1 = (k + 4 * (flOf a b c).toNat - 1) + 1 by omega, ih _ (by omega) _ rfl]
      · rw [rd_next h hz, rd_next h' hz]
        exact ih _ (by omega) (k + 1) rfl
    · rw [rd_end h, rd_end (by simpa using h)]
theorem rd_one {a b c : Int} {zs : List Int} (hL : 1 ≤ (flOf a b c).toNat) : rd a b c (1 :: zs) 0 = rd a b c zs 0 := by
  rw [rd_next (by simp) (by simp)]
  exact rd_cons hL 0
/-! ### A line -/
def rep4 (zs : List Int) : List Int := zs.flatMap fun z => List.replicate 4 z
def chunk (a b c : Int) (idle : Nat) (x : Int) : List Int := List.replicate idle 1 ++ rep4 (frm a b c x)
def lin (a b c : Int) (idle : Nat) (xs : List Int) : List Int := xs.flatMap (chunk a b c idle)
theorem rep4_len (zs : List Int) : (rep4 zs).length = 4 * zs.length := by
  induction zs with
  | nil => rfl
  | cons z zs ih => unfold rep4 at ih ⊢; simp [List.flatMap_cons]; simp at ih; omega
theorem rep4_at : ∀ (zs : List Int) (k : Nat), k < 4 * zs.length → (rep4 zs).getD k 0 = zs.getD (k / 4) 0
  | [], k, h => absurd h (by simp)
  | z :: zs, k, h => by
    have e : rep4 (z :: zs) = List.replicate 4 z ++ rep4 zs := by simp [rep4]
    rw [e, List.getD_eq_getElem?_getD]
    by_cases hk : k < 4
    · rw [List.getElem?_append_left (by simpa using hk), List.getElem?_replicate, if_pos hk, show k / 4 = 0 by omega]; rfl
    · rw [List.getElem?_append_right (by simp; omega), List.length_replicate, ← List.getD_eq_getElem?_getD, rep4_at zs (k - 4) (by simp at h; omega)]
      obtain ⟨q, hq⟩ : ∃ q, k / 4 = q + 1 := ⟨k / 4 - 1, by omega⟩
      rw [hq, show (k - 4) / 4 = q by omega]; rfl
theorem chunk_len {a b c x : Int} (idle : Nat) (h : fv a b c = true) : (chunk a b c idle x).length = idle + 4 * (flOf a b c).toNat := by
  have := frm_length (x := x) h
  simp [chunk, rep4_len]; omega
theorem lin_len {a b c : Int} (idle : Nat) (h : fv a b c = true) : ∀ xs, (lin a b c idle xs).length = xs.length * (idle + 4 * (flOf a b c).toNat)
  | [] => by simp [lin]
  | x :: xs => by
    have ih := lin_len idle h xs
    unfold lin at ih ⊢
    rw [List.flatMap_cons, List.length_append, chunk_len idle h, ih, List.length_cons, Nat.add_mul, Nat.one_mul]; omega
theorem lin_append (a b c : Int) (idle : Nat) (xs ys : List Int) : lin a b c idle xs ++ lin a b c idle ys = lin a b c idle (xs ++ ys) := by simp [lin]
theorem getD_app_left {xs ys : List Int} {k : Nat} (h : k < xs.length) : (xs ++ ys).getD k 0 = xs.getD k 0 := by
  rw [List.getD_eq_getElem?_getD, List.getElem?_append_left h, ← List.getD_eq_getElem?_getD]
theorem getD_app_right {xs ys : List Int} {k : Nat} (h : xs.length ≤ k) : (xs ++ ys).getD k 0 = ys.getD (k - xs.length) 0 := by
  rw [List.getD_eq_getElem?_getD, List.getElem?_append_right h, ← List.getD_eq_getElem?_getD]
theorem frm_toNat {a b c x : Int} (h : fv a b c = true) : (frm a b c x).length = (flOf a b c).toNat := by
  have := frm_length (x := x) h; omega
theorem fl_pos {a b c : Int} (h : fv a b c = true) : 7 ≤ (flOf a b c).toNat ∧ (flOf a b c).toNat ≤ 12 := by
  obtain ⟨r1, r2, r3, r4, r5, r6⟩ := fv_iff.1 h
  unfold flOf; rw [if_pos h]; split <;> omega
/-- A frame in the middle of samples. -/
theorem pk_frm {a b c x : Int} {pre post : List Int} (h : fv a b c = true) : pk (pre ++ (rep4 (frm a b c x) ++ post)) pre.length (flOf a b c).toNat = frm a b c x := by
  refine getD_eq (by rw [pk_len, frm_toNat h]) fun j hj => ?_
  rw [pk_len] at hj
  have hr := rep4_len (frm a b c x)
  rw [frm_toNat h] at hr
  rw [pk_at _ _ _ hj, getD_app_right (by omega), getD_app_left (by omega), rep4_at _ _ (by rw [frm_toNat h]; omega), show (pre.length + 4 * j + 2 - pre.length) / 4 = j by omega]
theorem by_frm {a b c x : Int} {pre post : List Int} (h : fok a b c x = true) :
    byv a b c (pre ++ (rep4 (frm a b c x) ++ post)) pre.length = x ∧ byc a b c (pre ++ (rep4 (frm a b c x) ++ post)) pre.length = 0 := by
  have hv := (fok_parts h).1
  have hr := rep4_len (frm a b c x)
  rw [frm_toNat hv] at hr
  have hp := fl_pos hv
  unfold byv byc
  rw [if_pos (by simp only [List.length_append]; omega), if_pos (by simp only [List.length_append]; omega), pk_frm hv, ← frm_toNat (x := x) hv, ffv_frm h, ffc_frm h]
  exact ⟨rfl, rfl⟩
theorem rd_chunk {a b c x : Int} {idle : Nat} {pre post : List Int} (h : fok a b c x = true) :
    rd a b c (pre ++ (chunk a b c idle x ++ post)) pre.length = (x, 0) :: rd a b c (pre ++ (chunk a b c idle x ++ post)) (pre.length + (idle + 4 * (flOf a b c).toNat)) := by
  have hv := (fok_parts h).1
  have hp := fl_pos hv
  have hr := rep4_len (frm a b c x)
  rw [frm_toNat hv] at hr
  have hlen : (pre ++ (chunk a b c idle x ++ post)).length = pre.length + (idle + 4 * (flOf a b c).toNat) + post.length := by
    simp only [List.length_append, chunk_len idle hv]; omega
  have e : pre ++ (chunk a b c idle x ++ post) = (pre ++ List.replicate idle 1) ++ (rep4 (frm a b c x) ++ post) := by simp [chunk]
  have hl2 : (pre ++ List.replicate idle (1 : Int)).length = pre.length + idle := by simp
  have hby := by_frm (pre := pre ++ List.replicate idle 1) (post := post) h
  rw [← e, hl2] at hby
  have h1 : ∀ j, j < idle → (pre ++ (chunk a b c idle x ++ post)).getD (pre.length + j) 0 = 1 := fun j hj => by
    rw [e, getD_app_left (by simp; omega), getD_app_right (by omega), List.getD_eq_getElem?_getD, List.getElem?_replicate, if_pos (by omega)]; rfl
  have h2 : ∀ j, j < 4 * (flOf a b c).toNat → (pre ++ (chunk a b c idle x ++ post)).getD (pre.length + idle + j) 0 = (frm a b c x).getD (j / 4) 0 := fun j hj => by
    rw [e, getD_app_right (by rw [hl2]; omega), getD_app_left (by omega), hl2, rep4_at _ _ (by rw [frm_toNat hv]; omega), show pre.length + idle + j - (pre.length + idle) = j by omega]
  generalize pre ++ (chunk a b c idle x ++ post) = zs at hby hlen h1 h2 ⊢
  rw [rd_skip idle (by omega) fun j h3 h4 => by
    have := h1 (j - pre.length) (by omega)
    rw [show pre.length + (j - pre.length) = j by omega] at this
    rw [this]; decide]
  have h0 := h2 0 (by omega)
  rw [Nat.add_zero, Nat.zero_div, frm_zero] at h0
  rw [rd_got (by omega) h0 (by rw [hby.2]; decide) (by omega), hby.1, hby.2]
  congr 1
  have hlast := h2 (4 * (flOf a b c).toNat - 1) (by omega)
  obtain ⟨r1, r2, r3, r4, r5, r6⟩ := fv_iff.1 hv
  rw [frm_one hv (by omega) (by omega), show pre.length + idle + (4 * (flOf a b c).toNat - 1) = pre.length + idle + 4 * (flOf a b c).toNat - 1 by omega] at hlast
  rw [rd_next (by omega) (by rw [hlast]; decide), show pre.length + idle + 4 * (flOf a b c).toNat - 1 + 1 = pre.length + (idle + 4 * (flOf a b c).toNat) by omega]
theorem rd_lin {a b c : Int} {idle : Nat} : ∀ (xs : List Int) (pre : List Int), (∀ x ∈ xs, fok a b c x = true) → rd a b c (pre ++ lin a b c idle xs) pre.length = xs.map fun x => (x, 0)
  | [], pre, _ => by
    rw [rd_end (by simp [lin])]; rfl
  | x :: xs, pre, h => by
    have hx := h x (by simp)
    have e : pre ++ lin a b c idle (x :: xs) = pre ++ (chunk a b c idle x ++ lin a b c idle xs) := by simp [lin]
    have ih := rd_lin (idle := idle) xs (pre ++ chunk a b c idle x) fun y hy => h y (by simp [hy])
    rw [e, rd_chunk hx]
    rw [List.length_append, chunk_len idle (fok_parts hx).1, List.append_assoc] at ih
    rw [ih]; rfl
theorem sf_lin_nil {a b c : Int} {idle : Nat} : sf (lin a b c idle []) 0 = -1 := sf_end (by simp [lin])
theorem sf_lin {a b c x : Int} {idle : Nat} {xs : List Int} (h : fok a b c x = true) : sf (lin a b c idle (x :: xs)) 0 = idle := by
  have hv := (fok_parts h).1
  have hp := fl_pos hv
  have hr := rep4_len (frm a b c x)
  rw [frm_toNat hv] at hr
  have e : lin a b c idle (x :: xs) = List.replicate idle 1 ++ (rep4 (frm a b c x) ++ lin a b c idle xs) := by simp [lin, chunk]
  have h0 : (lin a b c idle (x :: xs)).getD idle 0 = 0 := by
    rw [e, getD_app_right (by simp), getD_app_left (by rw [List.length_replicate]; omega), List.length_replicate, Nat.sub_self, rep4_at _ _ (by rw [frm_toNat hv]; omega), Nat.zero_div, frm_zero]
  have hl : idle < (lin a b c idle (x :: xs)).length := by rw [e]; simp only [List.length_append, List.length_replicate]; omega
  rcases sf_cases (lin a b c idle (x :: xs)) 0 with ⟨_, hall⟩ | ⟨p, e1, _, h2, h3, hall⟩
  · exact absurd h0 (hall idle (by omega) hl)
  · rw [e1]
    by_cases h4 : idle < p
    · exact absurd h0 (hall idle (by omega) h4)
    · by_cases h5 : p < idle
      · rw [e, getD_app_left (by simpa using h5), List.getD_eq_getElem?_getD, List.getElem?_replicate, if_pos h5] at h3
        cases h3
      · omega
/-! ### Only the middle counts -/
theorem pks_set {zs : List Int} {p L k : Nat} {v : Int} (h : k < p ∨ (k - p) % 4 ≠ 2) : pk (zs.set k v) p L = pk zs p L := by
  unfold pk
  refine List.map_congr_left fun i _ => ?_
  exact getD_set_ne (by omega)
theorem byc_set {a b c : Int} {zs : List Int} {p k : Nat} {v : Int} (h : k < p ∨ (k - p) % 4 ≠ 2) : byc a b c (zs.set k v) p = byc a b c zs p := by
  unfold byc; rw [pks_set h, List.length_set]
theorem byv_set {a b c : Int} {zs : List Int} {p k : Nat} {v : Int} (h : k < p ∨ (k - p) % 4 ≠ 2) : byv a b c (zs.set k v) p = byv a b c zs p := by
  unfold byv; rw [pks_set h, List.length_set]
theorem lin_bits {a b c : Int} {idle : Nat} {xs : List Int} : allBt (lin a b c idle xs) = true := by
  unfold allBt lin chunk rep4
  rw [List.all_eq_true]
  intro z hz
  rw [isBt_iff]
  simp only [List.mem_flatMap, List.mem_append, List.mem_replicate] at hz
  obtain ⟨x, _, hz | ⟨y, hy, _, rfl⟩⟩ := hz
  · omega
  · have := frm_bits a b c x
    unfold allBt at this
    rw [List.all_eq_true] at this
    exact isBt_iff.1 (this _ hy)
end Go.Proofs.Ytemioipedkbkiaa
