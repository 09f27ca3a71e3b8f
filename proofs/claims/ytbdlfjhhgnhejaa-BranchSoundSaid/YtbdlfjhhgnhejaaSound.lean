/- A good proof tells the truth: no vector of its box is feasible and cheaper. Plain mathematics. -/
import Derived.Test.YtbdlfjhhgnhejaaCheck
import Derived.Test.YtbdlfjhhgnhejaaPlain
namespace Go.Proofs.Ytbdlfjhhgnhejaa

/-- The rows' products, each times its multiplier. -/
def rowsN (a : List (List Int)) (ys x : List Int) (n : Nat) : Nat → Int
  | 0 => 0
  | i + 1 => rowsN a ys x n i + nth ys i * dotN (nrow a i) x n
/-- The rests, each times the vector's number. -/
def restS (a : List (List Int)) (c ys x : List Int) (d f : Int) : Nat → Int
  | 0 => 0
  | j + 1 => restS a c ys x d f j + restJ a c ys d f j * nth x j
theorem rest_step (a : List (List Int)) (ys x : List Int) (k0 : Int) (n : Nat) : ∀ k, restN a ys k0 n k * nth x n = k0 * nth x n - (rowsN a ys x (n + 1) k - rowsN a ys x n k)
  | 0 => by simp [restN, rowsN]
  | k + 1 => by
    have ih := rest_step a ys x k0 n k
    simp only [restN, rowsN, dotN]
    generalize restN a ys k0 n k = p at *
    generalize rowsN a ys x (n + 1) k = q at *
    generalize rowsN a ys x n k = r at *
    generalize nth x n = s at *
    generalize nth ys k = t at *
    generalize nth (nrow a k) n = u at *
    generalize dotN (nrow a k) x n = v at *
    have e1 : (p - t * u) * s = p * s - t * u * s := Int.sub_mul _ _ _
    have e2 : t * (v + u * s) = t * v + t * u * s := by rw [Int.mul_add, Int.mul_assoc]
    rw [e1, e2]; omega
theorem rowsN_zero (a : List (List Int)) (ys x : List Int) : ∀ k, rowsN a ys x 0 k = 0
  | 0 => rfl
  | k + 1 => by simp only [rowsN, dotN, rowsN_zero a ys x k]; simp
theorem restS_eq (a : List (List Int)) (c ys x : List Int) (d f : Int) : ∀ n, restS a c ys x d f n = f * d * dotN c x n - rowsN a ys x n a.length
  | 0 => by simp [restS, dotN, rowsN_zero]
  | n + 1 => by
    have ih := restS_eq a c ys x d f n
    have h := rest_step a ys x (f * nth c n * d) n a.length
    simp only [restS, dotN, restJ]
    rw [ih, h]
    have e : f * d * (dotN c x n + nth c n * nth x n) = f * d * dotN c x n + f * nth c n * d * nth x n := by
      rw [Int.mul_add]; congr 1
      rw [← Int.mul_assoc, Int.mul_right_comm f d (nth c n)]
    rw [e]; omega
theorem min_le_mul (r l h x : Int) (h1 : l ≤ x) (h2 : x ≤ h) : min (r * l) (r * h) ≤ r * x := by
  rcases Int.lt_or_le r 0 with hr | hr
  · have : r * h ≤ r * x := Int.mul_le_mul_of_nonpos_left (by omega) h2
    omega
  · have : r * l ≤ r * x := Int.mul_le_mul_of_nonneg_left h1 hr
    omega
theorem bound_le (a : List (List Int)) (b c ys x : List Int) (d f : Int) (lo hi : List Int) : ∀ n, (∀ j, j < n → nth lo j ≤ nth x j ∧ nth x j ≤ nth hi j) → boundN a b c ys d f lo hi n ≤ dotZ ys b + restS a c ys x d f n
  | 0, _ => by simp [boundN, restS]
  | n + 1, h => by
    have ih := bound_le a b c ys x d f lo hi n fun j hj => h j (by omega)
    have h1 := h n (by omega)
    have := min_le_mul (restJ a c ys d f n) (nth lo n) (nth hi n) (nth x n) h1.1 h1.2
    simp only [boundN, restS]; omega
theorem rows_ge (a : List (List Int)) (b ys x : List Int) (n : Nat) (hy : ∀ i, 0 ≤ nth ys i) : ∀ k, (∀ i, i < k → nth b i ≤ dotN (nrow a i) x n) → dotN ys b k ≤ rowsN a ys x n k
  | 0, _ => by simp [dotN, rowsN]
  | k + 1, h => by
    have ih := rows_ge a b ys x n hy k fun i hi => h i (by omega)
    have := Int.mul_le_mul_of_nonneg_left (h k (by omega)) (hy k)
    simp only [dotN, rowsN]; omega

/-- A leaf's bound is one. -/
theorem leaf_bound {a : List (List Int)} {b c ys x : List Int} {d f : Int} {lo hi : List Int} (hok : progOk a b c = true) (hl : leafOk a.length ys d = true) (hf : feasB a b x = true)
    (hx : ∀ j, j < c.length → nth lo j ≤ nth x j ∧ nth x j ≤ nth hi j) : boundN a b c ys d f lo hi c.length ≤ f * d * dotZ c x := by
  obtain ⟨-, -, hr, hb, -, -⟩ := progOk_parts hok
  obtain ⟨hyl, -, -, hy⟩ := leafOk_parts hl
  have h1 := bound_le a b c ys x d f lo hi c.length hx
  rw [restS_eq] at h1
  have hy0 : ∀ i, 0 ≤ nth ys i := fun i => by
    by_cases hi : i < ys.length
    · exact (hy _ (nth_mem hi)).1
    · unfold nth; rw [List.getD_eq_getElem?_getD, List.getElem?_eq_none (by omega)]; simp
  have h2 := rows_ge a b ys x c.length hy0 a.length fun i hi => by
    unfold feasB at hf
    rw [List.all_eq_true] at hf
    have := of_decide_eq_true (hf i (List.mem_range.2 hi))
    unfold dotZ at this
    rw [(hr _ (nrow_mem hi)).1] at this
    exact this
  have e : dotZ ys b = dotN ys b a.length := by unfold dotZ; rw [hyl]
  rw [e] at h1
  show _ ≤ f * d * dotN c x c.length
  omega

theorem nth_set {l : List Int} {v j : Nat} {t : Int} : nth (l.set v t) j = if v = j ∧ j < l.length then t else nth l j := by
  unfold nth
  rw [List.getD_eq_getElem?_getD, List.getD_eq_getElem?_getD, List.getElem?_set]
  by_cases h : v = j
  · subst h
    by_cases h2 : v < l.length
    · simp [h2]
    · simp [h2]
  · simp [h]

/-- What a leaf tells. -/
theorem good_sound {a : List (List Int)} {b c ys x : List Int} {cost d : Int} {none : Bool} {lo hi : List Int} (hok : progOk a b c = true) (h : goodB a b c cost none ys d lo hi = true) (hf : feasB a b x = true)
    (hx : ∀ j, j < c.length → nth lo j ≤ nth x j ∧ nth x j ≤ nth hi j) : none = false ∧ cost ≤ dotZ c x := by
  unfold goodB at h
  rw [Bool.and_eq_true, Bool.or_eq_true, Bool.and_eq_true, decide_eq_true_eq, decide_eq_true_eq] at h
  obtain ⟨hl, h⟩ := h
  have h0 := leaf_bound (f := 0) hok hl hf hx
  have h1 := leaf_bound (f := 1) hok hl hf hx
  obtain ⟨-, hd, -, -⟩ := leafOk_parts hl
  rcases h with h | ⟨h2, h3⟩
  · simp at h0; omega
  · refine ⟨by simpa using h2, ?_⟩
    have h4 : (cost - 1) * d < dotZ c x * d := by rw [Int.one_mul, Int.mul_comm d] at h1; omega
    have := Int.lt_of_mul_lt_mul_right h4 (by omega)
    omega

/-- What a tree tells. -/
theorem read_sound {a : List (List Int)} {b c x : List Int} {cost : Int} {none : Bool} (hok : progOk a b c = true) (hf : feasB a b x = true) : ∀ (k : Nat) (L : List Nd) (lo hi : List Int), (readF a b c cost none k L lo hi).1 = true →
    (∀ j, j < c.length → nth lo j ≤ nth x j ∧ nth x j ≤ nth hi j) → none = false ∧ cost ≤ dotZ c x
  | 0, L, _, _, h, _ => by simp [readF] at h
  | _ + 1, [], _, _, h, _ => by simp [readF] at h
  | k + 1, n :: L, lo, hi, h, hx => by
    unfold readF at h
    by_cases hv : n.va < 0
    · rw [if_pos hv] at h
      exact good_sound hok h hf hx
    · rw [if_neg hv] at h
      by_cases hs : (c.length : Int) ≤ n.va ∨ n.at' < nth lo n.va.toNat ∨ nth hi n.va.toNat ≤ n.at'
      · rw [if_pos hs] at h; simp at h
      · rw [if_neg hs] at h
        dsimp only at h
        by_cases hp : (readF a b c cost none k L lo (hi.set n.va.toNat n.at')).1 = true
        · rw [if_pos hp] at h
          rcases Int.lt_or_le n.at' (nth x n.va.toNat) with hlt | hle
          · refine read_sound hok hf k _ _ _ h fun j hj => ?_
            rw [nth_set]
            have := hx j hj
            split
            · rename_i e; obtain ⟨rfl, -⟩ := e; omega
            · exact this
          · refine read_sound hok hf k _ _ _ hp fun j hj => ?_
            rw [nth_set]
            have := hx j hj
            split
            · rename_i e; obtain ⟨rfl, -⟩ := e; omega
            · exact this
        · rw [if_neg hp] at h; simp at h

theorem nth_pad {u : List Int} (j : Nat) : nth (pad u) j = nth u j := by
  unfold nth pad
  rw [List.getD_eq_getElem?_getD, List.getD_eq_getElem?_getD]
  by_cases h : j < u.length
  · rw [List.getElem?_append_left h]
  · rw [List.getElem?_append_right (by omega), List.getElem?_eq_none (show u.length ≤ j by omega), List.getElem?_replicate]
    split <;> rfl
theorem nth_zero5 (j : Nat) : nth [0, 0, 0, 0, 0] j = 0 := by
  unfold nth
  rcases j with _ | _ | _ | _ | _ | j <;> simp

/-- What an accepted proof tells. -/
theorem check_sound {a : List (List Int)} {b c u x : List Int} {L : List Nd} {cost : Int} {feas : Bool} (h : (checkV a b c u L cost feas).1 = true) : wholeOk a b c u = true ∧ (checkV a b c u L cost feas).2 = 0 ∧ (feasQ a b u x = true → feas = true ∧ cost ≤ dotZ c x) := by
  cases hok : wholeOk a b c u
  · rw [checkV_arg hok] at h; simp at h
  · by_cases hl : 65535 < L.length
    · rw [checkV_lim hok hl] at h; simp at h
    · rw [checkV_read hok hl] at h ⊢
      dsimp only at h
      rw [Bool.and_eq_true] at h
      refine ⟨rfl, rfl, fun hq => ?_⟩
      have hpr : progOk a b c = true := by unfold wholeOk at hok; simp only [Bool.and_eq_true] at hok; exact hok.2
      obtain ⟨hul, -, -⟩ := wholeOk_len hok
      unfold feasQ at hq
      simp only [Bool.and_eq_true, decide_eq_true_eq] at hq
      obtain ⟨⟨h1, h2⟩, h3⟩ := hq
      have hib := (inBoxB_iff u x).1 h2
      have := read_sound hpr h3 _ _ _ _ h.1 fun j hj => by
        rw [nth_pad, nth_zero5]
        exact hib j (by omega)
      exact ⟨by simpa using this.1, this.2⟩
end Go.Proofs.Ytbdlfjhhgnhejaa
