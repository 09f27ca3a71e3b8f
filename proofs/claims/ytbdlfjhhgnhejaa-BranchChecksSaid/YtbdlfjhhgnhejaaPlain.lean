/- Plain laws of boxes: which vectors lie in one, in which order; what the best of them is; how many there are. -/
import Derived.Test.YtbdlfjhhgnhejaaRefSol
namespace Go.Proofs.Ytbdlfjhhgnhejaa

/-- Lexicographically less. -/
def LexLt : List Int → List Int → Prop
  | x :: xs, y :: ys => x < y ∨ x = y ∧ LexLt xs ys
  | _, _ => False
theorem LexLt.first : ∀ {xs ys : List Int}, LexLt xs ys → ∃ i, i < xs.length ∧ (∀ j, j < i → nth xs j = nth ys j) ∧ nth xs i < nth ys i
  | x :: xs, y :: ys, h => by
    rcases h with h | ⟨rfl, h⟩
    · exact ⟨0, by simp, fun j hj => by omega, by simpa [nth] using h⟩
    · obtain ⟨i, h1, h2, h3⟩ := h.first
      refine ⟨i + 1, by simpa using h1, fun j hj => ?_, by simpa [nth] using h3⟩
      cases j with
      | zero => rfl
      | succ j => simpa [nth] using h2 j (by omega)
  | [], _, h => by simp [LexLt] at h
  | _ :: _, [], h => by simp [LexLt] at h
theorem LexLt.at {xs ys : List Int} (h : LexLt xs ys) {k : Nat} (he : ∀ j, j < k → nth xs j = nth ys j) (hne : nth xs k ≠ nth ys k) : nth xs k < nth ys k := by
  obtain ⟨i, h1, h2, h3⟩ := h.first
  rcases Nat.lt_trichotomy i k with hlt | rfl | hgt
  · have := he i hlt; omega
  · exact h3
  · exact absurd (h2 k hgt) hne

theorem irange_mem {n : Nat} {x : Int} : x ∈ irange n ↔ 0 ≤ x ∧ x < n := by
  unfold irange
  simp only [List.mem_map, List.mem_range]
  constructor
  · rintro ⟨k, hk, rfl⟩; simp; omega
  · intro ⟨h0, h1⟩; exact ⟨x.toNat, by omega, by simp; omega⟩
theorem irange_sorted (n : Nat) : (irange n).Pairwise (· < ·) := by
  unfold irange
  rw [List.pairwise_map]
  exact List.pairwise_lt_range.imp fun h => by simp; exact h
theorem box_sorted : ∀ u : List Int, (box u).Pairwise LexLt
  | [] => by simp [box]
  | m :: us => by
    unfold box
    rw [List.pairwise_flatMap]
    refine ⟨fun v _ => ?_, (irange_sorted _).imp fun h x hx y hy => ?_⟩
    · rw [List.pairwise_map]
      exact (box_sorted us).imp fun h => .inr ⟨rfl, h⟩
    · obtain ⟨x', -, rfl⟩ := List.mem_map.1 hx
      obtain ⟨y', -, rfl⟩ := List.mem_map.1 hy
      exact .inl h
theorem mem_box : ∀ {u x : List Int}, x.length = u.length → InBox u x x.length → x ∈ box u
  | [], x, hl, _ => by
    have : x = [] := List.length_eq_zero_iff.1 (by simpa using hl)
    subst this; simp [box]
  | m :: us, [], hl, _ => by simp at hl
  | m :: us, v :: x, hl, h => by
    unfold box
    have h0 := h 0 (by simp)
    simp [nth] at h0
    refine List.mem_flatMap.2 ⟨v, irange_mem.2 ⟨h0.1, by omega⟩, List.mem_map.2 ⟨x, mem_box (by simpa using hl) fun i hi => ?_, rfl⟩⟩
    have := h (i + 1) (by simpa using hi)
    simpa [nth] using this
theorem feasQ_mem {a : List (List Int)} {b u x : List Int} (h : feasQ a b u x = true) : x ∈ feasL a b u := by
  unfold feasQ at h
  simp only [Bool.and_eq_true, decide_eq_true_eq] at h
  obtain ⟨⟨h1, h2⟩, h3⟩ := h
  unfold feasL
  exact List.mem_filter.2 ⟨mem_box h1 ((inBoxB_iff u x).1 h2), h3⟩
theorem mem_feasQ {a : List (List Int)} {b u x : List Int} (hu : upOk u = true) (h : x ∈ feasL a b u) : feasQ a b u x = true := by
  unfold feasL at h
  obtain ⟨h1, h2⟩ := List.mem_filter.1 h
  obtain ⟨h3, h4⟩ := vec_inBox hu h1
  unfold feasQ
  rw [decide_eq_true h4, h2, (inBoxB_iff u x).2 (by rw [h4]; exact h3)]; rfl

/-- The best is the first of the cheapest. -/
theorem bestL_first (c : List Int) : ∀ (n : Nat) (L : List (List Int)) (x : List Int), L.length = n → bestL c L = some x → ∃ l1 l2, L = l1 ++ x :: l2 ∧ (∀ z ∈ l1, dotZ c x < dotZ c z) ∧ ∀ z ∈ l2, dotZ c x ≤ dotZ c z
  | 0, L, x, hn, h => by
    have : L = [] := List.length_eq_zero_iff.1 hn
    subst this; simp [bestL] at h
  | n + 1, L, x, hn, h => by
    rcases List.eq_nil_or_concat L with rfl | ⟨L', y, rfl⟩
    · simp at hn
    · rw [List.concat_eq_append] at hn h ⊢
      rw [bestL_snoc] at h
      cases hb : bestL c L' with
      | none =>
        rw [hb] at h
        have : L' = [] := by
          cases L' with
          | nil => rfl
          | cons z l => simp [bestL] at hb
        subst this
        obtain rfl : y = x := by simpa using h
        exact ⟨[], [], rfl, ⟨fun z hz => by simp at hz, fun z hz => by simp at hz⟩⟩
      | some m =>
        rw [hb] at h
        obtain ⟨l1, l2, e, h1, h2⟩ := bestL_first c n L' m (by simpa using hn) hb
        subst e
        by_cases hlt : dotZ c y < dotZ c m
        · simp only [hlt, if_true] at h
          obtain rfl : y = x := by simpa using h
          refine ⟨l1 ++ m :: l2, [], by simp, fun z hz => ?_, fun z hz => by cases hz⟩
          rcases List.mem_append.1 hz with h3 | h3
          · have := h1 z h3; omega
          · rcases List.mem_cons.1 h3 with rfl | h3
            · exact hlt
            · have := h2 z h3; omega
        · simp only [hlt, if_false] at h
          obtain rfl : m = x := by simpa using h
          refine ⟨l1, l2 ++ [y], by simp, h1, fun z hz => ?_⟩
          rcases List.mem_append.1 hz with h3 | h3
          · exact h2 z h3
          · obtain rfl : z = y := by simpa using h3
            omega
theorem bestL_none {c : List Int} {L : List (List Int)} : bestL c L = none ↔ L = [] := by
  cases L <;> simp [bestL]
/-- Nothing is cheaper; of what costs as much, nothing is lexicographically less. -/
theorem bestL_least {c : List Int} {L : List (List Int)} {x : List Int} (hs : L.Pairwise LexLt) (h : bestL c L = some x) : x ∈ L ∧ ∀ y ∈ L, dotZ c x ≤ dotZ c y ∧ (dotZ c y = dotZ c x → y = x ∨ LexLt x y) := by
  obtain ⟨l1, l2, rfl, h1, h2⟩ := bestL_first c _ L x rfl h
  refine ⟨by simp, fun y hy => ?_⟩
  rw [List.pairwise_append] at hs
  obtain ⟨-, h4, -⟩ := hs
  rcases List.mem_append.1 hy with h3 | h3
  · have := h1 y h3
    exact ⟨by omega, fun e => by omega⟩
  · rcases List.mem_cons.1 h3 with rfl | h3
    · exact ⟨Int.le_refl _, fun _ => .inl rfl⟩
    · exact ⟨h2 y h3, fun _ => .inr ((List.pairwise_cons.1 h4).1 y h3)⟩
theorem feasL_sorted (a : List (List Int)) (b u : List Int) : (feasL a b u).Pairwise LexLt := (box_sorted u).filter _
end Go.Proofs.Ytbdlfjhhgnhejaa
