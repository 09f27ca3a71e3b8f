/- Simplex tableaus: pivots, equations, reduced costs, the choice of column and row. Plain mathematics. -/
import Derived.Test.YtkljafmdbajfeaaGreatDoorReA09
namespace Go.Proofs.YtkljafmdbajfeaaGreatDoor
set_option linter.unusedVariables false
namespace Lp
theorem sumTo_sub (n : Nat) (f g : Nat → Rat) : sumTo n (fun i => f i - g i) = sumTo n f - sumTo n g := by
 induction n with
 | zero => unfold sumTo; grind
 | succ n ih => unfold sumTo; rw [ih]; grind
theorem sumTo_mulr (n : Nat) (c : Rat) (f : Nat → Rat) : sumTo n (fun i => f i * c) = sumTo n f * c := by
 induction n with
 | zero => unfold sumTo; grind
 | succ n ih => unfold sumTo; rw [ih]; grind
theorem sumTo_comm (n m : Nat) (f : Nat → Nat → Rat) : sumTo n (fun i => sumTo m fun j => f i j) = sumTo m fun j => sumTo n fun i => f i j := by
 induction n with
 | zero => exact (sumTo_zero fun _ _ => rfl).symm
 | succ n ih => simp only [sumTo]; rw [ih, sumTo_add]
theorem sumTo_nonneg {n : Nat} {f : Nat → Rat} (h : ∀ i, i < n → 0 ≤ f i) : 0 ≤ sumTo n f := by
 induction n with
 | zero => unfold sumTo; grind
 | succ n ih => unfold sumTo; have := ih (fun i hi => h i (by omega)); have := h n (by omega); grind
theorem sumTo_split {n : Nat} (f : Nat → Rat) (k : Nat) (hk : k < n) : sumTo n f = f k + sumTo n (fun i => if i = k then 0 else f i) := by
 have h1 : sumTo n (fun i => if i = k then f i else 0) = f k := by
  rw [sumTo_one k hk fun i hi hne => by rw [if_neg hne]]; rw [if_pos rfl]
 rw [← h1, ← sumTo_add]
 exact sumTo_congr fun i hi => by split <;> grind
theorem sumTo_eq_zero {n : Nat} {f : Nat → Rat} (h : ∀ i, i < n → 0 ≤ f i) (hs : sumTo n f = 0) : ∀ i, i < n → f i = 0 := by
 induction n with
 | zero => intro i hi; omega
 | succ n ih =>
   unfold sumTo at hs
   have h1 := sumTo_nonneg (fun i hi => h i (by omega) : ∀ i, i < n → 0 ≤ f i)
   have h2 := h n (by omega)
   intro i hi
   by_cases e : i = n
   ·subst e; grind
   ·exact ih (fun i hi => h i (by omega)) (by grind) i (by omega)
theorem sumTo_neg_ex {n : Nat} {f : Nat → Rat} (h : sumTo n f < 0) : ∃ i, i < n ∧ f i < 0 := by
 refine Classical.byContradiction fun hn => ?_
 have := sumTo_nonneg (f := f) (n := n) fun i hi => by
  rcases Classical.em (f i < 0) with h2 | h2
  ·exact absurd ⟨i, hi, h2⟩ hn
  ·grind
 grind
abbrev Tab := Nat → Nat → Rat
abbrev Bas := Nat → Nat
def piv (T : Tab) (i j : Nat) : Tab := fun o k => if o = i then T i k * (1 / T i j) else T o k - T o j * (T i k * (1 / T i j))
def pivB (B : Bas) (i j : Nat) : Bas := fun o => if o = i then j else B o
def cols (M : Tab) (B : Bas) : Tab := fun r c => M r (B c)
structure Tb (M : Tab) (m N : Nat) (T : Tab) (B : Bas) : Prop where
 lt : ∀ i, i < m → B i < N
 unit : ∀ i k, i < m → k < m → T k (B i) = if k = i then 1 else 0
 rows : ∀ r j, r < m → j ≤ N → M r j = sumTo m fun i => T i j * M r (B i)
 det : det m (cols M B) ≠ 0
variable {M T : Tab} {m N : Nat} {B : Bas}
theorem Tb.cramer (h : Tb M m N T B) {i j : Nat} (hi : i < m) (hj : j ≤ N) : Lp.det m (setCol (cols M B) i fun r => M r j) = T i j * Lp.det m (cols M B) :=
 Lp.cramer (cols M B) (fun l => T l j) (fun r => M r j) (fun r hr => h.rows r j hr hj) i hi
theorem Tb.cols_pivB (i j : Nat) : cols M (pivB B i j) = setCol (cols M B) i fun r => M r j := by
 funext r c; unfold cols pivB setCol; split <;> rfl
theorem Tb.pivot (h : Tb M m N T B) {i j : Nat} (hi : i < m) (hj : j < N) (hp : T i j ≠ 0) : Tb M m N (piv T i j) (pivB B i j) := by
 refine ⟨fun o ho => ?_, fun o k ho hk => ?_, fun r l hr hl => ?_, ?_⟩
 ·unfold pivB; split
  ·exact hj
  ·exact h.lt o ho
 ·unfold pivB piv
  by_cases e : o = i
  ·subst e
   rw [if_pos rfl]
   by_cases e2 : k = o
   ·subst e2; rw [if_pos rfl, if_pos rfl]; grind
   ·rw [if_neg e2, if_neg e2]; grind
  ·rw [if_neg e]
   have h1 := h.unit o k ho hk
   have h2 := h.unit o i ho hi
   rw [if_neg (fun x => e x.symm)] at h2
   rw [h2]
   by_cases e2 : k = i
   ·subst e2; rw [if_pos rfl, if_neg (fun x => e x.symm)]; grind
   ·rw [if_neg e2, h1]; grind
 ·have h1 := h.rows r l hr hl
  have h2 := h.rows r j hr (by omega)
  rw [sumTo_split _ i hi] at h1 h2 ⊢
  have e1 : sumTo m (fun o => if o = i then 0 else piv T i j o l * M r (pivB B i j o)) = sumTo m (fun o => if o = i then 0 else T o l * M r (B o)) - (T i l * (1 / T i j)) * sumTo m (fun o => if o = i then 0 else T o j * M r (B o)) := by
   rw [← sumTo_mul, ← sumTo_sub]
   refine sumTo_congr fun o ho => ?_
   by_cases e : o = i
   ·rw [if_pos e, if_pos e, if_pos e]; grind
   ·rw [if_neg e, if_neg e, if_neg e]; unfold piv pivB; rw [if_neg e, if_neg e]; grind
  rw [e1]
  have e2 : piv T i j i l * M r (pivB B i j i) = T i l * (1 / T i j) * M r j := by unfold piv pivB; rw [if_pos rfl, if_pos rfl]
  rw [e2, h1]
  rw [h2]
  grind
 ·rw [Tb.cols_pivB, h.cramer (j := j) hi (by omega)]
  have := h.det
  grind
theorem Tb.kill (h : Tb M m N T B) {t : Nat → Rat} (ht : ∀ r, r < m → sumTo m (fun i => t i * M r (B i)) = 0) : ∀ i, i < m → t i = 0 := by
 intro i hi
 have h1 := Lp.cramer (cols M B) t (fun _ => 0) (fun r hr => (ht r hr).symm) i hi
 have h2 : Lp.det m (setCol (cols M B) i fun _ => 0) = 0 := by
  have := det_lin (k := m) (cols M B) i 0 0 (fun _ => 0) (fun _ => 0) hi
  have e : (fun r : Nat => (0 : Rat) * (fun _ : Nat => (0 : Rat)) r + 0 * (fun _ : Nat => (0 : Rat)) r) = fun _ => 0 := by funext r; grind
  rw [e] at this; rw [this]; grind
 rw [h2] at h1
 have := h.det
 grind
theorem Tb.sol (h : Tb M m N T B) (x : Nat → Rat) (c : Rat) : (∀ r, r < m → sumTo N (fun j => M r j * x j) = c * M r N) ↔ ∀ i, i < m → sumTo N (fun j => T i j * x j) = c * T i N := by
 have key : ∀ r, r < m → sumTo N (fun j => M r j * x j) - c * M r N = sumTo m fun i => (sumTo N (fun j => T i j * x j) - c * T i N) * M r (B i) := by
  intro r hr
  have e1 : sumTo N (fun j => M r j * x j) = sumTo m fun i => sumTo N (fun j => T i j * x j) * M r (B i) := by
   have : sumTo N (fun j => M r j * x j) = sumTo N fun j => sumTo m fun i => T i j * x j * M r (B i) := by
    refine sumTo_congr fun j hj => ?_
    rw [h.rows r j hr (by omega), ← sumTo_mulr]
    exact sumTo_congr fun i hi => by grind
   rw [this, sumTo_comm]
   exact sumTo_congr fun i hi => sumTo_mulr _ _ _
  rw [e1, h.rows r N hr (Nat.le_refl _), ← sumTo_mul, ← sumTo_sub]
  exact sumTo_congr fun i hi => by grind
 constructor
 ·intro hx i hi
  have := h.kill (t := fun i => sumTo N (fun j => T i j * x j) - c * T i N) (fun r hr => by rw [← key r hr, hx r hr]; grind) i hi
  grind
 ·intro hx r hr
  have h1 := key r hr
  have h2 : (sumTo m fun i => (sumTo N (fun j => T i j * x j) - c * T i N) * M r (B i)) = 0 := sumTo_zero fun i hi => by rw [hx i hi]; grind
  rw [h2] at h1
  grind
theorem Tb.one {T' : Tab} (h : Tb M m N T B) (k : Tb M m N T' B) : ∀ i j, i < m → j ≤ N → T i j = T' i j := by
 intro i j hi hj
 have := h.kill (t := fun i => T i j - T' i j) (fun r hr => by
  have e : (sumTo m fun i => (T i j - T' i j) * M r (B i)) = (sumTo m fun i => T i j * M r (B i)) - sumTo m fun i => T' i j * M r (B i) := by
   rw [← sumTo_sub]; exact sumTo_congr fun i hi => by grind
  rw [e, ← h.rows r j hr hj, ← k.rows r j hr hj]; grind) i hi
 grind
def redc (m : Nat) (T : Tab) (B : Bas) (cost : Nat → Rat) (j : Nat) : Rat := cost j - sumTo m fun i => cost (B i) * T i j
theorem Tb.redc_basic (h : Tb M m N T B) (cost : Nat → Rat) {i : Nat} (hi : i < m) : redc m T B cost (B i) = 0 := by
 unfold redc
 rw [sumTo_one i hi fun k hk hne => by rw [h.unit i k hi hk, if_neg hne]; grind]
 rw [h.unit i i hi hi, if_pos rfl]; grind
theorem Tb.cost (h : Tb M m N T B) (cost : Nat → Rat) (x : Nat → Rat) (c : Rat) (hx : ∀ r, r < m → sumTo N (fun j => M r j * x j) = c * M r N) :
  sumTo N (fun j => cost j * x j) = sumTo N (fun j => redc m T B cost j * x j) + c * sumTo m fun i => cost (B i) * T i N := by
 have hs := (h.sol x c).1 hx
 have e1 : sumTo N (fun j => redc m T B cost j * x j) = sumTo N (fun j => cost j * x j) - sumTo m fun i => cost (B i) * (c * T i N) := by
  have e2 : (sumTo m fun i => cost (B i) * (c * T i N)) = sumTo N fun j => (sumTo m fun i => cost (B i) * T i j) * x j := by
   have e3 : (sumTo m fun i => cost (B i) * (c * T i N)) = sumTo m fun i => sumTo N fun j => cost (B i) * T i j * x j := by
    refine sumTo_congr fun i hi => ?_
    rw [← hs i hi, ← sumTo_mul]
    exact sumTo_congr fun j hj => by grind
   rw [e3, sumTo_comm]
   exact sumTo_congr fun j hj => sumTo_mulr _ _ _
  rw [e2, ← sumTo_sub]
  exact sumTo_congr fun j hj => by unfold redc; grind
 rw [e1, ← sumTo_mul]
 have : (sumTo m fun i => cost (B i) * (c * T i N)) = sumTo m fun i => c * (cost (B i) * T i N) := sumTo_congr fun i hi => by grind
 rw [this]; grind
def firstTo : Nat → (Nat → Bool) → Option Nat
 | 0, _ => none
 | n + 1, p => match firstTo n p with
   | some i => some i
   | none => if p n then some n else none
theorem firstTo_some {n : Nat} {p : Nat → Bool} {i : Nat} (h : firstTo n p = some i) : i < n ∧ p i = true ∧ ∀ j, j < i → p j = false := by
 induction n with
 | zero => cases h
 | succ n ih =>
   unfold firstTo at h
   cases e : firstTo n p with
   | some k => rw [e] at h; cases h; have := ih e; exact ⟨by omega, this.2⟩
   | none =>
     rw [e] at h
     by_cases hp : p n
     ·simp [hp] at h; subst h
      refine ⟨by omega, hp, ?_⟩
      have : ∀ n, firstTo n p = none → ∀ j, j < n → p j = false := by
       intro n
       induction n with
       | zero => intro _ j hj; omega
       | succ n ih2 =>
         intro e j hj
         unfold firstTo at e
         cases e2 : firstTo n p with
         | some k => rw [e2] at e; cases e
         | none =>
           rw [e2] at e
           by_cases e3 : j = n
           ·subst e3; cases e4 : p j
            ·rfl
            ·simp [e4] at e
           ·exact ih2 e2 j (by omega)
      exact this n e
     ·simp [hp] at h
theorem firstTo_none {n : Nat} {p : Nat → Bool} (h : firstTo n p = none) : ∀ j, j < n → p j = false := by
 induction n with
 | zero => intro j hj; omega
 | succ n ih =>
   intro j hj
   unfold firstTo at h
   cases e2 : firstTo n p with
   | some k => rw [e2] at h; cases h
   | none =>
     rw [e2] at h
     by_cases e3 : j = n
     ·subst e3; cases e4 : p j
      ·rfl
      ·simp [e4] at h
     ·exact ih e2 j (by omega)
def pick (T : Tab) (B : Bas) (N s : Nat) : Nat → Option (Nat × Rat)
 | 0 => none
 | k + 1 => if T k s ≤ 0 then pick T B N s k else match pick T B N s k with
   | none => some (k, T k N / T k s)
   | some (o, l) => if l < T k N / T k s ∨ (T k N / T k s = l ∧ B o < B k) then some (o, l) else some (k, T k N / T k s)
theorem pick_none {s : Nat} : ∀ {k : Nat}, pick T B N s k = none → ∀ i, i < k → T i s ≤ 0 := by
 intro k
 induction k with
 | zero => intro _ i hi; omega
 | succ k ih =>
   intro h i hi
   unfold pick at h
   by_cases hc : T k s ≤ 0
   ·rw [if_pos hc] at h
    by_cases e : i = k
    ·subst e; exact hc
    ·exact ih h i (by omega)
   ·rw [if_neg hc] at h
    cases e : pick T B N s k with
    | none => rw [e] at h; cases h
    | some x => rw [e] at h; obtain ⟨o, l⟩ := x; simp only at h; split at h <;> cases h
theorem pick_some {s : Nat} : ∀ {k o : Nat} {l : Rat}, pick T B N s k = some (o, l) → o < k ∧ 0 < T o s ∧ l = T o N / T o s ∧ ∀ i, i < k → 0 < T i s → l ≤ T i N / T i s ∧ (T i N / T i s = l → B o ≤ B i) := by
 intro k
 induction k with
 | zero => intro o l h; cases h
 | succ k ih =>
   intro o l h
   unfold pick at h
   by_cases hc : T k s ≤ 0
   ·rw [if_pos hc] at h
    obtain ⟨h1, h2, h3, h4⟩ := ih h
    refine ⟨by omega, h2, h3, fun i hi hp => ?_⟩
    by_cases e : i = k
    ·subst e; grind
    ·exact h4 i (by omega) hp
   ·rw [if_neg hc] at h
    cases e : pick T B N s k with
    | none =>
      rw [e] at h; cases h
      refine ⟨by omega, by grind, rfl, fun i hi hp => ?_⟩
      by_cases e2 : i = k
      ·subst e2; exact ⟨Rat.le_refl, fun _ => Nat.le_refl _⟩
      ·have := pick_none e i (by omega); grind
    | some x =>
      rw [e] at h; obtain ⟨o', l'⟩ := x
      obtain ⟨h1, h2, h3, h4⟩ := ih e
      simp only at h
      split at h
      ·rename_i hor
       cases h
       refine ⟨by omega, h2, h3, fun i hi hp => ?_⟩
       by_cases e2 : i = k
       ·subst e2
        rcases hor with h5 | ⟨h5, h6⟩
        ·exact ⟨by grind, fun h7 => by grind⟩
        ·exact ⟨by grind, fun _ => by omega⟩
       ·exact h4 i (by omega) hp
      ·rename_i hor
       cases h
       have h5 : ¬ l' < T k N / T k s := fun h => hor (.inl h)
       have h6 : T k N / T k s = l' → B k ≤ B o' := fun h => by
        rcases Nat.lt_or_ge (B o') (B k) with h7 | h7
        ·exact absurd (.inr ⟨h, h7⟩) hor
        ·exact h7
       refine ⟨by omega, by grind, rfl, fun i hi hp => ?_⟩
       by_cases e2 : i = k
       ·subst e2; exact ⟨Rat.le_refl, fun _ => Nat.le_refl _⟩
       ·obtain ⟨h8, h9⟩ := h4 i (by omega) hp
        refine ⟨by grind, fun h10 => ?_⟩
        have h11 : T k N / T k s = l' := by grind
        have := h6 h11
        have := h9 (by grind)
        omega
end Lp
end Go.Proofs.YtkljafmdbajfeaaGreatDoor
