/- What the ends of a linear program say: duals, contradictions, rays, least points, sizes. Plain mathematics. -/
import Derived.Deep.Light
import Derived.Test.YtkljafmdbajfeaaGreatDoorDuA00
import Derived.Test.YtkljafmdbajfeaaGreatDoorDuA02
import Derived.Test.YtkljafmdbajfeaaGreatDoorDuA05
import Derived.Test.YtkljafmdbajfeaaGreatDoorDuA06
namespace Go.Proofs.YtkljafmdbajfeaaGreatDoor
set_option linter.unusedVariables false
namespace Lp
variable {A T : Tab} {b c cost : Nat → Rat} {n m : Nat} {B : Bas} {shut : Nat → Bool}
def mult (n m : Nat) (T : Tab) (B : Bas) (cost : Nat → Rat) (r : Nat) : Rat := sumTo m fun k => cost (B k) * T k (n + m + r)
theorem Tb.art_inv (h : Tb (tab0 A b n m) m (n + 2 * m) T B) {k j : Nat} (hk : k < m) (hj : j ≤ n + 2 * m) : T k j = sumTo m fun r => T k (n + m + r) * tab0 A b n m r j := by
 have := h.kill (t := fun k => T k j - sumTo m fun r => T k (n + m + r) * tab0 A b n m r j) (fun r' hr' => by
  have e1 : (sumTo m fun i => (T i j - sumTo m fun r => T i (n + m + r) * tab0 A b n m r j) * tab0 A b n m r' (B i)) = (sumTo m fun i => T i j * tab0 A b n m r' (B i)) - sumTo m fun i => sumTo m fun r => T i (n + m + r) * tab0 A b n m r j * tab0 A b n m r' (B i) := by
   rw [← sumTo_sub]; refine sumTo_congr fun i hi => ?_
   rw [sumTo_mulr]; grind
  rw [e1, ← h.rows r' j hr' hj, sumTo_comm]
  have e2 : (sumTo m fun r => sumTo m fun i => T i (n + m + r) * tab0 A b n m r j * tab0 A b n m r' (B i)) = sumTo m fun r => tab0 A b n m r j * tab0 A b n m r' (n + m + r) := by
   refine sumTo_congr fun r hr => ?_
   rw [h.rows r' (n + m + r) hr' (by omega), ← sumTo_mul]
   exact sumTo_congr fun i hi => by grind
  rw [e2, sumTo_one r' hr' fun r hr hne => by rw [tab0_art hr, if_neg hne]; grind]
  rw [tab0_art hr', if_pos rfl]; grind) k hk
 grind
theorem Tb.mult_sum (h : Tb (tab0 A b n m) m (n + 2 * m) T B) (cost : Nat → Rat) {j : Nat} (hj : j ≤ n + 2 * m) : (sumTo m fun k => cost (B k) * T k j) = sumTo m fun r => mult n m T B cost r * tab0 A b n m r j := by
 have e1 : (sumTo m fun k => cost (B k) * T k j) = sumTo m fun k => sumTo m fun r => cost (B k) * T k (n + m + r) * tab0 A b n m r j :=
  sumTo_congr fun k hk => by
   rw [h.art_inv hk hj, ← sumTo_mul]; exact sumTo_congr fun r hr => by grind
 rw [e1, sumTo_comm]
 exact sumTo_congr fun r hr => sumTo_mulr _ _ _
def dualv (b : Nat → Rat) (n m : Nat) (T : Tab) (B : Bas) (cost : Nat → Rat) (r : Nat) : Rat := sg b r * mult n m T B cost r
theorem Tb.redc_col (h : Tb (tab0 A b n m) m (n + 2 * m) T B) (cost : Nat → Rat) {j : Nat} (hj : j < n) : redc m T B cost j = cost j - sumTo m fun r => dualv b n m T B cost r * A r j := by
 unfold redc; rw [h.mult_sum cost (by omega)]
 congr 1
 exact sumTo_congr fun r hr => by rw [tab0_col hj]; unfold dualv; grind
theorem Tb.redc_sur (h : Tb (tab0 A b n m) m (n + 2 * m) T B) (cost : Nat → Rat) {i : Nat} (hi : i < m) : redc m T B cost (n + i) = cost (n + i) + dualv b n m T B cost i := by
 unfold redc
 rw [h.mult_sum cost (by omega), sumTo_one i hi fun r hr hne => by rw [tab0_sur hi, if_neg fun e => hne e.symm]; grind]
 rw [tab0_sur hi, if_pos rfl]; unfold dualv; grind
theorem Tb.redc_art (h : Tb (tab0 A b n m) m (n + 2 * m) T B) (cost : Nat → Rat) {i : Nat} (hi : i < m) : redc m T B cost (n + m + i) = cost (n + m + i) - mult n m T B cost i := by
 unfold redc
 rw [h.mult_sum cost (by omega), sumTo_one i hi fun r hr hne => by rw [tab0_art hi, if_neg fun e => hne e.symm]; grind]
 rw [tab0_art hi, if_pos rfl]; grind
theorem Tb.cst_dual (h : Tb (tab0 A b n m) m (n + 2 * m) T B) (cost : Nat → Rat) : cst m (n + 2 * m) T B cost = sumTo m fun r => dualv b n m T B cost r * b r := by
 unfold cst; rw [h.mult_sum cost (Nat.le_refl _)]
 exact sumTo_congr fun r hr => by rw [tab0_last]; unfold dualv; grind
def cost1 (n m : Nat) (j : Nat) : Rat := if n + m ≤ j ∧ j < n + 2 * m then 1 else 0
structure EndEmpty (A : Tab) (b : Nat → Rat) (n m : Nat) (Y : Nat → Rat) : Prop where
 nn : ∀ i, i < m → 0 ≤ Y i
 le : ∀ j, j < n → (sumTo m fun i => Y i * A i j) ≤ 0
 pos : 0 < sumTo m fun i => Y i * b i
theorem Ok.first_end (h : Ok (tab0 A b n m) m (n + 2 * m) (fun _ => false) T B) {e : Option Nat} (hf : Fin m (n + 2 * m) (cost1 n m) (fun _ => false) T B e) : Fin m (n + 2 * m) (cost1 n m) (fun _ => false) T B none := by
 cases e with
 | none => exact hf
 | some s =>
   exfalso
   obtain ⟨-, h2, -, h4⟩ := h.free hf
   have := sumTo_nonneg (n := n + 2 * m) (f := fun j => cost1 n m j * dir m T B s j) fun j hj => Rat.mul_nonneg (by unfold cost1; split <;> grind) (h2 j hj)
   grind
theorem Ok.cst1_nonneg (h : Ok (tab0 A b n m) m (n + 2 * m) (fun _ => false) T B) : 0 ≤ cst m (n + 2 * m) T B (cost1 n m) :=
 sumTo_nonneg fun i hi => Rat.mul_nonneg (by unfold cost1; split <;> grind) (h.fe i hi)
theorem Ok.empty (h : Ok (tab0 A b n m) m (n + 2 * m) (fun _ => false) T B) (hf : Fin m (n + 2 * m) (cost1 n m) (fun _ => false) T B none) (hne : cst m (n + 2 * m) T B (cost1 n m) ≠ 0) :
  EndEmpty A b n m fun i => (1 - redc m T B (cost1 n m) (n + m + i)) * sg b i := by
 have hy : ∀ i, i < m → (1 - redc m T B (cost1 n m) (n + m + i)) * sg b i = dualv b n m T B (cost1 n m) i := fun i hi => by
  rw [h.tb.redc_art _ hi]; unfold cost1 dualv; rw [if_pos ⟨by omega, by omega⟩]; grind
 refine ⟨fun i hi => ?_, fun j hj => ?_, ?_⟩
 ·rw [hy i hi]
  have h1 := hf (n + i) (by omega) rfl
  rw [h.tb.redc_sur _ hi] at h1
  have : cost1 n m (n + i) = 0 := by unfold cost1; rw [if_neg (by omega)]
  grind
 ·rw [sumTo_congr (g := fun i => dualv b n m T B (cost1 n m) i * A i j) fun i hi => by rw [hy i hi]]
  have h1 := hf j (by omega) rfl
  rw [h.tb.redc_col _ hj] at h1
  have : cost1 n m j = 0 := by unfold cost1; rw [if_neg (by omega)]
  grind
 ·rw [sumTo_congr (g := fun i => dualv b n m T B (cost1 n m) i * b i) fun i hi => by rw [hy i hi], ← h.tb.cst_dual]
  have := h.cst1_nonneg
  grind
structure CloseAt (A : Tab) (b : Nat → Rat) (n m : Nat) (T : Tab) (B : Bas) (k : Nat) : Prop where
 tb : Tb (tab0 A b n m) m (n + 2 * m) T B
 fe : Fe m (n + 2 * m) T
 zero : ∀ i, i < m → n + m ≤ B i → T i (n + 2 * m) = 0
 none_ : ∀ i, i < k → n + m ≤ B i → ∀ j, j < n + m → T i j = 0
theorem Ok.close_start (h : Ok (tab0 A b n m) m (n + 2 * m) (fun _ => false) T B) (hz : cst m (n + 2 * m) T B (cost1 n m) = 0) : CloseAt A b n m T B 0 := by
 refine ⟨h.tb, h.fe, fun i hi hb => ?_, fun i hi => by omega⟩
 have h1 := sumTo_eq_zero (n := m) (f := fun i => cost1 n m (B i) * T i (n + 2 * m)) (fun i hi => Rat.mul_nonneg (by unfold cost1; split <;> grind) (h.fe i hi)) hz i hi
 have := h.tb.lt i hi
 have h2 : cost1 n m (B i) = 1 := by unfold cost1; rw [if_pos ⟨hb, this⟩]
 simp only [h2] at h1; grind
theorem CloseAt.keep {k : Nat} (h : CloseAt A b n m T B k) (hk : B k < n + m) : CloseAt A b n m T B (k + 1) :=
 ⟨h.tb, h.fe, h.zero, fun i hi hb => h.none_ i (by
  rcases Nat.lt_or_ge i k with h1 | h1
  ·exact h1
  ·have : i = k := by omega
   subst this; omega) hb⟩
theorem CloseAt.nil {k : Nat} (h : CloseAt A b n m T B k) (hk : ∀ j, j < n + m → T k j = 0) : CloseAt A b n m T B (k + 1) :=
 ⟨h.tb, h.fe, h.zero, fun i hi hb => by
  rcases Nat.lt_or_ge i k with h1 | h1
  ·exact h.none_ i h1 hb
  ·have : i = k := by omega
   subst this; exact hk⟩
theorem CloseAt.pivot {k j : Nat} (h : CloseAt A b n m T B k) (hkm : k < m) (hk : n + m ≤ B k) (hj : j < n + m) (hne : T k j ≠ 0) : CloseAt A b n m (piv T k j) (pivB B k j) (k + 1) := by
 have hz := h.zero k hkm hk
 have hN : ∀ i, piv T k j i (n + 2 * m) = T i (n + 2 * m) := fun i => by
  unfold piv; rw [hz]; split
  ·rename_i e; subst e; rw [hz]; grind
  ·grind
 refine ⟨h.tb.pivot hkm (by omega) hne, fun i hi => by rw [hN]; exact h.fe i hi, fun i hi hb => ?_, fun i hi hb l hl => ?_⟩
 ·rw [hN]
  unfold pivB at hb
  split at hb
  ·omega
  ·exact h.zero i hi hb
 ·unfold pivB at hb
  split at hb
  ·omega
  ·rename_i e
   have hik : i < k := by omega
   unfold piv; rw [if_neg e, h.none_ i hik hb l hl, h.none_ i hik hb j hj]; grind
theorem CloseAt.ok (h : CloseAt A b n m T B m) : Ok (tab0 A b n m) m (n + 2 * m) (art n m) T B :=
 ⟨h.tb, h.fe, fun i hi hs => ⟨h.zero i hi (of_decide_eq_true hs), fun j hj hjs => h.none_ i hi (of_decide_eq_true hs) j (by
  have := of_decide_eq_false hjs; omega)⟩⟩
def cost2 (c : Nat → Rat) (n : Nat) (j : Nat) : Rat := if j < n then c j else 0
theorem sum_cost2 (c x : Nat → Rat) : sumTo (n + 2 * m) (fun j => cost2 c n j * x j) = sumTo n fun j => c j * x j := by
 rw [sum_three, sumTo_congr (n := n) (g := fun j => c j * x j) fun j hj => by unfold cost2; rw [if_pos hj],
  sumTo_zero (n := m) fun i hi => by unfold cost2; rw [if_neg (by omega)]; grind, sumTo_zero (n := m) fun i hi => by unfold cost2; rw [if_neg (by omega)]; grind]
 grind
structure EndFree (A : Tab) (b c : Nat → Rat) (n m : Nat) (D : Nat → Rat) : Prop where
 nn : ∀ j, j < n → 0 ≤ D j
 ge : ∀ i, i < m → 0 ≤ sumTo n fun j => A i j * D j
 falls : (sumTo n fun j => c j * D j) < 0
 feas : ∃ x, Feas A b n m x
theorem Ok.ray (h : Ok (tab0 A b n m) m (n + 2 * m) (art n m) T B) {s : Nat} (hf : Fin m (n + 2 * m) (cost2 c n) (art n m) T B (some s)) : EndFree A b c n m (dir m T B s) := by
 obtain ⟨h1, h2, h3, h4⟩ := h.free hf
 refine ⟨fun j hj => h2 j (by omega), fun i hi => ?_, by rw [sum_cost2] at h4; exact h4, ⟨_, h.sol.feas⟩⟩
 have h5 := h1 i hi
 rw [tab0_eq _ hi, h3 (n + m + i) (by omega) (decide_eq_true (by omega))] at h5
 have h6 := h2 (n + i) (by omega)
 have h7 := sg_sq b i
 have h8 : (sumTo n fun j => A i j * dir m T B s j) = dir m T B s (n + i) := by grind
 rw [h8]; exact h6
structure EndFound (A : Tab) (b c : Nat → Rat) (n m : Nat) (X Y : Nat → Rat) : Prop where
 feas : Feas A b n m X
 nn : ∀ i, i < m → 0 ≤ Y i
 le : ∀ j, j < n → (sumTo m fun i => Y i * A i j) ≤ c j
 level : (sumTo m fun i => Y i * b i) = sumTo n fun j => c j * X j
 least : ∀ x, Feas A b n m x → (sumTo n fun j => c j * x j) = (sumTo n fun j => c j * X j) → LexLe n X x
theorem Ok.dual (h : Ok (tab0 A b n m) m (n + 2 * m) (art n m) T B) (hf : Fin m (n + 2 * m) (cost2 c n) (art n m) T B none) :
  (∀ i, i < m → 0 ≤ redc m T B (cost2 c n) (n + i)) ∧ (∀ j, j < n → (sumTo m fun i => redc m T B (cost2 c n) (n + i) * A i j) ≤ c j) ∧ (sumTo m fun i => redc m T B (cost2 c n) (n + i) * b i) = cst m (n + 2 * m) T B (cost2 c n) := by
 have hy : ∀ i, i < m → redc m T B (cost2 c n) (n + i) = dualv b n m T B (cost2 c n) i := fun i hi => by
  rw [h.tb.redc_sur _ hi]; unfold cost2; rw [if_neg (by omega)]; grind
 refine ⟨fun i hi => hf (n + i) (by omega) (decide_eq_false (by omega)), fun j hj => ?_, ?_⟩
 ·rw [sumTo_congr (g := fun i => dualv b n m T B (cost2 c n) i * A i j) fun i hi => by rw [hy i hi]]
  have h1 := hf j (by omega) (decide_eq_false (by omega))
  rw [h.tb.redc_col _ hj] at h1
  have : cost2 c n j = c j := by unfold cost2; rw [if_pos hj]
  grind
 ·rw [sumTo_congr (g := fun i => dualv b n m T B (cost2 c n) i * b i) fun i hi => by rw [hy i hi], ← h.tb.cst_dual]
theorem found {T1 T2 : Tab} {B1 B2 : Bas} {shut2 : Nat → Bool} {v : Nat → Rat} (h : Ok (tab0 A b n m) m (n + 2 * m) (art n m) T1 B1) (hf : Fin m (n + 2 * m) (cost2 c n) (art n m) T1 B1 none)
  (k : LexAt (tab0 A b n m) m (n + 2 * m) (fixS m T1 B1 (cost2 c n) (art n m)) shut2 T2 B2 v n) : EndFound A b c n m (bs m (n + 2 * m) T2 B2) fun i => redc m T1 B1 (cost2 c n) (n + i) := by
 obtain ⟨d1, d2, d3⟩ := h.dual hf
 have h1 := (k.face _).1 k.ok.sol
 obtain ⟨h2, h3⟩ := (h.fix_sol hf _).1 h1.1
 rw [sum_cost2] at h3
 refine ⟨h2.feas, d1, d2, by rw [d3]; exact h3.symm, fun x hx he => ?_⟩
 have h4 : Sol (tab0 A b n m) m (n + 2 * m) (fixS m T1 B1 (cost2 c n) (art n m)) (full A b n m x) := (h.fix_sol hf _).2 ⟨hx.sol, by
  rw [sum_cost2, sumTo_congr (n := n) (g := fun j => c j * x j) fun j hj => by rw [full_col hj], he, h3]⟩
 rcases k.lex _ h4 with h5 | ⟨i, hi, h5, h6⟩
 ·exact .inl fun j hj => by rw [← full_col (A := A) (b := b) (m := m) (x := x) hj, ← h5 j hj]; exact h1.2 j hj
 ·exact .inr ⟨i, hi, fun j hj => by rw [← full_col (A := A) (b := b) (m := m) (x := x) (show j < n by omega), ← h5 j hj]; exact h1.2 j (by omega), by
   rw [← full_col (A := A) (b := b) (m := m) (x := x) hi, h1.2 i hi]; exact h6⟩
/-! Sizes -/
theorem prodTo_all (k x : Nat) : prodTo k (fun _ => x) = x ^ k := by
 induction k with
 | zero => rfl
 | succ k ih => unfold prodTo; rw [ih, Nat.pow_succ]
theorem prodTo_but {k i x y : Nat} (hi : i < k) : prodTo k (fun c => if c = i then y else x) = y * x ^ (k - 1) := by
 obtain ⟨k, rfl⟩ : ∃ l, k = l + 1 := ⟨k - 1, by omega⟩
 rw [← prodTo_skip _ k i hi]
 rw [if_pos rfl, prodTo_congr (g := fun _ => x) fun j hj => by rw [if_neg (by unfold skip; split <;> omega)], prodTo_all, Nat.add_sub_cancel]
structure SmallT (A : Tab) (b : Nat → Rat) (n m : Nat) : Prop where
 m6 : m ≤ 6
 a : ∀ i j, i < m → j < n → IsI (A i j) 30
 b : ∀ i, i < m → IsI (b i) 1000
theorem IsI.sg {x : Rat} {k : Nat} (h : IsI x k) (b : Nat → Rat) (i : Nat) : IsI (sg b i * x) k := by
 obtain ⟨z, rfl, hz⟩ := h
 unfold Lp.sg; split
 ·exact ⟨-z, by rw [Rat.intCast_neg]; grind, by omega⟩
 ·exact ⟨z, by grind, hz⟩
theorem SmallT.col (h : SmallT A b n m) {i j : Nat} (hi : i < m) (hj : j < n + 2 * m) : IsI (tab0 A b n m i j) 30 := by
 unfold tab0
 split
 ·exact (h.a i j hi (by assumption)).sg b i
 ·split
  ·split
   ·have h1 : IsI (sg b i * 1) 1 := IsI.sg ⟨1, rfl, by omega⟩ b i
    obtain ⟨z, h2, h3⟩ := h1
    exact ⟨-z, by rw [Rat.intCast_neg, ← h2]; grind, by omega⟩
   ·exact .zero _
  ·split
   ·exact ⟨1, rfl, by omega⟩
   ·exact .zero _
theorem SmallT.last (h : SmallT A b n m) {i : Nat} (hi : i < m) : IsI (tab0 A b n m i (n + 2 * m)) 1000 := by
 rw [tab0_last]; exact (h.b i hi).sg b i
theorem fac_bound {m x : Nat} (hm : m ≤ 6) (h0 : 0 < m) : fac m * (x * 30 ^ (m - 1)) ≤ x * 17496000000 := by
 have : m = 1 ∨ m = 2 ∨ m = 3 ∨ m = 4 ∨ m = 5 ∨ m = 6 := by omega
 rcases this with rfl | rfl | rfl | rfl | rfl | rfl <;> simp [fac] <;> omega
theorem fac_all {m : Nat} (hm : m ≤ 6) : fac m * 30 ^ m ≤ 524880000000 := by
 have : m = 0 ∨ m = 1 ∨ m = 2 ∨ m = 3 ∨ m = 4 ∨ m = 5 ∨ m = 6 := by omega
 rcases this with rfl | rfl | rfl | rfl | rfl | rfl | rfl <;> decide
theorem Tb.den (h : Tb (tab0 A b n m) m (n + 2 * m) T B) (hs : SmallT A b n m) : ∃ D : Nat, 0 < D ∧ D ≤ 524880000000 ∧ (∀ i j, i < m → j < n + 2 * m → IsI ((D : Rat) * T i j) 524880000000) ∧
  (∀ i, i < m → IsI ((D : Rat) * T i (n + 2 * m)) 17496000000000) ∧ (∀ i r, i < m → r < m → IsI ((D : Rat) * T i (n + m + r)) 17496000000) := by
 have hcols : ∀ r c, r < m → c < m → IsI (cols (tab0 A b n m) B r c) 30 := fun r c hr hc => hs.col hr (h.lt c hc)
 have hd := det_int (k := m) (M := cols (tab0 A b n m) B) (B := fun _ => 30) hcols
 rw [prodTo_all] at hd
 obtain ⟨z, hz, hzb⟩ := hd.mono (fac_all hs.m6)
 have hz0 : z ≠ 0 := fun e => h.det (by rw [hz, e]; rfl)
 have key : ∀ i j x, i < m → j ≤ n + 2 * m → (∀ r, r < m → IsI (tab0 A b n m r j) x) → IsI ((z.natAbs : Rat) * T i j) (x * 17496000000) := by
  intro i j x hi hj hx
  have h1 := det_int (k := m) (M := setCol (cols (tab0 A b n m) B) i fun r => tab0 A b n m r j) (B := fun c => if c = i then x else 30) fun r c hr hc => by
   unfold setCol; split
   ·exact hx r hr
   ·exact hcols r c hr hc
  rw [prodTo_but hi, h.cramer hi hj, hz] at h1
  obtain ⟨u, hu, hub⟩ := h1.mono (fac_bound hs.m6 (by omega))
  rcases Int.natAbs_eq z with e | e
  ·refine ⟨u, ?_, hub⟩
   rw [← hu]
   have : (z.natAbs : Rat) = (z : Rat) := by rw [← Rat.intCast_natCast, ← e]
   rw [this]; grind
  ·refine ⟨-u, ?_, by omega⟩
   rw [Rat.intCast_neg, ← hu]
   have : (z.natAbs : Rat) = -(z : Rat) := by rw [← Rat.intCast_natCast, ← Rat.intCast_neg]; congr 1; omega
   rw [this]; grind
 exact ⟨z.natAbs, by omega, hzb, fun i j hi hj => key i j 30 hi (by omega) fun r hr => hs.col hr hj, fun i hi => key i _ 1000 hi (Nat.le_refl _) fun r hr => hs.last hr, fun i r hi hr => by
  have := key i (n + m + r) 1 hi (by omega) fun r' hr' => by
   rw [tab0_art hr]; split
   ·exact ⟨1, rfl, by omega⟩
   ·exact .zero _
  exact this.mono (by omega)⟩
end Lp
end Go.Proofs.YtkljafmdbajfeaaGreatDoor

/- The sums of products: linear.dot, branch.dot, tinplateref02.dot; no sum overflows where the products are small. -/
namespace Go.Proofs.YtkljafmdbajfeaaGreatDoor
open Go.RowKit
def dotN (xs ys : List Int) : Nat → Int
 | 0 => 0
 | k + 1 => dotN xs ys k + nth xs k * nth ys k
def dotZ (xs ys : List Int) : Int := dotN xs ys xs.length
def Small (xs ys : List Int) : Prop := ∃ M : Int, xs.length * M ≤ 9000000000000000000 ∧ ∀ i, i < xs.length → -M ≤ nth xs i * nth ys i ∧ nth xs i * nth ys i ≤ M
theorem dotN_bound {xs ys : List Int} {M : Int} (h : ∀ i, i < xs.length → -M ≤ nth xs i * nth ys i ∧ nth xs i * nth ys i ≤ M) : ∀ k, k ≤ xs.length → -(k * M) ≤ dotN xs ys k ∧ dotN xs ys k ≤ k * M
 | 0, _ => by simp [dotN]
 | k + 1, hk => by
   have ih := dotN_bound h k (by omega)
   have h1 := h k (by omega)
   have e : ((k + 1 : Nat) : Int) * M = k * M + M := by push_cast; rw [Int.add_mul, Int.one_mul]
   rw [e]; simp only [dotN]; omega
theorem Small.round {xs ys : List Int} (h : Small xs ys) {k : Nat} (hk : k < xs.length) : -9000000000000000000 ≤ nth xs k * nth ys k ∧ nth xs k * nth ys k ≤ 9000000000000000000 ∧ -9000000000000000000 ≤ dotN xs ys k + nth xs k * nth ys k ∧ dotN xs ys k + nth xs k * nth ys k ≤ 9000000000000000000 := by
 obtain ⟨M, hM, h⟩ := h
 have h1 := h k hk
 have h2 := dotN_bound h (k + 1) (by omega)
 have h0 : 0 ≤ M := by omega
 have h3 : ((k + 1 : Nat) : Int) * M ≤ xs.length * M := Int.mul_le_mul_of_nonneg_right (by omega) h0
 have h4 : (1 : Int) * M ≤ xs.length * M := Int.mul_le_mul_of_nonneg_right (by omega) h0
 simp only [dotN] at h2
 omega
end Go.Proofs.YtkljafmdbajfeaaGreatDoor

/- linear.lowest: a point in lowest terms. -/
namespace Go.Proofs.YtkljafmdbajfeaaGreatDoor
open Go.RowKit
def gcdN (d : Int) (xs : List Int) : Nat → Nat
 | 0 => d.natAbs
 | k + 1 => Nat.gcd (gcdN d xs k) (nth xs k).natAbs
theorem gcdN_pos {d : Int} (h : 1 ≤ d) (xs : List Int) : ∀ k, 1 ≤ gcdN d xs k
 | 0 => by simp [gcdN]; omega
 | k + 1 => Nat.gcd_pos_of_pos_left _ (gcdN_pos h xs k)
theorem gcdN_le {d : Int} (h : 1 ≤ d) (xs : List Int) : ∀ k, gcdN d xs k ≤ d.natAbs
 | 0 => Nat.le_refl _
 | k + 1 => Nat.le_trans (Nat.gcd_le_left _ (gcdN_pos h xs k)) (gcdN_le h xs k)
def divK (g : Int) (xs : List Int) (k : Nat) : List Int := (xs.take k).map (fun x => x.tdiv g) ++ xs.drop k
theorem divK_len (g : Int) (xs : List Int) (k : Nat) (hk : k ≤ xs.length) : (divK g xs k).length = xs.length := by simp [divK]; omega
theorem divK_nth (g : Int) (xs : List Int) (k : Nat) (hk : k < xs.length) : nth (divK g xs k) k = nth xs k := by
 rw [nth_lt (by rw [divK_len _ _ _ (by omega)]; exact hk), nth_lt hk]
 unfold divK
 rw [List.getElem_append_right (by simp; omega)]; simp [Nat.min_eq_left (Nat.le_of_lt hk)]
theorem divK_set (g : Int) (xs : List Int) (k : Nat) (hk : k < xs.length) : (divK g xs k).set k ((nth xs k).tdiv g) = divK g xs (k + 1) := by
 unfold divK
 have e : k - (List.map (fun x => x.tdiv g) (List.take k xs)).length = 0 := by simp; omega
 rw [List.set_append_right _ _ (by simp; omega), e, take_nth hk, List.drop_eq_getElem_cons hk]
 simp only [List.set_cons_zero, List.map_append, List.map_cons, List.map_nil, List.append_assoc, List.singleton_append]
theorem divK_all (g : Int) (xs : List Int) : divK g xs xs.length = xs.map (fun x => x.tdiv g) := by simp [divK]
theorem tdiv_bd (x g : Int) (h : -9000000000000000000 ≤ x ∧ x ≤ 9000000000000000000) : -9000000000000000000 ≤ x.tdiv g ∧ x.tdiv g ≤ 9000000000000000000 := by
 have := Int.natAbs_tdiv_le_natAbs x g
 omega
set_option maxHeartbeats 1000000 in
theorem lowest_calls (b c : Nat) (xs : List Int) (d : Int) (w : World) (hx : ∀ i, i < xs.length → -9000000000000000000 ≤ nth xs i ∧ nth xs i ≤ 9000000000000000000) (hd : 1 ≤ d) (hd2 : d ≤ 9000000000000000000) (hm : xs.length ≤ 1000) (hI : IBlk w b xs) :
  Calls Tryz.prog 101 #[.slice (some ⟨b, 0, none⟩) xs.length c, .int .i64 d] w fun e w' => e = .returned (.agg #[.slice (some ⟨b, 0, none⟩) xs.length c, .int .i64 (d.tdiv (gcdN d xs xs.length))]) ∧ IBlk w' b (xs.map (fun x => x.tdiv (gcdN d xs xs.length))) ∧ But b w w' := by
 have hG1 := gcdN_pos hd xs xs.length
 have hG2 := gcdN_le hd xs xs.length
 obtain ⟨G, HG⟩ : ∃ G : Nat, Hid (gcdN d xs xs.length = G) := ⟨_, rfl⟩
 rw [HG.out] at hG1 hG2 ⊢
 have hG3 : (G : Int) ≤ d := by omega
 clear hG2
 go_enter Tryz.func101, Tryz.ntmps101
 go_wp2
 go_loopw [5, 7, 12] (fun g _ i wr => ∃ (k n : Nat) (gv : Int), k ≤ xs.length ∧ i = .int .i64 k ∧ g = .int .i64 gv ∧ gv.natAbs = gcdN d xs k ∧ -9000000000000000000 ≤ gv ∧ gv ≤ 9000000000000000000 ∧ wr = (w.alloc (.cells #[.slice none 0 0, .int .i64 0] 29)).drewN n) (fun _ _ i _ => xs.length - (intOf i).toNat)
 case atStart => exact ⟨0, 0, d, Nat.zero_le _, rfl, rfl, rfl, by omega, by omega, rfl⟩
 case round =>
  obtain ⟨k, n, gv, hk, rfl, rfl, hg, hg1, hg2, rfl⟩ := hrel
  by_cases hlt : k < xs.length
  ·have c1 := hI.cell k hlt
   obtain ⟨x1, x2⟩ := hx k hlt
   have hbl := Blk.lt hI
   have HG := Lib.hid hg; clear hg
   go_wp2
   obtain ⟨wo, hwo⟩ : ∃ wo : World, wo = ((w.alloc (.cells #[.slice none 0 0, .int .i64 0] 29)).drewN n) := ⟨_, rfl⟩
   go_loopw [5, 7] (fun g nn wr => ∃ (m : Nat) (gv nv : Int), g = .int .i64 gv ∧ nn = .int .i64 nv ∧ Nat.gcd gv.natAbs nv.natAbs = gcdN d xs (k + 1) ∧ -9000000000000000000 ≤ gv ∧ gv ≤ 9000000000000000000 ∧ -9000000000000000000 ≤ nv ∧ nv ≤ 9000000000000000000 ∧ wr = (w.alloc (.cells #[.slice none 0 0, .int .i64 0] 29)).drewN m) (fun _ nn _ => (intOf nn).natAbs)
   case atStart => exact ⟨_, gv, nth xs k, rfl, rfl, by rw [HG.out]; rfl, hg1, hg2, x1, x2, rfl⟩
   case round =>
    obtain ⟨m, gv, nv, rfl, rfl, hgg, y1, y2, y3, y4, rfl⟩ := hrel
    have HGG := Lib.hid hgg; clear hgg
    by_cases h0 : nv = 0
    ·subst h0
     go_wp2
     go_roundw
     case rel => exact ⟨k + 1, _, gv, by omega, by go_num, rfl, by rw [← HGG.out]; simp, y1, y2, rfl⟩
     case measure => simp [intOf]; omega
    ·have h1 : (nv != 0) = true := by simp [h0]
     have h2 : (nv == 0) = false := by simp [h0]
     have t1 : (gv.tmod nv).natAbs < nv.natAbs := by rw [Int.natAbs_tmod]; exact Nat.mod_lt _ (by omega)
     have HT := Lib.hid t1; clear t1
     go_wp2
     go_quiet (fail)
     go_wp2
     go_roundw
     case rel => exact ⟨_, nv, gv.tmod nv, rfl, rfl, by rw [← HGG.out, Int.natAbs_tmod]; rw [Nat.gcd_comm nv.natAbs, ← Nat.gcd_rec, Nat.gcd_comm], y3, y4, by have := HT.out; omega, by have := HT.out; omega, drewN_add _ _ _⟩
     case measure => have := HT.out; simpa [intOf] using this
  ·obtain rfl : k = xs.length := by omega
   have hbl := Blk.lt hI
   rw [HG.out] at hg
   have hGc : gv = (G : Int) ∨ gv = -(G : Int) := by omega
   clear hg hg1 hg2 hlt hk HG
   rcases hGc with rfl | rfl
   all_goals
    go_wp2
    go_loopw [8, 29] (fun _ i wr => ∃ (k : Nat), k ≤ xs.length ∧ i = .int .i64 k ∧ IBlk wr b (divK G xs k) ∧ But b w wr ∧ Blk wr w.heap.size [.slice none 0 0, .int .i64 0] 29) (fun _ i _ => xs.length - (intOf i).toNat)
    case atStart => exact ⟨0, Nat.zero_le _, rfl, (hI.alloc _).drewN n, ((But.refl _ _).alloc _).ext (drewN_below _ _), (Blk.new _ _ _).drewN n⟩
    case round =>
     obtain ⟨k, hk, rfl, hB, hbut, hQ⟩ := hrel
     by_cases hlt : k < xs.length
     ·have c1 := hB.cell k (by rw [divK_len _ _ _ hk]; exact hlt)
      have e1 := divK_nth G xs k hlt
      rw [e1] at c1
      have f1 := Blk.free hB k
      obtain ⟨t1, t2⟩ := tdiv_bd _ G (hx k hlt)
      clear e1
      go_wp2
      go_roundw
      case rel => exact ⟨k + 1, by omega, by go_num, by rw [← divK_set _ _ _ hlt]; exact hB.set k _, hbut.set _ _, hQ.other _ _ (by simp; omega)⟩
      case measure => simp [intOf]; omega
     ·obtain rfl : k = xs.length := by omega
      have q0 := hQ.cell 0 (by simp)
      have q1 := hQ.cell 1 (by simp)
      have f0 := hQ.free 0
      have f1 := hQ.free 1
      obtain ⟨t1, t2⟩ := tdiv_bd d G (by omega)
      simp only [List.getElem_cons_zero, List.getElem_cons_succ] at q0 q1
      go_wp2
      rw [divK_all] at hB
      (try simp only [Exit.inBlock, Exit.then])
      refine bodyPost_ret (v := .agg #[.slice (some ⟨b, 0, none⟩) xs.length c, .int .i64 (d.tdiv G)]) (by simp [results, Tryz.results101, go_sem, q0, q1]) rfl ⟨rfl, ?_, ?_⟩
      ·exact Blk.other (Blk.other hB _ _ (by simp; omega)) _ _ (by simp; omega)
      ·exact (hbut.setNew (by simp) _).setNew (by simp) _
end Go.Proofs.YtkljafmdbajfeaaGreatDoor

/- linear.proper and linear.Value: what they answer. -/
namespace Go.Proofs.YtkljafmdbajfeaaGreatDoor
open Go.RowKit
def pointOk (n : Nat) (xs : List Int) (d : Int) : Bool := decide (xs.length = n) && decide (1 ≤ d) && decide (d ≤ 1125899906842624) && listOk 1125899906842624 xs
theorem inB_bd {m x : Int} (h : inB m x = true) : -m ≤ x ∧ x ≤ m := by unfold inB at h; simp at h; exact h
theorem listOk_nth {m : Int} {xs : List Int} (h : listOk m xs = true) {i : Nat} (hi : i < xs.length) : -m ≤ nth xs i ∧ nth xs i ≤ m := by
 unfold listOk at h; rw [List.all_eq_true] at h; exact inB_bd (h _ (nth_mem hi))
theorem mul_bd {a b x y : Int} (ha : 0 ≤ a) (hx : -a ≤ x ∧ x ≤ a) (hy : -b ≤ y ∧ y ≤ b) : -(a * b) ≤ x * y ∧ x * y ≤ a * b := by
 have e : (x * y).natAbs ≤ (a * b).natAbs := by
  rw [Int.natAbs_mul, Int.natAbs_mul]; exact Nat.mul_le_mul (by omega) (by omega)
 have h0 : 0 ≤ a * b := Int.mul_nonneg ha (by omega)
 omega
theorem small_of {xs ys : List Int} {a b : Int} {n : Nat} (h : listOk a xs = true) (k : listOk b ys = true) (ha : 0 ≤ a) (hb : 0 ≤ b) (hn : xs.length ≤ n) (hl : xs.length ≤ ys.length) (hM : n * (a * b) ≤ 9000000000000000000) : Small xs ys :=
 ⟨a * b, Int.le_trans (Int.mul_le_mul_of_nonneg_right (by omega) (Int.mul_nonneg ha hb)) hM, fun i hi => mul_bd ha (listOk_nth h hi) (listOk_nth k (by omega))⟩
theorem progOk_parts {a : List (List Int)} {b c : List Int} (h : progOk a b c = true) : (1 ≤ c.length ∧ c.length ≤ 6) ∧ a.length ≤ 6 ∧ (∀ r ∈ a, r.length = c.length ∧ listOk 30 r = true) ∧ b.length = a.length ∧ listOk 1000 b = true ∧ listOk 1000 c = true := by
 unfold progOk rowsOk rowOk at h; simp at h
 obtain ⟨⟨⟨⟨⟨⟨h1, h2⟩, h3⟩, h4⟩, h5⟩, h6⟩, h7⟩ := h
 exact ⟨⟨by omega, h2⟩, h3, fun r hr => h4 r hr, h5, h6, h7⟩
theorem pointOk_parts {n : Nat} {xs : List Int} {d : Int} (h : pointOk n xs d = true) : xs.length = n ∧ 1 ≤ d ∧ d ≤ 1125899906842624 ∧ listOk 1125899906842624 xs = true := by
 unfold pointOk at h; simp at h; obtain ⟨⟨⟨h1, h2⟩, h3⟩, h4⟩ := h; exact ⟨h1, h2, h3, h4⟩
end Go.Proofs.YtkljafmdbajfeaaGreatDoor

/- The vectors of a box in lexicographic order; which are feasible; what they cost. Plain mathematics. -/
namespace Go.Proofs.YtkljafmdbajfeaaGreatDoor
end Go.Proofs.YtkljafmdbajfeaaGreatDoor

/- branch.of: an integer program and whether it is valid. -/
namespace Go.Proofs.YtkljafmdbajfeaaGreatDoor
open Go.RowKit
set_option linter.unusedVariables false
set_option linter.unusedSimpArgs false
end Go.Proofs.YtkljafmdbajfeaaGreatDoor
