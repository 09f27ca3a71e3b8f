/- Plain laws of linear programs, said of points with one divisor: weak duality, the one end of a program, what a least point is ahead of. -/
import Derived.Test.YtkljafmdbajfeaaGreatDoorDuA42
import Derived.Test.YtkljafmdbajfeaaGreatDoorDuA44
namespace Go.Proofs.YtkljafmdbajfeaaGreatDoor
open Lp (Tab sumTo Feas LexLe EndFound EndEmpty EndFree)
set_option linter.unusedVariables false
set_option linter.unusedSimpArgs false
theorem sumTo_le {n : Nat} {f g : Nat → Rat} (h : ∀ i, i < n → f i ≤ g i) : sumTo n f ≤ sumTo n g := by
 induction n with
 | zero => exact Rat.le_refl
 | succ n ih => unfold Lp.sumTo; have h1 := ih fun i hi => h i (by omega); have h2 := h n (by omega); grind
theorem mulr_le {x y z : Rat} (h : x ≤ y) (hz : 0 ≤ z) : x * z ≤ y * z := Rat.mul_le_mul_of_nonneg_right h hz
theorem mull_le {x y z : Rat} (h : x ≤ y) (hz : 0 ≤ z) : z * x ≤ z * y := Rat.mul_le_mul_of_nonneg_left h hz
theorem sum_swap (m n : Nat) (A : Tab) (Y x : Nat → Rat) : (sumTo m fun i => Y i * sumTo n fun j => A i j * x j) = sumTo n fun j => (sumTo m fun i => Y i * A i j) * x j := by
 have e1 : (sumTo m fun i => Y i * sumTo n fun j => A i j * x j) = sumTo m fun i => sumTo n fun j => Y i * A i j * x j :=
  Lp.sumTo_congr fun i hi => by rw [← Lp.sumTo_mul]; exact Lp.sumTo_congr fun j hj => by grind
 rw [e1, Lp.sumTo_comm]
 exact Lp.sumTo_congr fun j hj => by rw [← Lp.sumTo_mulr]
theorem weak {A : Tab} {b c : Nat → Rat} {n m : Nat} {x Y : Nat → Rat} (hx : Feas A b n m x) (h0 : ∀ i, i < m → 0 ≤ Y i) (hY : ∀ j, j < n → (sumTo m fun i => Y i * A i j) ≤ c j) :
  (sumTo m fun i => Y i * b i) ≤ sumTo n fun j => c j * x j := by
 have h1 : (sumTo m fun i => Y i * b i) ≤ sumTo m fun i => Y i * sumTo n fun j => A i j * x j := sumTo_le fun i hi => mull_le (hx.ge i hi) (h0 i hi)
 rw [sum_swap] at h1
 exact Rat.le_trans h1 (sumTo_le fun j hj => mulr_le (hY j hj) (hx.nn j hj))
theorem sum0 (n : Nat) (f : Nat → Rat) : (sumTo n fun j => 0 * f j) = 0 := Lp.sumTo_zero fun _ _ => by grind
theorem sum0r (n : Nat) (f : Nat → Rat) : (sumTo n fun j => f j * 0) = 0 := Lp.sumTo_zero fun _ _ => by grind
theorem empty_feas {A : Tab} {b : Nat → Rat} {n m : Nat} {x Y : Nat → Rat} (h : EndEmpty A b n m Y) (hx : Feas A b n m x) : False := by
 have h1 := weak (c := fun _ => 0) hx h.nn h.le
 rw [sum0] at h1
 have h2 := h.pos
 grind
theorem found_free {A : Tab} {b c : Nat → Rat} {n m : Nat} {X Y D : Nat → Rat} (h : EndFound A b c n m X Y) (k : EndFree A b c n m D) : False := by
 have h1 := weak (b := fun _ => 0) (x := D) ⟨k.nn, fun i hi => k.ge i hi⟩ h.nn h.le
 rw [sum0r] at h1
 have h2 := k.falls
 grind
theorem end_one {A : Tab} {b c : Nat → Rat} {n m s s' : Nat} {x y x' y' : Nat → Rat} (h : EndQ A b c n m s x y) (k : EndQ A b c n m s' x' y') : s = s' := by
 rcases h with ⟨h1, h2, -⟩ | ⟨h1, h2, -⟩ | ⟨h1, h2, -⟩ <;> rcases k with ⟨k1, k2, -⟩ | ⟨k1, k2, -⟩ | ⟨k1, k2, -⟩
 ·omega
 ·exact (empty_feas k2 h2.feas).elim
 ·exact (found_free h2 k2).elim
 ·exact (empty_feas h2 k2.feas).elim
 ·omega
 ·obtain ⟨z, hz⟩ := k2.feas; exact (empty_feas h2 hz).elim
 ·exact (found_free k2 h2).elim
 ·obtain ⟨z, hz⟩ := h2.feas; exact (empty_feas k2 hz).elim
 ·omega
structure Pt (xs : List Int) (d : Int) (n : Nat) (x : Nat → Rat) : Prop where
 len : xs.length = n
 d1 : 1 ≤ d
 val : ∀ i, i < n → ((nth xs i : Int) : Rat) = x i * (d : Rat)
theorem PtOf.pt {xs : List Int} {d : Int} {n : Nat} {x : Nat → Rat} (h : PtOf xs d n x) : Pt xs d n x := ⟨h.len, h.d1, h.val⟩
theorem rpos {d : Int} (h : 1 ≤ d) : (0 : Rat) < (d : Rat) := by
 have h1 : ((0 : Int) : Rat) < (d : Rat) := Rat.intCast_lt_intCast.2 (by omega)
 simpa using h1
theorem dotN_sum (xs ys : List Int) : ∀ k, ((dotN xs ys k : Int) : Rat) = sumTo k fun i => ((nth xs i : Int) : Rat) * ((nth ys i : Int) : Rat)
 | 0 => rfl
 | k + 1 => by
   simp only [dotN, Lp.sumTo]
   rw [Rat.intCast_add, Rat.intCast_mul, dotN_sum xs ys k]
theorem Pt.dot {xs : List Int} {d : Int} {n : Nat} {x : Nat → Rat} (h : Pt xs d n x) {r : List Int} (hr : r.length = n) : ((dotZ r xs : Int) : Rat) = (sumTo n fun j => ((nth r j : Int) : Rat) * x j) * (d : Rat) := by
 unfold dotZ
 rw [dotN_sum, hr, ← Lp.sumTo_mulr]
 exact Lp.sumTo_congr fun j hj => by rw [h.val j hj]; grind
theorem Pt.dotr {xs : List Int} {d : Int} {n : Nat} {x : Nat → Rat} (h : Pt xs d n x) {r : List Int} (hr : r.length = n) : ((dotZ r xs : Int) : Rat) = (sumTo n fun j => x j * ((nth r j : Int) : Rat)) * (d : Rat) := by
 rw [h.dot hr]; congr 1; exact Lp.sumTo_congr fun j hj => Rat.mul_comm _ _
theorem Pt.col {ys : List Int} {e : Int} {a : List (List Int)} {y : Nat → Rat} (h : Pt ys e a.length y) (j : Nat) : ((dotZ (clmOf a j) ys : Int) : Rat) = (sumTo a.length fun i => y i * qA a i j) * (e : Rat) := by
 rw [h.dotr (r := clmOf a j) (by unfold clmOf; exact clmTo_len _ _ _)]
 congr 1
 exact Lp.sumTo_congr fun i hi => by rw [clmOf_nth _ _ _ hi]; rfl
theorem mulr_lt {x y z : Rat} (hz : 0 < z) (h : x < y) : x * z < y * z := Rat.mul_lt_mul_of_pos_right h hz
theorem mulr_le_iff {x y z : Rat} (hz : 0 < z) : x * z ≤ y * z ↔ x ≤ y := by
 constructor
 ·intro h
  refine Classical.byContradiction fun hn => ?_
  have := mulr_lt hz (x := y) (y := x) (by grind)
  grind
 ·intro h; exact mulr_le h (by grind)
theorem mulr_lt_iff {x y z : Rat} (hz : 0 < z) : x * z < y * z ↔ x < y := by
 have := mulr_le_iff (x := y) (y := x) hz
 constructor
 ·intro h
  refine Classical.byContradiction fun hn => ?_
  have := this.2 (by grind)
  grind
 ·intro h; exact mulr_lt hz h
theorem mulr_eq_iff {x y z : Rat} (hz : 0 < z) : x * z = y * z ↔ x = y := by
 constructor
 ·intro h
  have h1 := (mulr_le_iff (x := x) (y := y) hz).1 (by grind)
  have h2 := (mulr_le_iff (x := y) (y := x) hz).1 (by grind)
  grind
 ·intro h; rw [h]
theorem cross_le {p q d e : Int} {x y : Rat} (hd : 1 ≤ d) (he : 1 ≤ e) (hp : (p : Rat) = x * (d : Rat)) (hq : (q : Rat) = y * (e : Rat)) : p * e ≤ q * d ↔ x ≤ y := by
 have h1 := rpos hd
 have h2 := rpos he
 have h3 : (0 : Rat) < (d : Rat) * (e : Rat) := Rat.mul_pos h1 h2
 rw [← Rat.intCast_le_intCast, Rat.intCast_mul, Rat.intCast_mul, hp, hq, ← mulr_le_iff h3 (x := x) (y := y)]
 have e1 : x * (d : Rat) * (e : Rat) = x * ((d : Rat) * (e : Rat)) := by grind
 have e2 : y * (e : Rat) * (d : Rat) = y * ((d : Rat) * (e : Rat)) := by grind
 rw [e1, e2]
theorem cross_eq {p q d e : Int} {x y : Rat} (hd : 1 ≤ d) (he : 1 ≤ e) (hp : (p : Rat) = x * (d : Rat)) (hq : (q : Rat) = y * (e : Rat)) : p * e = q * d ↔ x = y := by
 have h1 := cross_le hd he hp hq
 have h2 := cross_le he hd hq hp
 constructor
 ·intro h; have := h1.1 (by omega); have := h2.1 (by omega); grind
 ·intro h; have := h1.2 (by grind); have := h2.2 (by grind); omega
theorem over_le {p q d : Int} {x y : Rat} (hd : 1 ≤ d) (hp : (p : Rat) = x * (d : Rat)) (hq : (q : Rat) = y * (d : Rat)) : p ≤ q ↔ x ≤ y := by
 rw [← Rat.intCast_le_intCast, hp, hq, mulr_le_iff (rpos hd)]
theorem over_lt {p q d : Int} {x y : Rat} (hd : 1 ≤ d) (hp : (p : Rat) = x * (d : Rat)) (hq : (q : Rat) = y * (d : Rat)) : p < q ↔ x < y := by
 rw [← Rat.intCast_lt_intCast, hp, hq, mulr_lt_iff (rpos hd)]
theorem zero_cast (d : Int) : ((0 : Int) : Rat) = 0 * (d : Rat) := by simp
theorem int_over (p d : Int) : ((p * d : Int) : Rat) = (p : Rat) * (d : Rat) := Rat.intCast_mul p d
theorem nnB_iff {xs : List Int} : nnB xs = true ↔ ∀ i, i < xs.length → 0 ≤ nth xs i := by
 unfold nnB
 rw [List.all_eq_true]
 constructor
 ·intro h i hi; exact of_decide_eq_true (h _ (nth_mem hi))
 ·intro h x hx
  obtain ⟨i, hi, rfl⟩ := List.getElem_of_mem hx
  have := h i hi
  rw [nth_lt hi] at this
  exact decide_eq_true this
theorem Pt.nn {xs : List Int} {d : Int} {n : Nat} {x : Nat → Rat} (h : Pt xs d n x) : nnB xs = true ↔ ∀ i, i < n → 0 ≤ x i := by
 rw [nnB_iff, h.len]
 constructor
 ·intro k i hi; exact (over_le h.d1 (zero_cast d) (h.val i hi)).1 (k i hi)
 ·intro k i hi; exact (over_le h.d1 (zero_cast d) (h.val i hi)).2 (k i hi)
theorem listOk_of {m : Int} {xs : List Int} (h : ∀ i, i < xs.length → -m ≤ nth xs i ∧ nth xs i ≤ m) : listOk m xs = true := by
 unfold listOk
 rw [List.all_eq_true]
 intro x hx
 obtain ⟨i, hi, rfl⟩ := List.getElem_of_mem hx
 have := h i hi
 rw [nth_lt hi] at this
 unfold inB
 simp [this.1, this.2]
theorem PtOf.ok {xs : List Int} {d : Int} {n : Nat} {x : Nat → Rat} (h : PtOf xs d n x) : pointOk n xs d = true := by
 have h1 := h.d1; have h2 := h.d2
 have h3 : listOk 1125899906842624 xs = true := listOk_of fun i hi => by have := h.bd i (by rw [← h.len]; exact hi); omega
 unfold pointOk
 rw [h3, decide_eq_true h.len, decide_eq_true h1, decide_eq_true (by omega)]; rfl
theorem row_len {a : List (List Int)} {b c : List Int} (h : progOk a b c = true) {i : Nat} (hi : i < a.length) : (nrow a i).length = c.length := ((progOk_parts h).2.2.1 _ (nrow_mem hi)).1
section
variable {a : List (List Int)} {b c xs ys : List Int} {d e : Int} {x y : Nat → Rat}
theorem feas_iff (hp : progOk a b c = true) (ho : pointOk c.length xs d = true) (h : Pt xs d c.length x) : feasS a b c xs d = true ↔ Feas (qA a) (qB b) c.length a.length x := by
 unfold feasS
 rw [hp, ho, Bool.true_and, Bool.true_and, Bool.and_eq_true, h.nn, List.all_eq_true]
 have key : ∀ i, i < a.length → (nth b i * d ≤ dotZ (nrow a i) xs ↔ qB b i ≤ sumTo c.length fun j => qA a i j * x j) := fun i hi =>
  over_le h.d1 (int_over _ _) (h.dot (row_len hp hi))
 constructor
 ·rintro ⟨h1, h2⟩
  exact ⟨h1, fun i hi => (key i hi).1 (of_decide_eq_true (h2 i (List.mem_range.2 hi)))⟩
 ·rintro ⟨h1, h2⟩
  exact ⟨h1, fun i hi => decide_eq_true ((key i (List.mem_range.1 hi)).2 (h2 i (List.mem_range.1 hi)))⟩
theorem bounds_iff (hp : progOk a b c = true) (ho : pointOk a.length ys e = true) (h : Pt ys e a.length y) : boundsS a b c ys e = true ↔ (∀ i, i < a.length → 0 ≤ y i) ∧ ∀ j, j < c.length → (sumTo a.length fun i => y i * qA a i j) ≤ qB c j := by
 unfold boundsS
 rw [hp, ho, Bool.true_and, Bool.true_and, Bool.and_eq_true, h.nn, List.all_eq_true]
 have key : ∀ j, (dotZ (clmOf a j) ys ≤ nth c j * e ↔ (sumTo a.length fun i => y i * qA a i j) ≤ qB c j) := fun j =>
  over_le h.d1 (h.col j) (int_over _ _)
 constructor
 ·rintro ⟨h1, h2⟩
  exact ⟨h1, fun j hj => (key j).1 (of_decide_eq_true (h2 j (List.mem_range.2 hj)))⟩
 ·rintro ⟨h1, h2⟩
  exact ⟨h1, fun j hj => decide_eq_true ((key j).2 (h2 j (List.mem_range.1 hj)))⟩
theorem denies_iff (hp : progOk a b c = true) (ho : pointOk a.length ys e = true) (h : Pt ys e a.length y) : deniesS a b c ys e = true ↔ EndEmpty (qA a) (qB b) c.length a.length y := by
 unfold deniesS
 rw [hp, ho, Bool.true_and, Bool.true_and, Bool.and_eq_true, Bool.and_eq_true, h.nn, List.all_eq_true, decide_eq_true_iff]
 have key : ∀ j, (dotZ (clmOf a j) ys ≤ 0 ↔ (sumTo a.length fun i => y i * qA a i j) ≤ 0) := fun j => over_le h.d1 (h.col j) (zero_cast e)
 have hb : (0 < dotZ b ys ↔ 0 < sumTo a.length fun i => y i * qB b i) := over_lt h.d1 (zero_cast e) (h.dotr (progOk_parts hp).2.2.2.1)
 constructor
 ·rintro ⟨⟨h1, h2⟩, h3⟩
  exact ⟨h1, fun j hj => (key j).1 (of_decide_eq_true (h2 j (List.mem_range.2 hj))), hb.1 h3⟩
 ·rintro ⟨h1, h2, h3⟩
  exact ⟨⟨h1, fun j hj => decide_eq_true ((key j).2 (h2 j (List.mem_range.1 hj)))⟩, hb.2 h3⟩
theorem falls_of (hp : progOk a b c = true) (ho : pointOk c.length xs d = true) (h : Pt xs d c.length x) (k : EndFree (qA a) (qB b) (qB c) c.length a.length x) : fallsS a b c xs d = true := by
 unfold fallsS
 rw [hp, ho, Bool.true_and, Bool.true_and, Bool.and_eq_true, Bool.and_eq_true, h.nn, List.all_eq_true, decide_eq_true_iff]
 refine ⟨⟨k.nn, fun i hi => decide_eq_true ?_⟩, ?_⟩
 ·have hi := List.mem_range.1 hi
  exact (over_le h.d1 (zero_cast d) (h.dot (row_len hp hi))).2 (k.ge i hi)
 ·exact (over_lt h.d1 (h.dot rfl) (zero_cast d)).2 k.falls
/-! LinearDuality -/
theorem found_feas (hp : progOk a b c = true) (h : EndFound (qA a) (qB b) (qB c) c.length a.length x y) (hx : PtOf xs d c.length x) : feasS a b c xs d = true := (feas_iff hp hx.ok hx.pt).2 h.feas
theorem found_bounds (hp : progOk a b c = true) (h : EndFound (qA a) (qB b) (qB c) c.length a.length x y) (hy : PtOf ys e a.length y) : boundsS a b c ys e = true := (bounds_iff hp hy.ok hy.pt).2 ⟨h.nn, h.le⟩
theorem found_level (hp : progOk a b c = true) (h : EndFound (qA a) (qB b) (qB c) c.length a.length x y) {x' y' : Nat → Rat} (h' : EndFound (qA a) (qB b) (qB c) c.length a.length x' y') (hx : PtOf xs d c.length x) (hy : PtOf ys e a.length y') : dotZ c xs * e = dotZ b ys * d := by
 refine (cross_eq hx.d1 hy.d1 (hx.pt.dot rfl) (hy.pt.dotr (progOk_parts hp).2.2.2.1)).2 ?_
 have h1 := weak h.feas h'.nn h'.le
 have h2 := weak h'.feas h.nn h.le
 have h3 := h.level
 have h4 := h'.level
 show (sumTo c.length fun j => qB c j * x j) = sumTo a.length fun i => y' i * qB b i
 grind
/-! LinearWeak, LinearLeast -/
end
section
variable {a : List (List Int)} {b c xs ds : List Int} {d e k : Int} {z : Nat → Rat}
end
end Go.Proofs.YtkljafmdbajfeaaGreatDoor

/- Plain facts of the closed example: its normal form and its least point. -/
namespace Go.Proofs.YtkljafmdbajfeaaGreatDoor
open Go.RowKit
open Lp (Lt V Ech Gen From Red pivots sumTo Feas EndFound EndEmpty EndFree)
set_option linter.unusedVariables false
set_option linter.unusedSimpArgs false
def exL : Lt := fun p => if p = 0 then some (nth [2, 3]) else none
theorem nth23 (i : Nat) : nth [2, 3] i = if i = 0 then 2 else if i = 1 then 3 else 0 := by
 match i with
 | 0 => rfl
 | 1 => rfl
 | i + 2 => rw [nth_beyond (by simp)]; simp
theorem nth46 (i : Nat) : nth [4, 6] i = 2 * nth [2, 3] i := by
 match i with
 | 0 => rfl
 | 1 => rfl
 | i + 2 => rw [nth_beyond (by simp), nth_beyond (by simp)]; rfl
theorem nth69 (i : Nat) : nth [6, 9] i = 3 * nth [2, 3] i := by
 match i with
 | 0 => rfl
 | 1 => rfl
 | i + 2 => rw [nth_beyond (by simp), nth_beyond (by simp)]; rfl
theorem exL_ech : Ech 2 exL := by
 have key : ∀ p r, exL p = some r → p = 0 ∧ r = nth [2, 3] := fun p r h => by
  unfold exL at h; split at h
  ·injection h with h; exact ⟨by assumption, h.symm⟩
  ·cases h
 refine ⟨fun p r h => ?_, fun p r h i hi => ?_, fun p r h i hi => ?_, fun p r h => ?_⟩ <;> obtain ⟨rfl, rfl⟩ := key p r h
 ·omega
 ·omega
 ·rw [nth_beyond (by simpa using hi)]
 ·decide
theorem exL_red : Red exL := fun p r q s h1 h2 h3 => by
 unfold exL at h1; split at h1
 ·omega
 ·cases h1
theorem ex_gen (x : V) : Gen (From exL 0) x ↔ Gen (· ∈ [[4, 6], [6, 9]].map nth) x := by
 have hg : Gen (From exL 0) (nth [2, 3]) := .one ⟨0, by omega, rfl⟩
 have h1 : Gen (· ∈ [[4, 6], [6, 9]].map nth) (nth [4, 6]) := .one (by simp)
 have h2 : Gen (· ∈ [[4, 6], [6, 9]].map nth) (nth [6, 9]) := .one (by simp)
 have h3 : Gen (· ∈ [[4, 6], [6, 9]].map nth) (nth [2, 3]) := (h2.addMul (-1) h1).cast fun i => by rw [nth46, nth69]; omega
 constructor
 ·intro h
  induction h with
  | zero => exact .zero
  | step v r c _ hr ih =>
    obtain ⟨q, -, hq⟩ := hr
    unfold exL at hq; split at hq
    ·injection hq with hq; subst hq; exact ih.addMul c h3
    ·cases hq
 ·intro h
  induction h with
  | zero => exact .zero
  | step v r c _ hr ih =>
    simp only [List.map_cons, List.map_nil, List.mem_cons, List.not_mem_nil, or_false] at hr
    rcases hr with rfl | rfl
    ·exact (ih.addMul (2 * c) hg).cast fun i => by rw [nth46]; rw [Int.mul_comm 2 c, Int.mul_assoc]
    ·exact (ih.addMul (3 * c) hg).cast fun i => by rw [nth69]; rw [Int.mul_comm 3 c, Int.mul_assoc]
theorem ex_rows {rows : Lt} (h : Ech 2 rows) (hr : Red rows) (hg : ∀ x, Gen (From rows 0) x ↔ Gen (· ∈ [[4, 6], [6, 9]].map nth) x) : rowsOf rows 2 = [nth [2, 3]] := by
 have hs := h.same exL_ech hr exL_red (fun v => (hg v).trans (ex_gen v).symm)
 have : rows = exL := funext hs
 subst this
 rfl
def exA : List (List Int) := [[1, 2], [3, 1]]
theorem exQ : qA exA 0 0 = 1 ∧ qA exA 0 1 = 2 ∧ qA exA 1 0 = 3 ∧ qA exA 1 1 = 1 ∧ qB [4, 6] 0 = 4 ∧ qB [4, 6] 1 = 6 ∧ qB [1, 1] 0 = 1 ∧ qB [1, 1] 1 = 1 := ⟨rfl, rfl, rfl, rfl, rfl, rfl, rfl, rfl⟩
theorem sum2 (f : Nat → Rat) : sumTo 2 f = f 0 + f 1 := by simp only [sumTo]; grind
theorem ex_found {x y : Nat → Rat} (h : EndFound (qA exA) (qB [4, 6]) (qB [1, 1]) 2 2 x y) : 5 * x 0 = 8 ∧ 5 * x 1 = 6 := by
 obtain ⟨e1, e2, e3, e4, e5, e6, e7, e8⟩ := exQ
 have g0 := h.feas.ge 0 (by omega)
 have g1 := h.feas.ge 1 (by omega)
 have n0 := h.nn 0 (by omega)
 have n1 := h.nn 1 (by omega)
 have l0 := h.le 0 (by omega)
 have l1 := h.le 1 (by omega)
 have lv := h.level
 simp only [sum2, e1, e2, e3, e4, e5, e6, e7, e8] at g0 g1 l0 l1 lv
 generalize x 0 = x0 at *
 generalize x 1 = x1 at *
 generalize y 0 = y0 at *
 generalize y 1 = y1 at *
 clear h e1 e2 e3 e4 e5 e6 e7 e8
 have a1 : 4 * y0 + 6 * y1 ≤ 14 / 5 := by grind
 constructor <;> grind
theorem ex_empty {y : Nat → Rat} (h : EndEmpty (qA exA) (qB [4, 6]) 2 2 y) : False := by
 obtain ⟨e1, e2, e3, e4, e5, e6, e7, e8⟩ := exQ
 have n0 := h.nn 0 (by omega)
 have n1 := h.nn 1 (by omega)
 have l0 := h.le 0 (by omega)
 have l1 := h.le 1 (by omega)
 have ps := h.pos
 simp only [sum2, e1, e2, e3, e4, e5, e6] at l0 l1 ps
 generalize y 0 = y0 at *
 generalize y 1 = y1 at *
 grind
theorem ex_free {x : Nat → Rat} (h : EndFree (qA exA) (qB [4, 6]) (qB [1, 1]) 2 2 x) : False := by
 obtain ⟨e1, e2, e3, e4, e5, e6, e7, e8⟩ := exQ
 have n0 := h.nn 0 (by omega)
 have n1 := h.nn 1 (by omega)
 have fl := h.falls
 simp only [sum2, e7, e8] at fl
 generalize x 0 = x0 at *
 generalize x 1 = x1 at *
 grind
theorem ex_point {xs : List Int} {d : Int} {x : Nat → Rat} (h : PtOf xs d 2 x) (h0 : 5 * x 0 = 8) (h1 : 5 * x 1 = 6) : xs = [8, 6] ∧ d = 5 := by
 have v0 := h.val 0 (by omega)
 have v1 := h.val 1 (by omega)
 have hl := h.len
 match xs, hl with
 | [a, b], _ =>
   have e0 : nth [a, b] 0 = a := rfl
   have e1 : nth [a, b] 1 = b := rfl
   rw [e0] at v0; rw [e1] at v1
   have i0 : 5 * a = 8 * d := by
    have : ((5 * a : Int) : Rat) = ((8 * d : Int) : Rat) := by rw [Rat.intCast_mul, Rat.intCast_mul, v0]; grind
    exact Rat.intCast_inj.1 this
   have i1 : 5 * b = 6 * d := by
    have : ((5 * b : Int) : Rat) = ((6 * d : Int) : Rat) := by rw [Rat.intCast_mul, Rat.intCast_mul, v1]; grind
    exact Rat.intCast_inj.1 this
   have hd := h.d1
   obtain ⟨k, hk⟩ : ∃ k : Nat, d = 5 * (k : Int) := ⟨(d / 5).toNat, by omega⟩
   have ha : a = 8 * (k : Int) := by omega
   have hb : b = 6 * (k : Int) := by omega
   have hlow := h.low
   have hk1 : k ∣ gcdN d [a, b] 2 := by
    have q0 : (nth [a, b] 0).natAbs = 8 * k := by rw [e0, ha]; omega
    have q1 : (nth [a, b] 1).natAbs = 6 * k := by rw [e1, hb]; omega
    simp only [gcdN]
    rw [q0, q1]
    exact Nat.dvd_gcd (Nat.dvd_gcd ⟨5, by rw [hk]; omega⟩ ⟨8, by omega⟩) ⟨6, by omega⟩
   rw [hlow] at hk1
   have : k = 1 := Nat.dvd_one.1 hk1
   subst this
   exact ⟨by rw [ha, hb]; rfl, by omega⟩
end Go.Proofs.YtkljafmdbajfeaaGreatDoor

/- The statements' own small functions in layer 1: same. -/
namespace Go.Proofs.YtkljafmdbajfeaaGreatDoor
open Go.RowKit
set_option linter.unusedVariables false
set_option linter.unusedSimpArgs false
def sameB (xs ys : List Int) : Bool := decide (xs = ys)
theorem sameB_len {xs ys : List Int} (h : xs.length ≠ ys.length) : sameB xs ys = false := by
 unfold sameB; exact decide_eq_false fun e => h (by rw [e])
theorem sameB_at {xs ys : List Int} {i : Nat} (h : nth xs i ≠ nth ys i) : sameB xs ys = false := by
 unfold sameB; exact decide_eq_false fun e => h (by rw [e])
theorem sameB_all {xs ys : List Int} (hl : xs.length = ys.length) (h : ∀ i, i < xs.length → nth xs i = nth ys i) : sameB xs ys = true := by
 unfold sameB
 refine decide_eq_true (List.ext_getElem hl fun i h1 h2 => ?_)
 have := h i h1
 rw [nth_lt h1, nth_lt h2] at this; exact this
set_option maxHeartbeats 1000000 in
theorem same_calls (A B : Option Addr) (ca cb : Nat) (xs ys : List Int) (w : World) (hx : xs.length ≤ maxLen) (hy : ys.length ≤ maxLen) (hA : Ints w A xs) (hB : Ints w B ys) :
  Calls Tryz.prog 36 #[.slice A xs.length ca, .slice B ys.length cb] w fun e w' => e = .returned (.bool (sameB xs ys)) ∧ ∃ k, w' = w.drewN k := by
 unfold maxLen at hx hy
 by_cases hl : xs.length = ys.length
 ·have d1 : ((xs.length : Int) != (ys.length : Int)) = false := by simp [hl]
  have HL := Lib.hid hl; clear hl
  go_enter Tryz.func36, Tryz.ntmps36
  go_wp2
  go_loopw [5] (fun i wr => ∃ k n : Nat, k ≤ xs.length ∧ i = .int .i64 k ∧ (∀ j, j < k → nth xs j = nth ys j) ∧ wr = w.drewN n) (fun i _ => xs.length - (intOf i).toNat)
  case atStart => exact ⟨0, 0, Nat.zero_le _, rfl, fun j hj => by omega, rfl⟩
  case round =>
   obtain ⟨k, n, hk, rfl, hs, rfl⟩ := hrel
   have HS := Lib.hid hs; clear hs
   by_cases hlt : k < xs.length
   ·obtain ⟨b1, o1, rfl, g1⟩ := hA k hlt
    obtain ⟨b2, o2, rfl, g2⟩ := hB k (by rw [← HL.out]; exact hlt)
    have h0 : (0 : Int) ≤ k := by omega
    have h1 : (k : Int) < xs.length := by omega
    have h2 : (k : Int) < ys.length := by have := HL.out; omega
    by_cases hq : nth xs k = nth ys k
    ·have q1 : (nth xs k != nth ys k) = false := by simp [hq]
     have HQ := Lib.hid hq; clear hq
     go_wp2_with fail
     go_quiet (fail)
     go_wp2
     go_roundw
     case rel => exact ⟨k + 1, _, by omega, by go_num, fun j hj => by rcases Nat.lt_or_ge j k with e | e; exact HS.out j e; (obtain rfl : j = k := by omega); exact HQ.out, by first | rfl | exact drewN_add _ _ _⟩
     case measure => simp [intOf]; omega
    ·have q1 : (nth xs k != nth ys k) = true := by simp [hq]
     have HQ := Lib.hid hq; clear hq
     go_wp2_with fail
     go_quiet (fail)
     go_wp2
     go_ret
     exact ⟨by rw [sameB_at HQ.out]; rfl, _, by first | rfl | exact drewN_add _ _ _⟩
   ·obtain rfl : k = xs.length := by omega
    go_wp2
    go_ret
    exact ⟨by rw [sameB_all HL.out HS.out]; rfl, n, rfl⟩
 ·have d1 : ((xs.length : Int) != (ys.length : Int)) = true := by simp; omega
  have HL := Lib.hid hl; clear hl
  go_enter Tryz.func36, Tryz.ntmps36
  go_wp2
  go_ret
  exact ⟨by rw [sameB_len HL.out]; rfl, 0, rfl⟩
end Go.Proofs.YtkljafmdbajfeaaGreatDoor

/- tinplatelaw01.alive. -/
namespace Go.Proofs.YtkljafmdbajfeaaGreatDoor
open Go.RowKit
open Lp (Lt V Ech Gen From Red pivots EndFound)
set_option linter.unusedVariables false
set_option linter.unusedSimpArgs false
theorem ints2 {w : World} {g : Nat} {a b : Int} {T : TypeId} (h : Blk w g [.int .i64 a, .int .i64 b] T) : Ints w (some ⟨g, 0, none⟩) [a, b] := fun i hi => by
 refine ⟨g, 0, rfl, ?_⟩
 rw [Nat.zero_add]
 have h1 : i = 0 ∨ i = 1 := by simp at hi; omega
 rcases h1 with rfl | rfl
 ·exact h.cell 0 (by simp)
 ·exact h.cell 1 (by simp)
theorem grid2 {w : World} {g g0 g1 : Nat} {T : TypeId} {a b c d : Int} {T0 T1 : TypeId} (h : Blk w g [.slice (some ⟨g0, 0, none⟩) 2 2, .slice (some ⟨g1, 0, none⟩) 2 2] T) (h0 : Blk w g0 [.int .i64 a, .int .i64 b] T0) (h1 : Blk w g1 [.int .i64 c, .int .i64 d] T1) :
  Grid w (some ⟨g, 0, none⟩) [[a, b], [c, d]] := fun i hi => by
 have h3 : i = 0 ∨ i = 1 := by simp at hi; omega
 rcases h3 with rfl | rfl
 ·exact ⟨g, 0, _, 2, rfl, by rw [Nat.zero_add]; exact h.cell 0 (by simp), Nat.le_refl _, ints2 h0⟩
 ·exact ⟨g, 0, _, 2, rfl, by rw [Nat.zero_add]; exact h.cell 1 (by simp), Nat.le_refl _, ints2 h1⟩
theorem ex_hermite {w w' : World} {v : Value} {rows : Lt} (h : HermiteV w w' v [[4, 6], [6, 9]] 2 rows) : ∃ gr c g, v = .slice (some ⟨gr, 0, none⟩) 1 c ∧ w'.cell? ⟨gr, 0, none⟩ = some (.slice (some ⟨g, 0, none⟩) 2 2) ∧ IBlk w' g [2, 3] := by
 have hr := ex_rows h.ech h.red h.gen
 have hg := h.grid
 rw [hr] at hg
 obtain ⟨gs, h1, h2, -, h3⟩ := hg.ex
 match gs, h1 with
 | [g], _ =>
   obtain ⟨hf, _, hI⟩ := h3 0 (by simp)
   rcases h2.2 with ⟨-, h0⟩ | ⟨gr, cap, cur, rfl, _⟩
   ·simp at h0
   ·have hI2 : IBlk w' g (intsTo (nth [2, 3]) 2 2) := hI
    rw [show intsTo (nth [2, 3]) 2 2 = [2, 3] by
     show [wrap64 (nth [2, 3] 0), wrap64 (nth [2, 3] 1)] = [2, 3]
     rw [wrap64_small (by decide), wrap64_small (by decide)]; rfl] at hI2
    refine ⟨gr, cap, g, rfl, ?_, hI2⟩
    rw [h2.cellAt 0 (by simp)]; rfl
set_option maxRecDepth 100000 in
set_option maxHeartbeats 4000000 in
theorem alive_calls (w : World) (hc : TabOk 0 costsO w) :
  Calls Tryz.prog 15 #[] w fun e w' => e = .returned (.bool true) ∧ Below w.heap.size w w' := by
 obtain ⟨g0, hg0⟩ : ∃ g0, w.heap.size = g0 := ⟨_, rfl⟩
 obtain ⟨wa, hwa⟩ : ∃ wa, w.alloc (.cells #[.int .i64 4, .int .i64 6] 3 (0, 0)) = wa := ⟨_, rfl⟩
 obtain ⟨wb, hwb⟩ : ∃ wb, wa.alloc (.cells #[.int .i64 6, .int .i64 9] 3 (0, 0)) = wb := ⟨_, rfl⟩
 obtain ⟨wc, hwc⟩ : ∃ wc, wb.alloc (.cells #[.slice (some ⟨g0, 0, none⟩) 2 2, .slice (some ⟨g0 + 1, 0, none⟩) 2 2] 23 (0, 0)) = wc := ⟨_, rfl⟩
 have sa : wa.heap.size = g0 + 1 := by rw [← hwa]; simp [hg0]
 have sb : wb.heap.size = g0 + 1 + 1 := by rw [← hwb]; simp [sa]
 have ba : Blk wa g0 [.int .i64 4, .int .i64 6] 3 := by rw [← hwa, ← hg0]; exact Blk.new _ _ _
 have bb : Blk wb (g0 + 1) [.int .i64 6, .int .i64 9] 3 := by rw [← hwb, ← sa]; exact Blk.new _ _ _
 have bc : Blk wc (g0 + 1 + 1) [.slice (some ⟨g0, 0, none⟩) 2 2, .slice (some ⟨g0 + 1, 0, none⟩) 2 2] 23 := by rw [← hwc, ← sb]; exact Blk.new _ _ _
 have eb : Below wa.heap.size wa wb := by rw [← hwb]; exact (Below.refl _ _).alloc (Nat.le_refl _) _
 have ec : Below wb.heap.size wb wc := by rw [← hwc]; exact (Below.refl _ _).alloc (Nat.le_refl _) _
 have ea : Below w.heap.size w wa := by rw [← hwa]; exact (Below.refl _ _).alloc (Nat.le_refl _) _
 have e3 : Below w.heap.size w wc := (ea.trans (eb.mono (by omega))).trans (ec.mono (by omega))
 have hgr := grid2 bc ((ba.ext eb).ext ec) (bb.ext ec)
 have hh : Calls Tryz.prog 31 #[.slice (some ⟨g0 + 1 + 1, 0, none⟩) 2 2, .int .i64 2] wc fun e w' => ∃ v rows, e = .returned (.tuple #[v, .int .i64 0]) ∧ HermiteV wc w' v [[4, 6], [6, 9]] 2 rows := hermite_good _ 2 2 [[4, 6], [6, 9]] wc hgr (by decide)
 have HH := Lib.hid hh; have HE3 := Lib.hid e3; have HC := Lib.hid hc
 clear hh hgr ba bb bc eb ec ea e3 hc
 have HW := Lib.hid (And.intro hwa (And.intro hwb hwc)); have HS := Lib.hid (And.intro sa sb)
 have HG := Lib.hid hg0
 clear hwa hwb hwc sa sb hg0
 go_enter Tryz.func15, Tryz.ntmps15
 go_wp2_with fail
 rw [HG.out, HW.out.1, HW.out.2.1, HW.out.2.2]
 refine HH.out.mono ?_; rintro e w1 ⟨v, rows, rfl, hv⟩
 obtain ⟨gr, cr, g, rfl, hgc, hgi⟩ := ex_hermite hv
 have HB1 := Lib.hid (HE3.out.trans (hv.below.mono HE3.out.size)); have HGC := Lib.hid hgc; have HGI := Lib.hid hgi
 clear hv hgc hgi HH HW HS HG
 obtain ⟨k0, hk0⟩ : ∃ k0, w1.heap.size = k0 := ⟨_, rfl⟩
 obtain ⟨va, hva⟩ : ∃ va, w1.alloc (.cells #[.int .i64 1, .int .i64 2] 3 (0, 0)) = va := ⟨_, rfl⟩
 obtain ⟨vb, hvb⟩ : ∃ vb, va.alloc (.cells #[.int .i64 3, .int .i64 1] 3 (0, 0)) = vb := ⟨_, rfl⟩
 obtain ⟨vc, hvc⟩ : ∃ vc, vb.alloc (.cells #[.slice (some ⟨k0, 0, none⟩) 2 2, .slice (some ⟨k0 + 1, 0, none⟩) 2 2] 23 (0, 0)) = vc := ⟨_, rfl⟩
 obtain ⟨vd, hvd⟩ : ∃ vd, vc.alloc (.cells #[.int .i64 4, .int .i64 6] 3 (0, 0)) = vd := ⟨_, rfl⟩
 obtain ⟨ve, hve⟩ : ∃ ve, vd.alloc (.cells #[.int .i64 1, .int .i64 1] 3 (0, 0)) = ve := ⟨_, rfl⟩
 have sa : va.heap.size = k0 + 1 := by rw [← hva]; simp [hk0]
 have sb : vb.heap.size = k0 + 1 + 1 := by rw [← hvb]; simp [sa]
 have sc : vc.heap.size = k0 + 1 + 1 + 1 := by rw [← hvc]; simp [sb]
 have sd : vd.heap.size = k0 + 1 + 1 + 1 + 1 := by rw [← hvd]; simp [sc]
 have ba : Blk va k0 [.int .i64 1, .int .i64 2] 3 := by rw [← hva, ← hk0]; exact Blk.new _ _ _
 have bb : Blk vb (k0 + 1) [.int .i64 3, .int .i64 1] 3 := by rw [← hvb, ← sa]; exact Blk.new _ _ _
 have bc : Blk vc (k0 + 1 + 1) [.slice (some ⟨k0, 0, none⟩) 2 2, .slice (some ⟨k0 + 1, 0, none⟩) 2 2] 23 := by rw [← hvc, ← sb]; exact Blk.new _ _ _
 have bd : Blk vd (k0 + 1 + 1 + 1) [.int .i64 4, .int .i64 6] 3 := by rw [← hvd, ← sc]; exact Blk.new _ _ _
 have be : Blk ve (k0 + 1 + 1 + 1 + 1) [.int .i64 1, .int .i64 1] 3 := by rw [← hve, ← sd]; exact Blk.new _ _ _
 have ea : Below w1.heap.size w1 va := by rw [← hva]; exact (Below.refl _ _).alloc (Nat.le_refl _) _
 have eb : Below va.heap.size va vb := by rw [← hvb]; exact (Below.refl _ _).alloc (Nat.le_refl _) _
 have ec : Below vb.heap.size vb vc := by rw [← hvc]; exact (Below.refl _ _).alloc (Nat.le_refl _) _
 have ed : Below vc.heap.size vc vd := by rw [← hvd]; exact (Below.refl _ _).alloc (Nat.le_refl _) _
 have ee : Below vd.heap.size vd ve := by rw [← hve]; exact (Below.refl _ _).alloc (Nat.le_refl _) _
 have e15 : Below w1.heap.size w1 ve := (((ea.trans (eb.mono (by omega))).trans (ec.mono (by omega))).trans (ed.mono (by omega))).trans (ee.mono (by omega))
 have hgr := grid2 ((bc.ext ed).ext ee) ((((ba.ext eb).ext ec).ext ed).ext ee) (((bb.ext ec).ext ed).ext ee)
 have hp3 : Prog3 ve (some ⟨k0 + 1 + 1, 0, none⟩) (some ⟨k0 + 1 + 1 + 1, 0, none⟩) (some ⟨k0 + 1 + 1 + 1 + 1, 0, none⟩) exA [4, 6] [1, 1] := ⟨hgr, ints2 (bd.ext ee), ints2 be, by decide, by decide, by decide, by decide⟩
 have hmin : Calls Tryz.prog 16 #[.agg #[.slice (some ⟨k0 + 1 + 1, 0, none⟩) 2 2, .slice (some ⟨k0 + 1 + 1 + 1, 0, none⟩) 2 2, .slice (some ⟨k0 + 1 + 1 + 1 + 1, 0, none⟩) 2 2]] ve fun e w' => OfPost exA [4, 6] [1, 1] 0 costsO true ve w' e ∧ Below ve.heap.size ve w' :=
  minimum_calls _ _ _ 2 2 2 exA [4, 6] [1, 1] ve hp3 (HC.out.ext (HB1.out.trans (e15.mono HB1.out.size)))
 have HM := Lib.hid hmin
 have HB2 := Lib.hid (HB1.out.trans (e15.mono HB1.out.size)); have HGC2 := Lib.hid (((bcell e15).1 _ _ (cell_lt HGC.out)).trans HGC.out); have HGI2 := Lib.hid (Blk.ext HGI.out e15)
 clear hp3 hmin hgr ba bb bc bd be ea eb ec ed ee e15 sa sb sc sd HB1 HGC HGI HE3 HC
 have HV := Lib.hid (And.intro hva (And.intro hvb (And.intro hvc (And.intro hvd hve)))); have HK := Lib.hid hk0
 clear hva hvb hvc hvd hve hk0
 go_wp2_with fail
 rw [HK.out, HV.out.1, HV.out.2.1, HV.out.2.2.1, HV.out.2.2.2.1, HV.out.2.2.2.2]
 refine HM.out.mono ?_; rintro e w2 ⟨hpost, hb2⟩
 obtain ⟨pg, rfl, hpi⟩ : ∃ pg, e = .returned (.tuple #[.agg #[.slice (some ⟨pg, 0, none⟩) 2 2, .int .i64 5], .int .i64 0]) ∧ IBlk w2 pg [8, 6] := by
  rcases hpost with ⟨h1, -⟩ | ⟨-, s, x, y, hs3, hq, h5⟩
  ·exact absurd h1 (by decide)
  ·have hs0 : s = 0 ∧ EndFound (qA exA) (qB [4, 6]) (qB [1, 1]) 2 2 x y := by
    rcases hq with ⟨e, h, -⟩ | ⟨-, h, -⟩ | ⟨-, h, -⟩
    ·exact ⟨e, h⟩
    ·exact (ex_empty h).elim
    ·exact (ex_free h).elim
   obtain ⟨rfl, hf⟩ := hs0
   obtain ⟨x0, x1⟩ := ex_found hf
   rcases h5 with ⟨h5, -⟩ | ⟨-, pg, xs, d, h6, -, h8, h9⟩
   ·exact absurd rfl h5
   ·obtain ⟨rfl, rfl⟩ := ex_point h9 x0 x1
    exact ⟨pg, h6, h8⟩
 have HB3 := Lib.hid (HB2.out.trans (hb2.mono HB2.out.size)); have HGC3 := Lib.hid (((bcell hb2).1 _ _ (cell_lt HGC2.out)).trans HGC2.out); have HGI3 := Lib.hid (Blk.ext HGI2.out hb2); have HPI := Lib.hid hpi
 clear hpost hb2 hpi HM HV HK HB2 HGC2 HGI2
 have HGG := Lib.hid (IBlk.ints (show IBlk w2 g [2, 3] from HGI3.out)); have HPP := Lib.hid (HPI.out.ints)
 have hgc := HGC3.out
 have hA1 : Below w2.heap.size w2 (w2.alloc (.cells #[.slice (some ⟨pg, 0, none⟩) 2 2, .int .i64 5] 29 (0, 0))) := (Below.refl _ _).alloc (Nat.le_refl _) _
 obtain ⟨w3, hw3⟩ : ∃ w3, w2.alloc (.cells #[.slice (some ⟨pg, 0, none⟩) 2 2, .int .i64 5] 29 (0, 0)) = w3 := ⟨_, rfl⟩
 rw [hw3] at hA1
 have bp : Blk w3 w2.heap.size [.slice (some ⟨pg, 0, none⟩) 2 2, .int .i64 5] 29 := by rw [← hw3]; exact Blk.new _ _ _
 obtain ⟨w4, hw4⟩ : ∃ w4, w3.alloc (.cells #[.int .i64 2, .int .i64 3] 3 (0, 0)) = w4 := ⟨_, rfl⟩
 have hA2 : Below w3.heap.size w3 w4 := by rw [← hw4]; exact (Below.refl _ _).alloc (Nat.le_refl _) _
 have b23 : Blk w4 w3.heap.size [.int .i64 2, .int .i64 3] 3 := by rw [← hw4]; exact Blk.new _ _ _
 have hsame : Calls Tryz.prog 36 #[.slice (some ⟨g, 0, none⟩) 2 2, .slice (some ⟨w3.heap.size, 0, none⟩) 2 2] w4 fun e w' => e = .returned (.bool (sameB [2, 3] [2, 3])) ∧ ∃ k, w' = w4.drewN k := same_calls _ _ 2 2 [2, 3] [2, 3] w4 (by decide) (by decide) ((HGG.out.ext hA1).ext hA2) (ints2 b23)
 rw [show sameB [2, 3] [2, 3] = true by decide] at hsame
 have HS1 := Lib.hid hsame
 have hgc3 := ((bcell hA1).1 _ _ (cell_lt hgc)).trans hgc
 have HW3 := Lib.hid hw3; have HW4 := Lib.hid hw4; have HA1 := Lib.hid hA1; have HA2 := Lib.hid hA2; have HBP := Lib.hid bp
 rw [← hw3] at hgc3
 clear hgc hA1 hA2 bp b23 hsame hw3 hw4
 have hsz3 : w2.heap.size + 1 = w3.heap.size := by rw [← HW3.out]; simp
 go_wp2_with fail
 rw [HW3.out, HW4.out]
 refine HS1.out.mono ?_; rintro e w5 ⟨rfl, kd, hw5⟩
 have e45 : Below w4.heap.size w4 w5 := by rw [hw5]; exact drewN_below _ _
 have bp5 := (HBP.out.ext HA2.out).ext e45
 obtain ⟨pp, hpp⟩ : ∃ pp, w2.heap.size = pp := ⟨_, rfl⟩
 rw [hpp] at bp5 ⊢
 have c0 := bp5.cell 0 (by simp)
 have c1 := bp5.cell 1 (by simp)
 simp only [List.getElem_cons_zero, List.getElem_cons_succ] at c0 c1
 have e25 : Below w2.heap.size w2 w5 := (HA1.out.trans (HA2.out.mono HA1.out.size)).trans (e45.mono (by have := HA1.out.size; have := HA2.out.size; omega))
 obtain ⟨w6, hw6⟩ : ∃ w6, w5.alloc (.cells #[.int .i64 8, .int .i64 6] 3 (0, 0)) = w6 := ⟨_, rfl⟩
 have hA6 : Below w5.heap.size w5 w6 := by rw [← hw6]; exact (Below.refl _ _).alloc (Nat.le_refl _) _
 have b86 : Blk w6 w5.heap.size [.int .i64 8, .int .i64 6] 3 := by rw [← hw6]; exact Blk.new _ _ _
 have hsame : Calls Tryz.prog 36 #[.slice (some ⟨pg, 0, none⟩) 2 2, .slice (some ⟨w5.heap.size, 0, none⟩) 2 2] w6 fun e w' => e = .returned (.bool (sameB [8, 6] [8, 6])) ∧ ∃ k, w' = w6.drewN k := same_calls _ _ 2 2 [8, 6] [8, 6] w6 (by decide) (by decide) ((HPP.out.ext e25).ext hA6) (ints2 b86)
 rw [show sameB [8, 6] [8, 6] = true by decide] at hsame
 have HS2 := Lib.hid hsame
 have HB6 := Lib.hid ((HB3.out.trans (e25.mono HB3.out.size)).trans (hA6.mono (by have := HB3.out.size; have := e25.size; omega)))
 have HW6 := Lib.hid hw6
 clear hw5 e45 bp5 hpp e25 hA6 b86 hsame hgc3 hsz3 HS1 hw6
 go_wp2_with fail
 rw [HW6.out]
 refine HS2.out.mono ?_; rintro e w7 ⟨rfl, kd2, hw7⟩
 have HB7 : Hid (Below w.heap.size w w7) := Lib.hid (by rw [hw7]; exact HB6.out.trans ((drewN_below w6 kd2).mono HB6.out.size))
 clear hw7 c0 c1
 go_wp2
 go_ret
 exact ⟨rfl, HB7.out⟩
end Go.Proofs.YtkljafmdbajfeaaGreatDoor
