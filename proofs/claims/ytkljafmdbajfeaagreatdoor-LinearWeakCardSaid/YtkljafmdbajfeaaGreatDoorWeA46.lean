/- Plain laws of linear programs, said of points with one divisor: weak duality, the one end of a program, what a least point is ahead of. -/
import Derived.Test.YtkljafmdbajfeaaGreatDoorWeA43
import Derived.Test.YtkljafmdbajfeaaGreatDoorWeA44
namespace Go.Proofs.YtkljafmdbajfeaaGreatDoor
open Lp (Tab sumTo Feas LexLe EndFound EndEmpty EndFree)
set_option linter.unusedVariables false
set_option linter.unusedSimpArgs false
theorem sumTo_le {n : Nat} {f g : Nat → Rat} (h : ∀ i, i < n → f i ≤ g i) : sumTo n f ≤ sumTo n g := by
 induction n with
 | zero => exact Rat.le_refl
 | succ n ih => unfold Lp.sumTo; have h1 := ih fun i hi => h i (by omega); have h2 := h n (by omega); grind
theorem mulr_le {x y z : Rat} (h : x ≤ y) (hz : 0 ≤ z) : x * z ≤ y * z := Rat.mul_le_mul_of_nonneg_right h hz
theorem mull_le {x y z : Rat} (h : x ≤ y) (hz : 0 ≤ z) : z * x ≤ z * y := Rat.mul_le_mul_of_nonneg_left h hz
theorem sum_swap (m n : Nat) (A : Tab) (Y x : Nat → Rat) : (sumTo m fun i => Y i * sumTo n fun j => A i j * x j) = sumTo n fun j => (sumTo m fun i => Y i * A i j) * x j := by
 have e1 : (sumTo m fun i => Y i * sumTo n fun j => A i j * x j) = sumTo m fun i => sumTo n fun j => Y i * A i j * x j :=
  Lp.sumTo_congr fun i hi => by rw [← Lp.sumTo_mul]; exact Lp.sumTo_congr fun j hj => by grind
 rw [e1, Lp.sumTo_comm]
 exact Lp.sumTo_congr fun j hj => by rw [← Lp.sumTo_mulr]
theorem weak {A : Tab} {b c : Nat → Rat} {n m : Nat} {x Y : Nat → Rat} (hx : Feas A b n m x) (h0 : ∀ i, i < m → 0 ≤ Y i) (hY : ∀ j, j < n → (sumTo m fun i => Y i * A i j) ≤ c j) :
  (sumTo m fun i => Y i * b i) ≤ sumTo n fun j => c j * x j := by
 have h1 : (sumTo m fun i => Y i * b i) ≤ sumTo m fun i => Y i * sumTo n fun j => A i j * x j := sumTo_le fun i hi => mull_le (hx.ge i hi) (h0 i hi)
 rw [sum_swap] at h1
 exact Rat.le_trans h1 (sumTo_le fun j hj => mulr_le (hY j hj) (hx.nn j hj))
theorem sum0 (n : Nat) (f : Nat → Rat) : (sumTo n fun j => 0 * f j) = 0 := Lp.sumTo_zero fun _ _ => by grind
theorem sum0r (n : Nat) (f : Nat → Rat) : (sumTo n fun j => f j * 0) = 0 := Lp.sumTo_zero fun _ _ => by grind
theorem empty_feas {A : Tab} {b : Nat → Rat} {n m : Nat} {x Y : Nat → Rat} (h : EndEmpty A b n m Y) (hx : Feas A b n m x) : False := by
 have h1 := weak (c := fun _ => 0) hx h.nn h.le
 rw [sum0] at h1
 have h2 := h.pos
 grind
theorem found_free {A : Tab} {b c : Nat → Rat} {n m : Nat} {X Y D : Nat → Rat} (h : EndFound A b c n m X Y) (k : EndFree A b c n m D) : False := by
 have h1 := weak (b := fun _ => 0) (x := D) ⟨k.nn, fun i hi => k.ge i hi⟩ h.nn h.le
 rw [sum0r] at h1
 have h2 := k.falls
 grind
structure Pt (xs : List Int) (d : Int) (n : Nat) (x : Nat → Rat) : Prop where
 len : xs.length = n
 d1 : 1 ≤ d
 val : ∀ i, i < n → ((nth xs i : Int) : Rat) = x i * (d : Rat)
theorem PtOf.pt {xs : List Int} {d : Int} {n : Nat} {x : Nat → Rat} (h : PtOf xs d n x) : Pt xs d n x := ⟨h.len, h.d1, h.val⟩
theorem rpos {d : Int} (h : 1 ≤ d) : (0 : Rat) < (d : Rat) := by
 have h1 : ((0 : Int) : Rat) < (d : Rat) := Rat.intCast_lt_intCast.2 (by omega)
 simpa using h1
theorem Pt.of {xs : List Int} {d : Int} {n : Nat} (hl : xs.length = n) (hd : 1 ≤ d) : Pt xs d n fun i => (nth xs i : Rat) / (d : Rat) := by
 refine ⟨hl, hd, fun i hi => ?_⟩
 have h1 := rpos hd
 have h2 : (d : Rat) ≠ 0 := by grind
 exact (Rat.div_mul_cancel h2).symm
theorem dotN_sum (xs ys : List Int) : ∀ k, ((dotN xs ys k : Int) : Rat) = sumTo k fun i => ((nth xs i : Int) : Rat) * ((nth ys i : Int) : Rat)
 | 0 => rfl
 | k + 1 => by
   simp only [dotN, Lp.sumTo]
   rw [Rat.intCast_add, Rat.intCast_mul, dotN_sum xs ys k]
theorem Pt.dot {xs : List Int} {d : Int} {n : Nat} {x : Nat → Rat} (h : Pt xs d n x) {r : List Int} (hr : r.length = n) : ((dotZ r xs : Int) : Rat) = (sumTo n fun j => ((nth r j : Int) : Rat) * x j) * (d : Rat) := by
 unfold dotZ
 rw [dotN_sum, hr, ← Lp.sumTo_mulr]
 exact Lp.sumTo_congr fun j hj => by rw [h.val j hj]; grind
theorem Pt.dotr {xs : List Int} {d : Int} {n : Nat} {x : Nat → Rat} (h : Pt xs d n x) {r : List Int} (hr : r.length = n) : ((dotZ r xs : Int) : Rat) = (sumTo n fun j => x j * ((nth r j : Int) : Rat)) * (d : Rat) := by
 rw [h.dot hr]; congr 1; exact Lp.sumTo_congr fun j hj => Rat.mul_comm _ _
theorem Pt.col {ys : List Int} {e : Int} {a : List (List Int)} {y : Nat → Rat} (h : Pt ys e a.length y) (j : Nat) : ((dotZ (clmOf a j) ys : Int) : Rat) = (sumTo a.length fun i => y i * qA a i j) * (e : Rat) := by
 rw [h.dotr (r := clmOf a j) (by unfold clmOf; exact clmTo_len _ _ _)]
 congr 1
 exact Lp.sumTo_congr fun i hi => by rw [clmOf_nth _ _ _ hi]; rfl
theorem mulr_lt {x y z : Rat} (hz : 0 < z) (h : x < y) : x * z < y * z := Rat.mul_lt_mul_of_pos_right h hz
theorem mulr_le_iff {x y z : Rat} (hz : 0 < z) : x * z ≤ y * z ↔ x ≤ y := by
 constructor
 ·intro h
  refine Classical.byContradiction fun hn => ?_
  have := mulr_lt hz (x := y) (y := x) (by grind)
  grind
 ·intro h; exact mulr_le h (by grind)
theorem mulr_lt_iff {x y z : Rat} (hz : 0 < z) : x * z < y * z ↔ x < y := by
 have := mulr_le_iff (x := y) (y := x) hz
 constructor
 ·intro h
  refine Classical.byContradiction fun hn => ?_
  have := this.2 (by grind)
  grind
 ·intro h; exact mulr_lt hz h
theorem cross_le {p q d e : Int} {x y : Rat} (hd : 1 ≤ d) (he : 1 ≤ e) (hp : (p : Rat) = x * (d : Rat)) (hq : (q : Rat) = y * (e : Rat)) : p * e ≤ q * d ↔ x ≤ y := by
 have h1 := rpos hd
 have h2 := rpos he
 have h3 : (0 : Rat) < (d : Rat) * (e : Rat) := Rat.mul_pos h1 h2
 rw [← Rat.intCast_le_intCast, Rat.intCast_mul, Rat.intCast_mul, hp, hq, ← mulr_le_iff h3 (x := x) (y := y)]
 have e1 : x * (d : Rat) * (e : Rat) = x * ((d : Rat) * (e : Rat)) := by grind
 have e2 : y * (e : Rat) * (d : Rat) = y * ((d : Rat) * (e : Rat)) := by grind
 rw [e1, e2]
theorem cross_lt {p q d e : Int} {x y : Rat} (hd : 1 ≤ d) (he : 1 ≤ e) (hp : (p : Rat) = x * (d : Rat)) (hq : (q : Rat) = y * (e : Rat)) : p * e < q * d ↔ x < y := by
 have := cross_le he hd hq hp
 constructor
 ·intro h
  refine Classical.byContradiction fun hn => ?_
  have := this.2 (by grind)
  omega
 ·intro h
  refine Classical.byContradiction fun hn => ?_
  have := this.1 (by omega)
  grind
theorem over_le {p q d : Int} {x y : Rat} (hd : 1 ≤ d) (hp : (p : Rat) = x * (d : Rat)) (hq : (q : Rat) = y * (d : Rat)) : p ≤ q ↔ x ≤ y := by
 rw [← Rat.intCast_le_intCast, hp, hq, mulr_le_iff (rpos hd)]
theorem over_lt {p q d : Int} {x y : Rat} (hd : 1 ≤ d) (hp : (p : Rat) = x * (d : Rat)) (hq : (q : Rat) = y * (d : Rat)) : p < q ↔ x < y := by
 rw [← Rat.intCast_lt_intCast, hp, hq, mulr_lt_iff (rpos hd)]
theorem zero_cast (d : Int) : ((0 : Int) : Rat) = 0 * (d : Rat) := by simp
theorem int_over (p d : Int) : ((p * d : Int) : Rat) = (p : Rat) * (d : Rat) := Rat.intCast_mul p d
theorem nnB_iff {xs : List Int} : nnB xs = true ↔ ∀ i, i < xs.length → 0 ≤ nth xs i := by
 unfold nnB
 rw [List.all_eq_true]
 constructor
 ·intro h i hi; exact of_decide_eq_true (h _ (nth_mem hi))
 ·intro h x hx
  obtain ⟨i, hi, rfl⟩ := List.getElem_of_mem hx
  have := h i hi
  rw [nth_lt hi] at this
  exact decide_eq_true this
theorem Pt.nn {xs : List Int} {d : Int} {n : Nat} {x : Nat → Rat} (h : Pt xs d n x) : nnB xs = true ↔ ∀ i, i < n → 0 ≤ x i := by
 rw [nnB_iff, h.len]
 constructor
 ·intro k i hi; exact (over_le h.d1 (zero_cast d) (h.val i hi)).1 (k i hi)
 ·intro k i hi; exact (over_le h.d1 (zero_cast d) (h.val i hi)).2 (k i hi)
theorem listOk_of {m : Int} {xs : List Int} (h : ∀ i, i < xs.length → -m ≤ nth xs i ∧ nth xs i ≤ m) : listOk m xs = true := by
 unfold listOk
 rw [List.all_eq_true]
 intro x hx
 obtain ⟨i, hi, rfl⟩ := List.getElem_of_mem hx
 have := h i hi
 rw [nth_lt hi] at this
 unfold inB
 simp [this.1, this.2]
theorem PtOf.ok {xs : List Int} {d : Int} {n : Nat} {x : Nat → Rat} (h : PtOf xs d n x) : pointOk n xs d = true := by
 have h1 := h.d1; have h2 := h.d2
 have h3 : listOk 1125899906842624 xs = true := listOk_of fun i hi => by have := h.bd i (by rw [← h.len]; exact hi); omega
 unfold pointOk
 rw [h3, decide_eq_true h.len, decide_eq_true h1, decide_eq_true (by omega)]; rfl
theorem pointOk.pt {n : Nat} {xs : List Int} {d : Int} (h : pointOk n xs d = true) : Pt xs d n fun i => (nth xs i : Rat) / (d : Rat) := by
 obtain ⟨h1, h2, -, -⟩ := pointOk_parts h; exact Pt.of h1 h2
theorem row_len {a : List (List Int)} {b c : List Int} (h : progOk a b c = true) {i : Nat} (hi : i < a.length) : (nrow a i).length = c.length := ((progOk_parts h).2.2.1 _ (nrow_mem hi)).1
section
variable {a : List (List Int)} {b c xs ys : List Int} {d e : Int} {x y : Nat → Rat}
theorem feas_iff (hp : progOk a b c = true) (ho : pointOk c.length xs d = true) (h : Pt xs d c.length x) : feasS a b c xs d = true ↔ Feas (qA a) (qB b) c.length a.length x := by
 unfold feasS
 rw [hp, ho, Bool.true_and, Bool.true_and, Bool.and_eq_true, h.nn, List.all_eq_true]
 have key : ∀ i, i < a.length → (nth b i * d ≤ dotZ (nrow a i) xs ↔ qB b i ≤ sumTo c.length fun j => qA a i j * x j) := fun i hi =>
  over_le h.d1 (int_over _ _) (h.dot (row_len hp hi))
 constructor
 ·rintro ⟨h1, h2⟩
  exact ⟨h1, fun i hi => (key i hi).1 (of_decide_eq_true (h2 i (List.mem_range.2 hi)))⟩
 ·rintro ⟨h1, h2⟩
  exact ⟨h1, fun i hi => decide_eq_true ((key i (List.mem_range.1 hi)).2 (h2 i (List.mem_range.1 hi)))⟩
theorem feasS_parts (h : feasS a b c xs d = true) : progOk a b c = true ∧ pointOk c.length xs d = true := by
 unfold feasS at h; simp only [Bool.and_eq_true] at h; exact ⟨h.1.1.1, h.1.1.2⟩
theorem feasS_feas (h : feasS a b c xs d = true) : Feas (qA a) (qB b) c.length a.length fun i => (nth xs i : Rat) / (d : Rat) := by
 obtain ⟨h1, h2⟩ := feasS_parts h
 exact (feas_iff h1 h2 (pointOk.pt h2)).1 h
theorem bounds_iff (hp : progOk a b c = true) (ho : pointOk a.length ys e = true) (h : Pt ys e a.length y) : boundsS a b c ys e = true ↔ (∀ i, i < a.length → 0 ≤ y i) ∧ ∀ j, j < c.length → (sumTo a.length fun i => y i * qA a i j) ≤ qB c j := by
 unfold boundsS
 rw [hp, ho, Bool.true_and, Bool.true_and, Bool.and_eq_true, h.nn, List.all_eq_true]
 have key : ∀ j, (dotZ (clmOf a j) ys ≤ nth c j * e ↔ (sumTo a.length fun i => y i * qA a i j) ≤ qB c j) := fun j =>
  over_le h.d1 (h.col j) (int_over _ _)
 constructor
 ·rintro ⟨h1, h2⟩
  exact ⟨h1, fun j hj => (key j).1 (of_decide_eq_true (h2 j (List.mem_range.2 hj)))⟩
 ·rintro ⟨h1, h2⟩
  exact ⟨h1, fun j hj => decide_eq_true ((key j).2 (h2 j (List.mem_range.1 hj)))⟩
theorem boundsS_parts (h : boundsS a b c ys e = true) : progOk a b c = true ∧ pointOk a.length ys e = true := by
 unfold boundsS at h; simp only [Bool.and_eq_true] at h; exact ⟨h.1.1.1, h.1.1.2⟩
theorem denies_iff (hp : progOk a b c = true) (ho : pointOk a.length ys e = true) (h : Pt ys e a.length y) : deniesS a b c ys e = true ↔ EndEmpty (qA a) (qB b) c.length a.length y := by
 unfold deniesS
 rw [hp, ho, Bool.true_and, Bool.true_and, Bool.and_eq_true, Bool.and_eq_true, h.nn, List.all_eq_true, decide_eq_true_iff]
 have key : ∀ j, (dotZ (clmOf a j) ys ≤ 0 ↔ (sumTo a.length fun i => y i * qA a i j) ≤ 0) := fun j => over_le h.d1 (h.col j) (zero_cast e)
 have hb : (0 < dotZ b ys ↔ 0 < sumTo a.length fun i => y i * qB b i) := over_lt h.d1 (zero_cast e) (h.dotr (progOk_parts hp).2.2.2.1)
 constructor
 ·rintro ⟨⟨h1, h2⟩, h3⟩
  exact ⟨h1, fun j hj => (key j).1 (of_decide_eq_true (h2 j (List.mem_range.2 hj))), hb.1 h3⟩
 ·rintro ⟨h1, h2, h3⟩
  exact ⟨⟨h1, fun j hj => decide_eq_true ((key j).2 (h2 j (List.mem_range.1 hj)))⟩, hb.2 h3⟩
theorem deniesS_parts (h : deniesS a b c ys e = true) : progOk a b c = true ∧ pointOk a.length ys e = true := by
 unfold deniesS at h; simp only [Bool.and_eq_true] at h; exact ⟨h.1.1.1.1, h.1.1.1.2⟩
/-! LinearDuality -/
/-! LinearWeak, LinearLeast -/
theorem feas_denies (h : feasS a b c xs d = true) : deniesS a b c ys e = false := by
 cases k : deniesS a b c ys e with
 | false => rfl
 | true =>
   obtain ⟨h1, h2⟩ := feasS_parts h
   obtain ⟨k1, k2⟩ := deniesS_parts k
   exact (empty_feas ((denies_iff k1 k2 (pointOk.pt k2)).1 k) (feasS_feas h)).elim
theorem feas_bounds (h : feasS a b c xs d = true) (k : boundsS a b c ys e = true) : dotZ b ys * d ≤ dotZ c xs * e := by
 obtain ⟨h1, h2⟩ := feasS_parts h
 obtain ⟨k1, k2⟩ := boundsS_parts k
 obtain ⟨y1, y2⟩ := (bounds_iff k1 k2 (pointOk.pt k2)).1 k
 exact (cross_le (pointOk_parts k2).2.1 (pointOk_parts h2).2.1 ((pointOk.pt k2).dotr (progOk_parts h1).2.2.2.1) ((pointOk.pt h2).dot rfl)).2 (weak (feasS_feas h) y1 y2)
theorem found_cost (h : feasS a b c xs d = true) (k : EndFound (qA a) (qB b) (qB c) c.length a.length x y) {ms : List Int} (hm : PtOf ms e c.length x) : dotZ c ms * d ≤ dotZ c xs * e := by
 obtain ⟨h1, h2⟩ := feasS_parts h
 refine (cross_le hm.d1 (pointOk_parts h2).2.1 (hm.pt.dot rfl) ((pointOk.pt h2).dot rfl)).2 ?_
 have h3 := weak (feasS_feas h) k.nn k.le
 have h4 := k.level
 show (sumTo c.length fun j => qB c j * x j) ≤ sumTo c.length fun j => qB c j * ((nth xs j : Rat) / (d : Rat))
 grind
end
def moved (xs ds : List Int) (d e k : Int) (n : Nat) : List Int := (List.range n).map fun j => nth xs j * e + k * d * nth ds j
theorem moved_len (xs ds : List Int) (d e k : Int) (n : Nat) : (moved xs ds d e k n).length = n := by unfold moved; simp
theorem moved_nth {xs ds : List Int} {d e k : Int} {n j : Nat} (h : j < n) : nth (moved xs ds d e k n) j = nth xs j * e + k * d * nth ds j := by
 rw [nth_lt (by rw [moved_len]; exact h)]; unfold moved; simp
theorem moved_pt {xs ds : List Int} {d e k : Int} {n : Nat} {x z : Nat → Rat} (hx : Pt xs d n x) (hz : Pt ds e n z) : Pt (moved xs ds d e k n) (d * e) n fun j => x j + (k : Rat) * z j := by
 refine ⟨moved_len _ _ _ _ _ _, ?_, fun i hi => ?_⟩
 ·have := Int.mul_le_mul hx.d1 hz.d1 (by omega) (by have := hx.d1; omega); omega
 ·rw [moved_nth hi, Rat.intCast_add, Rat.intCast_mul, Rat.intCast_mul, Rat.intCast_mul, Rat.intCast_mul, hx.val i hi, hz.val i hi]; grind
theorem moved_feas {A : Tab} {b c : Nat → Rat} {n m : Nat} {x z : Nat → Rat} {k : Rat} (hk : 0 ≤ k) (hx : Feas A b n m x) (hz : EndFree A b c n m z) : Feas A b n m fun j => x j + k * z j := by
 refine ⟨fun j hj => ?_, fun i hi => ?_⟩
 ·have h1 := hx.nn j hj; have h2 := Rat.mul_nonneg hk (hz.nn j hj); grind
 ·have e1 : (sumTo n fun j => A i j * (x j + k * z j)) = (sumTo n fun j => A i j * x j) + k * sumTo n fun j => A i j * z j := by
   rw [← Lp.sumTo_mul, ← Lp.sumTo_add]; exact Lp.sumTo_congr fun j hj => by grind
  rw [e1]
  have h1 := hx.ge i hi; have h2 := Rat.mul_nonneg hk (hz.ge i hi); grind
section
variable {a : List (List Int)} {b c xs ds : List Int} {d e k : Int} {z : Nat → Rat}
theorem moved_ok (hx : pointOk c.length xs d = true) (hz : PtOf ds e c.length z) (h1 : d ≤ 1000) (h2 : e ≤ 1048576) (h3 : ∀ j, j < c.length → -16777216 ≤ nth xs j ∧ nth xs j ≤ 16777216) (h4 : ∀ j, j < c.length → -16777216 ≤ nth ds j ∧ nth ds j ≤ 16777216) (k1 : 1 ≤ k) (k2 : k ≤ 256) : pointOk c.length (moved xs ds d e k c.length) (d * e) = true := by
 have hd := (pointOk_parts hx).2.1
 have he := hz.d1
 have hde := mul_bd (a := 1000) (b := 1048576) (x := d) (y := e) (by omega) ⟨by omega, h1⟩ ⟨by omega, h2⟩
 have h0 : 1 ≤ d * e := by have := Int.mul_le_mul hd he (by omega) (by omega); omega
 have hkd := mul_bd (a := 256) (b := 1000) (x := k) (y := d) (by omega) ⟨by omega, k2⟩ ⟨by omega, h1⟩
 have h5 : listOk 1125899906842624 (moved xs ds d e k c.length) = true := listOk_of fun i hi => by
  rw [moved_len] at hi
  rw [moved_nth hi]
  have g1 := mul_bd (a := 16777216) (b := 1048576) (x := nth xs i) (y := e) (by omega) (h3 i hi) ⟨by omega, h2⟩
  have g2 := mul_bd (a := 256000) (b := 16777216) (x := k * d) (y := nth ds i) (by omega) ⟨by omega, by omega⟩ (h4 i hi)
  omega
 unfold pointOk
 rw [h5, decide_eq_true (moved_len _ _ _ _ _ _), decide_eq_true h0, decide_eq_true (by omega)]; rfl
theorem moved_feasS (h : feasS a b c xs d = true) (hz : PtOf ds e c.length z) (hf : EndFree (qA a) (qB b) (qB c) c.length a.length z) (k1 : 1 ≤ k) (ho : pointOk c.length (moved xs ds d e k c.length) (d * e) = true) : feasS a b c (moved xs ds d e k c.length) (d * e) = true := by
 obtain ⟨h1, h2⟩ := feasS_parts h
 refine (feas_iff h1 ho (moved_pt (pointOk.pt h2) hz.pt)).2 (moved_feas ?_ (feasS_feas h) hf)
 have := rpos k1; grind
theorem moved_cost (h : feasS a b c xs d = true) (hz : PtOf ds e c.length z) (hf : EndFree (qA a) (qB b) (qB c) c.length a.length z) (k1 : 1 ≤ k) : dotZ c (moved xs ds d e k c.length) * d < dotZ c xs * (d * e) := by
 obtain ⟨h1, h2⟩ := feasS_parts h
 have hp := pointOk.pt h2
 have hm := moved_pt (k := k) hp hz.pt
 refine (cross_lt hm.d1 hp.d1 (hm.dot rfl) (hp.dot rfl)).2 ?_
 have e1 : (sumTo c.length fun j => ((nth c j : Int) : Rat) * ((nth xs j : Rat) / (d : Rat) + (k : Rat) * z j)) = (sumTo c.length fun j => ((nth c j : Int) : Rat) * ((nth xs j : Rat) / (d : Rat))) + (k : Rat) * sumTo c.length fun j => ((nth c j : Int) : Rat) * z j := by
  rw [← Lp.sumTo_mul, ← Lp.sumTo_add]; exact Lp.sumTo_congr fun j hj => by grind
 rw [e1]
 have h3 : (sumTo c.length fun j => ((nth c j : Int) : Rat) * z j) < 0 := hf.falls
 have h4 := mulr_lt (rpos k1) h3
 grind
end
theorem val_parts (z d : Int) (hd : 1 ≤ d) : ∃ g v e : Int, 1 ≤ g ∧ z.tdiv (gcdN d [z] 1) = v ∧ d.tdiv (gcdN d [z] 1) = e ∧ z = v * g ∧ d = e * g ∧ 1 ≤ e := by
 have h1 := gcdN_pos hd [z] 1
 have h2 := gcdN_dvd_d d [z] 1
 have h3 := gcdN_dvd_x d [z] (k := 1) (i := 0) (by omega)
 obtain ⟨G, hG⟩ : ∃ G : Nat, gcdN d [z] 1 = G := ⟨_, rfl⟩
 rw [hG] at h1 h2 h3 ⊢
 have h3 : G ∣ z.natAbs := h3
 have k1 : (G : Int) ∣ z := Int.ofNat_dvd_left.2 h3
 have k2 : (G : Int) ∣ d := Int.ofNat_dvd_left.2 h2
 obtain ⟨v, rfl⟩ := k1
 obtain ⟨e, rfl⟩ := k2
 have hg : (G : Int) ≠ 0 := by omega
 refine ⟨G, v, e, by omega, Int.mul_tdiv_cancel_left _ hg, Int.mul_tdiv_cancel_left _ hg, Int.mul_comm _ _, Int.mul_comm _ _, ?_⟩
 rcases Int.lt_or_le 0 e with h | h
 ·omega
 ·have := Int.mul_nonpos_of_nonneg_of_nonpos (a := (G : Int)) (b := e) (by omega) h; omega
theorem val_cmp {v e g v' e' g' : Int} (hg : 1 ≤ g) (hg' : 1 ≤ g') : v * e' < v' * e ↔ (v * g) * (e' * g') < (v' * g') * (e * g) := by
 have h : 0 < g * g' := Int.mul_pos (by omega) (by omega)
 have e1 : (v * g) * (e' * g') = (v * e') * (g * g') := by grind
 have e2 : (v' * g') * (e * g) = (v' * e) * (g * g') := by grind
 rw [e1, e2]
 exact (Int.mul_lt_mul_right h).symm
end Go.Proofs.YtkljafmdbajfeaaGreatDoor
