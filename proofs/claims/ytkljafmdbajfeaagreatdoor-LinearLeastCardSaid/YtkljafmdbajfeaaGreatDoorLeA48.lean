/- tinplateref01.Proper, atLeast0, dot and Feasible: what they answer. -/
import Derived.Test.YtkljafmdbajfeaaGreatDoorLeA11
import Derived.Test.YtkljafmdbajfeaaGreatDoorLeA13
import Derived.Test.YtkljafmdbajfeaaGreatDoorLeA29
import Derived.Test.YtkljafmdbajfeaaGreatDoorLeA46
import Derived.Test.YtkljafmdbajfeaaGreatDoorLeA47
namespace Go.Proofs.YtkljafmdbajfeaaGreatDoor
open Go.RowKit
set_option linter.unusedVariables false
set_option linter.unusedSimpArgs false
end Go.Proofs.YtkljafmdbajfeaaGreatDoor

/- tinplateref01.column: what it answers. -/
namespace Go.Proofs.YtkljafmdbajfeaaGreatDoor
open Go.RowKit Go.ChangeMaps
set_option linter.unusedVariables false
set_option linter.unusedSimpArgs false
end Go.Proofs.YtkljafmdbajfeaaGreatDoor

/- tinplateref01.Bounds, Denies and Falls: what they answer. -/
namespace Go.Proofs.YtkljafmdbajfeaaGreatDoor
open Go.RowKit
set_option linter.unusedVariables false
set_option linter.unusedSimpArgs false
theorem cost_small {a : List (List Int)} {b c xs : List Int} {d : Int} (h1 : progOk a b c = true) (h2 : pointOk c.length xs d = true) : Small c xs ∧ c.length ≤ xs.length := by
  obtain ⟨⟨k1, k2⟩, k3, k4, k5, k6, k7⟩ := progOk_parts h1
  obtain ⟨p1, p2, p3, p4⟩ := pointOk_parts h2
  exact ⟨small_of k7 p4 (by omega) (by omega) (n := 6) (by omega) (by omega) (by omega), by omega⟩
end Go.Proofs.YtkljafmdbajfeaaGreatDoor

/- linear.times: what it answers. -/
namespace Go.Proofs.YtkljafmdbajfeaaGreatDoor
open Go.RowKit Go.ChangeMaps
set_option linter.unusedVariables false
set_option linter.unusedSimpArgs false
end Go.Proofs.YtkljafmdbajfeaaGreatDoor

/- linear.dual and linear.Falls: what they answer. -/
namespace Go.Proofs.YtkljafmdbajfeaaGreatDoor
open Go.RowKit
set_option linter.unusedVariables false
set_option linter.unusedSimpArgs false
end Go.Proofs.YtkljafmdbajfeaaGreatDoor

/- linear.Bounds and linear.Denies: what they answer. -/
namespace Go.Proofs.YtkljafmdbajfeaaGreatDoor
open Go.RowKit
set_option linter.unusedVariables false
set_option linter.unusedSimpArgs false
end Go.Proofs.YtkljafmdbajfeaaGreatDoor

/- tinplatelaw01.few and light: what they answer. -/
namespace Go.Proofs.YtkljafmdbajfeaaGreatDoor
open Go.RowKit
set_option linter.unusedVariables false
set_option linter.unusedSimpArgs false
def fewB (a : List (List Int)) (b : List Int) : Bool := decide (a.length ≤ 30) && ((List.range a.length).all fun i => decide ((nrow a i).length ≤ 30)) && decide (b.length ≤ 30)
set_option maxHeartbeats 1000000 in
theorem few_calls (A B : Option Addr) (ca cb : Nat) (a : List (List Int)) (b : List Int) (w : World) (hA : Grid w A a) (hl : a.length ≤ maxLen) (hr : ∀ r ∈ a, r.length ≤ maxLen) (hb : b.length ≤ maxLen) :
    Calls Tryz.prog 29 #[.slice A a.length ca, .slice B b.length cb] w fun e w' => e = .returned (.bool (fewB a b)) ∧ w' = w := by
  unfold maxLen at hl hb
  have HR := Lib.hid hr
  clear hr
  go_enter Tryz.func29, Tryz.ntmps29
  go_wp2
  go_loop [5] (fun i => ∃ k : Nat, k ≤ a.length ∧ i = .int .i64 k ∧ k ≤ 30 ∧ ∀ j, j < k → (nrow a j).length ≤ 30) (fun i => a.length - (intOf i).toNat)
  case atStart => exact ⟨0, Nat.zero_le _, rfl, Nat.zero_le _, fun j hj => by omega⟩
  case round =>
    obtain ⟨k, hk, rfl, h30, hall⟩ := hrel
    have HA := Lib.hid hall; clear hall
    by_cases hlt : k < a.length
    · obtain ⟨bb, o, R, cR, rfl, hrc, -, -⟩ := hA k hlt
      have hk1 : (k : Int) < a.length := by omega
      have hrl := HR.out _ (nrow_mem hlt)
      unfold maxLen at hrl
      by_cases h3 : k = 30
      · have d3 : decide (30 ≤ (k : Int)) = true := decide_eq_true (by omega)
        have H3 := Lib.hid h3
        clear h3
        go_wp2
        go_ret
        exact ⟨by have := H3.out; unfold fewB; rw [decide_eq_false (show ¬ a.length ≤ 30 by omega)]; rfl, rfl⟩
      · have d3 : decide (30 ≤ (k : Int)) = false := decide_eq_false (by omega)
        by_cases h4 : (nrow a k).length ≤ 30
        · have d4 : decide (30 < ((nrow a k).length : Int)) = false := decide_eq_false (by omega)
          have H4 := Lib.hid h4
          clear h4
          go_wp2
          go_round
          case rel => exact ⟨k + 1, by omega, by go_num, by omega, fun j hj => if e : j = k then by rw [e]; exact H4.out else HA.out j (by omega)⟩
          case measure => simp [intOf]; omega
        · have d4 : decide (30 < ((nrow a k).length : Int)) = true := decide_eq_true (by omega)
          have H4 := Lib.hid h4
          clear h4
          go_wp2
          go_ret
          exact ⟨by unfold fewB; rw [all_range_false hlt (decide_eq_false H4.out), Bool.and_false]; rfl, rfl⟩
    · obtain rfl : k = a.length := by omega
      have hd : decide ((b.length : Int) ≤ 30) = decide (b.length ≤ 30) := by rw [decide_eq_decide]; omega
      have H30 := Lib.hid h30; have HD := Lib.hid hd
      clear hd h30
      go_wp2
      go_ret
      exact ⟨by unfold fewB; rw [decide_eq_true H30.out, all_range_true fun i hi => decide_eq_true (HA.out i hi), ← HD.out]; rfl, rfl⟩
set_option maxHeartbeats 1000000 in
theorem lightL_calls (A B C : Option Addr) (ca cb cc : Nat) (a : List (List Int)) (b c : List Int) (w : World) (h : Prog3 w A B C a b c) :
    Calls Tryz.prog 14 #[.agg #[.slice A a.length ca, .slice B b.length cb, .slice C c.length cc]] w fun e w' => e = .returned (.bool (fewB a b && decide (c.length ≤ 30))) ∧ Below w.heap.size w w' := by
  have hlc := h.lc; unfold maxLen at hlc
  have hb0 : ∀ o, Below w.heap.size w (w.alloc o) := fun o => (Below.refl _ _).alloc (Nat.le_refl _) _
  have hd : decide ((c.length : Int) ≤ 30) = decide (c.length ≤ 30) := by rw [decide_eq_decide]; omega
  have HD := Lib.hid hd
  clear hd
  cases hf : fewB a b with
  | false =>
    have HF := Lib.hid hf; clear hf
    go_enter Tryz.func14, Tryz.ntmps14
    go_wp2_with (go_at_call 29; refine (few_calls _ _ _ _ a b _ (h.ga.ext (hb0 _)) h.la h.lr h.lb).mono ?_; rw [HF.out]; rintro e w1 ⟨rfl, rfl⟩)
    go_ret
    exact ⟨rfl, hb0 _⟩
  | true =>
    have HF := Lib.hid hf; clear hf
    go_enter Tryz.func14, Tryz.ntmps14
    go_wp2_with (go_at_call 29; refine (few_calls _ _ _ _ a b _ (h.ga.ext (hb0 _)) h.la h.lr h.lb).mono ?_; rw [HF.out]; rintro e w1 ⟨rfl, rfl⟩)
    go_ret
    exact ⟨by rw [Bool.true_and, ← HD.out]; rfl, hb0 _⟩
end Go.Proofs.YtkljafmdbajfeaaGreatDoor

/- tinplateref01.gcd: what it answers. -/
namespace Go.Proofs.YtkljafmdbajfeaaGreatDoor
open Go.RowKit
set_option linter.unusedVariables false
set_option linter.unusedSimpArgs false
end Go.Proofs.YtkljafmdbajfeaaGreatDoor

/- tinplateref01.Value: what it answers at a proper point. -/
namespace Go.Proofs.YtkljafmdbajfeaaGreatDoor
open Go.RowKit
set_option linter.unusedVariables false
set_option linter.unusedSimpArgs false
end Go.Proofs.YtkljafmdbajfeaaGreatDoor

/- A copy of a list of ints: append to an empty literal. -/
namespace Go.Proofs.YtkljafmdbajfeaaGreatDoor
open Go.RowKit
set_option linter.unusedVariables false
set_option linter.unusedSimpArgs false
end Go.Proofs.YtkljafmdbajfeaaGreatDoor

/- The row LinearChecks. -/
namespace Go.Proofs.YtkljafmdbajfeaaGreatDoor
open Go.RowKit
set_option linter.unusedVariables false
set_option linter.unusedSimpArgs false
end Go.Proofs.YtkljafmdbajfeaaGreatDoor

/- Plain laws of linear programs, said of points with one divisor: weak duality, the one end of a program, what a least point is ahead of. -/
namespace Go.Proofs.YtkljafmdbajfeaaGreatDoor
open Lp (Tab sumTo Feas LexLe EndFound EndEmpty EndFree)
set_option linter.unusedVariables false
set_option linter.unusedSimpArgs false
theorem sumTo_le {n : Nat} {f g : Nat → Rat} (h : ∀ i, i < n → f i ≤ g i) : sumTo n f ≤ sumTo n g := by
  induction n with
  | zero => exact Rat.le_refl
  | succ n ih => unfold Lp.sumTo; have h1 := ih fun i hi => h i (by omega); have h2 := h n (by omega); grind
theorem mulr_le {x y z : Rat} (h : x ≤ y) (hz : 0 ≤ z) : x * z ≤ y * z := Rat.mul_le_mul_of_nonneg_right h hz
theorem mull_le {x y z : Rat} (h : x ≤ y) (hz : 0 ≤ z) : z * x ≤ z * y := Rat.mul_le_mul_of_nonneg_left h hz
theorem sum_swap (m n : Nat) (A : Tab) (Y x : Nat → Rat) : (sumTo m fun i => Y i * sumTo n fun j => A i j * x j) = sumTo n fun j => (sumTo m fun i => Y i * A i j) * x j := by
  have e1 : (sumTo m fun i => Y i * sumTo n fun j => A i j * x j) = sumTo m fun i => sumTo n fun j => Y i * A i j * x j :=
    Lp.sumTo_congr fun i hi => by rw [← Lp.sumTo_mul]; exact Lp.sumTo_congr fun j hj => by grind
  rw [e1, Lp.sumTo_comm]
  exact Lp.sumTo_congr fun j hj => by rw [← Lp.sumTo_mulr]
theorem weak {A : Tab} {b c : Nat → Rat} {n m : Nat} {x Y : Nat → Rat} (hx : Feas A b n m x) (h0 : ∀ i, i < m → 0 ≤ Y i) (hY : ∀ j, j < n → (sumTo m fun i => Y i * A i j) ≤ c j) :
    (sumTo m fun i => Y i * b i) ≤ sumTo n fun j => c j * x j := by
  have h1 : (sumTo m fun i => Y i * b i) ≤ sumTo m fun i => Y i * sumTo n fun j => A i j * x j := sumTo_le fun i hi => mull_le (hx.ge i hi) (h0 i hi)
  rw [sum_swap] at h1
  exact Rat.le_trans h1 (sumTo_le fun j hj => mulr_le (hY j hj) (hx.nn j hj))
theorem sum0 (n : Nat) (f : Nat → Rat) : (sumTo n fun j => 0 * f j) = 0 := Lp.sumTo_zero fun _ _ => by grind
theorem empty_feas {A : Tab} {b : Nat → Rat} {n m : Nat} {x Y : Nat → Rat} (h : EndEmpty A b n m Y) (hx : Feas A b n m x) : False := by
  have h1 := weak (c := fun _ => 0) hx h.nn h.le
  rw [sum0] at h1
  have h2 := h.pos
  grind
structure Pt (xs : List Int) (d : Int) (n : Nat) (x : Nat → Rat) : Prop where
  len : xs.length = n
  d1 : 1 ≤ d
  val : ∀ i, i < n → ((nth xs i : Int) : Rat) = x i * (d : Rat)
theorem PtOf.pt {xs : List Int} {d : Int} {n : Nat} {x : Nat → Rat} (h : PtOf xs d n x) : Pt xs d n x := ⟨h.len, h.d1, h.val⟩
theorem rpos {d : Int} (h : 1 ≤ d) : (0 : Rat) < (d : Rat) := by
  have h1 : ((0 : Int) : Rat) < (d : Rat) := Rat.intCast_lt_intCast.2 (by omega)
  simpa using h1
theorem Pt.of {xs : List Int} {d : Int} {n : Nat} (hl : xs.length = n) (hd : 1 ≤ d) : Pt xs d n fun i => (nth xs i : Rat) / (d : Rat) := by
  refine ⟨hl, hd, fun i hi => ?_⟩
  have h1 := rpos hd
  have h2 : (d : Rat) ≠ 0 := by grind
  exact (Rat.div_mul_cancel h2).symm
theorem dotN_sum (xs ys : List Int) : ∀ k, ((dotN xs ys k : Int) : Rat) = sumTo k fun i => ((nth xs i : Int) : Rat) * ((nth ys i : Int) : Rat)
  | 0 => rfl
  | k + 1 => by
    simp only [dotN, Lp.sumTo]
    rw [Rat.intCast_add, Rat.intCast_mul, dotN_sum xs ys k]
theorem Pt.dot {xs : List Int} {d : Int} {n : Nat} {x : Nat → Rat} (h : Pt xs d n x) {r : List Int} (hr : r.length = n) : ((dotZ r xs : Int) : Rat) = (sumTo n fun j => ((nth r j : Int) : Rat) * x j) * (d : Rat) := by
  unfold dotZ
  rw [dotN_sum, hr, ← Lp.sumTo_mulr]
  exact Lp.sumTo_congr fun j hj => by rw [h.val j hj]; grind
theorem mulr_lt {x y z : Rat} (hz : 0 < z) (h : x < y) : x * z < y * z := Rat.mul_lt_mul_of_pos_right h hz
theorem mulr_le_iff {x y z : Rat} (hz : 0 < z) : x * z ≤ y * z ↔ x ≤ y := by
  constructor
  · intro h
    refine Classical.byContradiction fun hn => ?_
    have := mulr_lt hz (x := y) (y := x) (by grind)
    grind
  · intro h; exact mulr_le h (by grind)
theorem mulr_eq_iff {x y z : Rat} (hz : 0 < z) : x * z = y * z ↔ x = y := by
  constructor
  · intro h
    have h1 := (mulr_le_iff (x := x) (y := y) hz).1 (by grind)
    have h2 := (mulr_le_iff (x := y) (y := x) hz).1 (by grind)
    grind
  · intro h; rw [h]
theorem cross_le {p q d e : Int} {x y : Rat} (hd : 1 ≤ d) (he : 1 ≤ e) (hp : (p : Rat) = x * (d : Rat)) (hq : (q : Rat) = y * (e : Rat)) : p * e ≤ q * d ↔ x ≤ y := by
  have h1 := rpos hd
  have h2 := rpos he
  have h3 : (0 : Rat) < (d : Rat) * (e : Rat) := Rat.mul_pos h1 h2
  rw [← Rat.intCast_le_intCast, Rat.intCast_mul, Rat.intCast_mul, hp, hq, ← mulr_le_iff h3 (x := x) (y := y)]
  have e1 : x * (d : Rat) * (e : Rat) = x * ((d : Rat) * (e : Rat)) := by grind
  have e2 : y * (e : Rat) * (d : Rat) = y * ((d : Rat) * (e : Rat)) := by grind
  rw [e1, e2]
theorem cross_lt {p q d e : Int} {x y : Rat} (hd : 1 ≤ d) (he : 1 ≤ e) (hp : (p : Rat) = x * (d : Rat)) (hq : (q : Rat) = y * (e : Rat)) : p * e < q * d ↔ x < y := by
  have := cross_le he hd hq hp
  constructor
  · intro h
    refine Classical.byContradiction fun hn => ?_
    have := this.2 (by grind)
    omega
  · intro h
    refine Classical.byContradiction fun hn => ?_
    have := this.1 (by omega)
    grind
theorem cross_eq {p q d e : Int} {x y : Rat} (hd : 1 ≤ d) (he : 1 ≤ e) (hp : (p : Rat) = x * (d : Rat)) (hq : (q : Rat) = y * (e : Rat)) : p * e = q * d ↔ x = y := by
  have h1 := cross_le hd he hp hq
  have h2 := cross_le he hd hq hp
  constructor
  · intro h; have := h1.1 (by omega); have := h2.1 (by omega); grind
  · intro h; have := h1.2 (by grind); have := h2.2 (by grind); omega
theorem over_le {p q d : Int} {x y : Rat} (hd : 1 ≤ d) (hp : (p : Rat) = x * (d : Rat)) (hq : (q : Rat) = y * (d : Rat)) : p ≤ q ↔ x ≤ y := by
  rw [← Rat.intCast_le_intCast, hp, hq, mulr_le_iff (rpos hd)]
theorem zero_cast (d : Int) : ((0 : Int) : Rat) = 0 * (d : Rat) := by simp
theorem int_over (p d : Int) : ((p * d : Int) : Rat) = (p : Rat) * (d : Rat) := Rat.intCast_mul p d
theorem nnB_iff {xs : List Int} : nnB xs = true ↔ ∀ i, i < xs.length → 0 ≤ nth xs i := by
  unfold nnB
  rw [List.all_eq_true]
  constructor
  · intro h i hi; exact of_decide_eq_true (h _ (nth_mem hi))
  · intro h x hx
    obtain ⟨i, hi, rfl⟩ := List.getElem_of_mem hx
    have := h i hi
    rw [nth_lt hi] at this
    exact decide_eq_true this
theorem Pt.nn {xs : List Int} {d : Int} {n : Nat} {x : Nat → Rat} (h : Pt xs d n x) : nnB xs = true ↔ ∀ i, i < n → 0 ≤ x i := by
  rw [nnB_iff, h.len]
  constructor
  · intro k i hi; exact (over_le h.d1 (zero_cast d) (h.val i hi)).1 (k i hi)
  · intro k i hi; exact (over_le h.d1 (zero_cast d) (h.val i hi)).2 (k i hi)
theorem listOk_of {m : Int} {xs : List Int} (h : ∀ i, i < xs.length → -m ≤ nth xs i ∧ nth xs i ≤ m) : listOk m xs = true := by
  unfold listOk
  rw [List.all_eq_true]
  intro x hx
  obtain ⟨i, hi, rfl⟩ := List.getElem_of_mem hx
  have := h i hi
  rw [nth_lt hi] at this
  unfold inB
  simp [this.1, this.2]
theorem PtOf.ok {xs : List Int} {d : Int} {n : Nat} {x : Nat → Rat} (h : PtOf xs d n x) : pointOk n xs d = true := by
  have h1 := h.d1; have h2 := h.d2
  have h3 : listOk 1125899906842624 xs = true := listOk_of fun i hi => by have := h.bd i (by rw [← h.len]; exact hi); omega
  unfold pointOk
  rw [h3, decide_eq_true h.len, decide_eq_true h1, decide_eq_true (by omega)]; rfl
theorem pointOk.pt {n : Nat} {xs : List Int} {d : Int} (h : pointOk n xs d = true) : Pt xs d n fun i => (nth xs i : Rat) / (d : Rat) := by
  obtain ⟨h1, h2, -, -⟩ := pointOk_parts h; exact Pt.of h1 h2
theorem row_len {a : List (List Int)} {b c : List Int} (h : progOk a b c = true) {i : Nat} (hi : i < a.length) : (nrow a i).length = c.length := ((progOk_parts h).2.2.1 _ (nrow_mem hi)).1
section
variable {a : List (List Int)} {b c xs ys : List Int} {d e : Int} {x y : Nat → Rat}
theorem feas_iff (hp : progOk a b c = true) (ho : pointOk c.length xs d = true) (h : Pt xs d c.length x) : feasS a b c xs d = true ↔ Feas (qA a) (qB b) c.length a.length x := by
  unfold feasS
  rw [hp, ho, Bool.true_and, Bool.true_and, Bool.and_eq_true, h.nn, List.all_eq_true]
  have key : ∀ i, i < a.length → (nth b i * d ≤ dotZ (nrow a i) xs ↔ qB b i ≤ sumTo c.length fun j => qA a i j * x j) := fun i hi =>
    over_le h.d1 (int_over _ _) (h.dot (row_len hp hi))
  constructor
  · rintro ⟨h1, h2⟩
    exact ⟨h1, fun i hi => (key i hi).1 (of_decide_eq_true (h2 i (List.mem_range.2 hi)))⟩
  · rintro ⟨h1, h2⟩
    exact ⟨h1, fun i hi => decide_eq_true ((key i (List.mem_range.1 hi)).2 (h2 i (List.mem_range.1 hi)))⟩
theorem feasS_parts (h : feasS a b c xs d = true) : progOk a b c = true ∧ pointOk c.length xs d = true := by
  unfold feasS at h; simp only [Bool.and_eq_true] at h; exact ⟨h.1.1.1, h.1.1.2⟩
theorem feasS_feas (h : feasS a b c xs d = true) : Feas (qA a) (qB b) c.length a.length fun i => (nth xs i : Rat) / (d : Rat) := by
  obtain ⟨h1, h2⟩ := feasS_parts h
  exact (feas_iff h1 h2 (pointOk.pt h2)).1 h
/-! LinearDuality -/
/-! LinearWeak, LinearLeast -/
theorem found_cost (h : feasS a b c xs d = true) (k : EndFound (qA a) (qB b) (qB c) c.length a.length x y) {ms : List Int} (hm : PtOf ms e c.length x) : dotZ c ms * d ≤ dotZ c xs * e := by
  obtain ⟨h1, h2⟩ := feasS_parts h
  refine (cross_le hm.d1 (pointOk_parts h2).2.1 (hm.pt.dot rfl) ((pointOk.pt h2).dot rfl)).2 ?_
  have h3 := weak (feasS_feas h) k.nn k.le
  have h4 := k.level
  show (sumTo c.length fun j => qB c j * x j) ≤ sumTo c.length fun j => qB c j * ((nth xs j : Rat) / (d : Rat))
  grind
theorem found_lex (h : feasS a b c xs d = true) (k : EndFound (qA a) (qB b) (qB c) c.length a.length x y) {ms : List Int} (hm : PtOf ms e c.length x) (he : dotZ c ms * d = dotZ c xs * e) :
    (∀ j, j < c.length → nth xs j * e = nth ms j * d) ∨ ∃ i, i < c.length ∧ (∀ j, j < i → nth xs j * e = nth ms j * d) ∧ nth ms i * d < nth xs i * e := by
  obtain ⟨h1, h2⟩ := feasS_parts h
  have hp := pointOk.pt h2
  have hd := (pointOk_parts h2).2.1
  have e1 := (cross_eq hm.d1 hd (hm.pt.dot rfl) (hp.dot rfl)).1 he
  rcases k.least _ (feasS_feas h) e1.symm with h3 | ⟨i, hi, h3, h4⟩
  · exact .inl fun j hj => ((cross_eq hd hm.d1 (hp.val j hj) (hm.val j hj)).2 (h3 j hj).symm)
  · refine .inr ⟨i, hi, fun j hj => ((cross_eq hd hm.d1 (hp.val j (by omega)) (hm.val j (by omega))).2 (h3 j hj).symm), ?_⟩
    exact (cross_lt hm.d1 hd (hm.val i hi) (hp.val i hi)).2 h4
end
section
variable {a : List (List Int)} {b c xs ds : List Int} {d e k : Int} {z : Nat → Rat}
end
theorem val_parts (z d : Int) (hd : 1 ≤ d) : ∃ g v e : Int, 1 ≤ g ∧ z.tdiv (gcdN d [z] 1) = v ∧ d.tdiv (gcdN d [z] 1) = e ∧ z = v * g ∧ d = e * g ∧ 1 ≤ e := by
  have h1 := gcdN_pos hd [z] 1
  have h2 := gcdN_dvd_d d [z] 1
  have h3 := gcdN_dvd_x d [z] (k := 1) (i := 0) (by omega)
  obtain ⟨G, hG⟩ : ∃ G : Nat, gcdN d [z] 1 = G := ⟨_, rfl⟩
  rw [hG] at h1 h2 h3 ⊢
  have h3 : G ∣ z.natAbs := h3
  have k1 : (G : Int) ∣ z := Int.ofNat_dvd_left.2 h3
  have k2 : (G : Int) ∣ d := Int.ofNat_dvd_left.2 h2
  obtain ⟨v, rfl⟩ := k1
  obtain ⟨e, rfl⟩ := k2
  have hg : (G : Int) ≠ 0 := by omega
  refine ⟨G, v, e, by omega, Int.mul_tdiv_cancel_left _ hg, Int.mul_tdiv_cancel_left _ hg, Int.mul_comm _ _, Int.mul_comm _ _, ?_⟩
  rcases Int.lt_or_le 0 e with h | h
  · omega
  · have := Int.mul_nonpos_of_nonneg_of_nonpos (a := (G : Int)) (b := e) (by omega) h; omega
theorem val_cmp {v e g v' e' g' : Int} (hg : 1 ≤ g) (hg' : 1 ≤ g') : v * e' < v' * e ↔ (v * g) * (e' * g') < (v' * g') * (e * g) := by
  have h : 0 < g * g' := Int.mul_pos (by omega) (by omega)
  have e1 : (v * g) * (e' * g') = (v * e') * (g * g') := by grind
  have e2 : (v' * g') * (e * g) = (v' * e) * (g * g') := by grind
  rw [e1, e2]
  exact (Int.mul_lt_mul_right h).symm
end Go.Proofs.YtkljafmdbajfeaaGreatDoor

/- tinplateref01.Lowest; tinplatelaw01.tame, under, price: what they answer. -/
namespace Go.Proofs.YtkljafmdbajfeaaGreatDoor
open Go.RowKit
set_option linter.unusedVariables false
set_option linter.unusedSimpArgs false
theorem few_bd {x : Int} (h : x.natAbs < 100000000000000000000000000000000000000000000000000) : Few x := by
  unfold Few
  refine Nat.le_trans (T.digits_len (k := 13) (Nat.lt_of_lt_of_le h (by decide))) (by decide)
theorem few_i64 {x : Int} (h : -9223372036854775808 ≤ x ∧ x ≤ 9223372036854775807) : Few x := few_bd (by omega)
theorem few_mul {x y : Int} (h : -9223372036854775808 ≤ x ∧ x ≤ 9223372036854775807) (k : -9223372036854775808 ≤ y ∧ y ≤ 9223372036854775807) : Few (x * y) := by
  refine few_bd ?_
  rw [Int.natAbs_mul]
  have h1 : x.natAbs ≤ 10000000000000000000 := by omega
  have h2 : y.natAbs ≤ 10000000000000000000 := by omega
  exact Nat.lt_of_le_of_lt (Nat.mul_le_mul h1 h2) (by decide)
theorem calm_rb (z : Int) : Calm NoBlk fun v w => RB w v z := ⟨fun v w w' h hb => h.ext hb, fun v w w' p h hp hb => hp.elim⟩
theorem sgnI_neg (x y : Int) : decide (sgnI x y < 0) = decide (x < y) := by
  rcases Int.lt_trichotomy x y with h | h | h
  · rw [sgnI_lt h]; simp [h]
  · rw [sgnI_eq h]; simp [h]
  · rw [sgnI_gt h]; simp; omega
set_option maxRecDepth 100000 in
set_option maxHeartbeats 2000000 in
theorem under_calls (g1 g2 c1 c2 : Nat) (p q d e : Int) (w : World) (h1 : IBlk w g1 [p]) (h2 : IBlk w g2 [q])
    (hp : -9223372036854775808 ≤ p ∧ p ≤ 9223372036854775807) (hq : -9223372036854775808 ≤ q ∧ q ≤ 9223372036854775807) (hd : -9223372036854775808 ≤ d ∧ d ≤ 9223372036854775807) (he : -9223372036854775808 ≤ e ∧ e ≤ 9223372036854775807) :
    Calls Tryz.prog 42 #[.agg #[.slice (some ⟨g1, 0, none⟩) 1 c1, .int .i64 d], .agg #[.slice (some ⟨g2, 0, none⟩) 1 c2, .int .i64 e]] w fun r w' => r = .returned (.bool (decide (p * e < q * d))) ∧ Below w.heap.size w w' := by
  obtain ⟨wa, hwa⟩ : ∃ wa, w.alloc (.cells #[.slice (some ⟨g1, 0, none⟩) 1 c1, .int .i64 d] 29 (0, 0)) = wa := ⟨_, rfl⟩
  obtain ⟨wb, hwb⟩ : ∃ wb, wa.alloc (.cells #[.slice (some ⟨g2, 0, none⟩) 1 c2, .int .i64 e] 29 (0, 0)) = wb := ⟨_, rfl⟩
  have sa : wa.heap.size = w.heap.size + 1 := by rw [← hwa]; simp
  have ba : Blk wa w.heap.size [.slice (some ⟨g1, 0, none⟩) 1 c1, .int .i64 d] 29 := by rw [← hwa]; exact Blk.new _ _ _
  have bb : Blk wb (w.heap.size + 1) [.slice (some ⟨g2, 0, none⟩) 1 c2, .int .i64 e] 29 := by rw [← hwb, ← sa]; exact Blk.new _ _ _
  have ea : Below w.heap.size w wa := by rw [← hwa]; exact (Below.refl _ _).alloc (Nat.le_refl _) _
  have eb : Below wa.heap.size wa wb := by rw [← hwb]; exact (Below.refl _ _).alloc (Nat.le_refl _) _
  have e2 : Below w.heap.size w wb := ea.trans (eb.mono (by omega))
  have a0 := (ba.ext eb).cell 0 (by simp)
  have a1 := (ba.ext eb).cell 1 (by simp)
  have b0 := bb.cell 0 (by simp)
  have b1 := bb.cell 1 (by simp)
  have p0 := Blk.cell (h1.ext e2) 0 (by simp)
  have q0 := Blk.cell (h2.ext e2) 0 (by simp)
  simp only [List.getElem_cons_zero, List.getElem_cons_succ, List.map_cons, List.map_nil] at a0 a1 b0 b1 p0 q0
  obtain ⟨s, hs⟩ : ∃ s, sgnI (p * e) (q * d) = s := ⟨_, rfl⟩
  have hsn := sgnI_neg (p * e) (q * d)
  rw [hs] at hsn
  have HOP := Lib.hid (fun W => rOf_calls p W hp); have HOQ := Lib.hid (fun W => rOf_calls q W hq); have HOD := Lib.hid (fun W => rOf_calls d W hd); have HOE := Lib.hid (fun W => rOf_calls e W he)
  have HTP := Lib.hid (fun v1 v2 W (k1 : RB W v1 p) (k2 : RB W v2 e) => rTimes_calls v1 v2 p e W k1 k2 (few_i64 hp) (few_i64 he))
  have HTQ := Lib.hid (fun v1 v2 W (k1 : RB W v1 q) (k2 : RB W v2 d) => rTimes_calls v1 v2 q d W k1 k2 (few_i64 hq) (few_i64 hd))
  have hcm := fun v1 v2 W (k1 : RB W v1 (p * e)) (k2 : RB W v2 (q * d)) => rCompare_calls v1 v2 (p * e) (q * d) W k1 k2 (few_mul hp he) (few_mul hq hd)
  rw [hs] at hcm
  have HCM := Lib.hid hcm
  have HE2 := Lib.hid e2; have HWA := Lib.hid hwa; have HWB := Lib.hid hwb; have HSN := Lib.hid hsn
  clear h1 h2 ba bb ea eb e2 sa hwa hwb hs hsn hcm hp hq hd he
  go_enter Tryz.func42, Tryz.ntmps42
  go_wp2_with fail
  rw [HWA.out, HWB.out]
  obtain ⟨ap, hap⟩ : ∃ ap, w.heap.size = ap := ⟨_, rfl⟩
  obtain ⟨bp, hbp⟩ : ∃ bp, w.heap.size + 1 = bp := ⟨_, rfl⟩
  rw [hap] at a0 a1
  rw [hbp] at b0 b1
  rw [hbp, hap]
  clear hap hbp
  refine wp_region_keys (w0 := wb) 20 [5, 6, 7, 8, 9, 10, 11, 12, 13, 14, 15, 16, 17, 18, 19, 20, 21, 22, 23, 24]
    [leafS 5 (.pointer (some ⟨ap, 0, none⟩)), leafS 6 (.slice (some ⟨g1, 0, none⟩) 1 c1), leafS 7 (.pointer (some ⟨g1, 0, none⟩)), leafS 8 (.int .i64 p), leaf1 9 (fun v w => RB w v p), leafS 10 (.pointer (some ⟨bp, 1, none⟩)), leafS 11 (.int .i64 e), leaf1 12 (fun v w => RB w v e), leaf1 13 (fun v w => RB w v (p * e)), leafS 14 (.pointer (some ⟨bp, 0, none⟩)), leafS 15 (.slice (some ⟨g2, 0, none⟩) 1 c2), leafS 16 (.pointer (some ⟨g2, 0, none⟩)), leafS 17 (.int .i64 q), leaf1 18 (fun v w => RB w v q), leafS 19 (.pointer (some ⟨ap, 1, none⟩)), leafS 20 (.int .i64 d), leaf1 21 (fun v w => RB w v d), leaf1 22 (fun v w => RB w v (q * d)), leafS 23 (.int .i64 s), leafS 24 (.bool (decide (s < 0)))]
    [] [none, none, none, none, none, none, none, none, none, none, none, none, none, none, none, none, none, none, none, none] NoBlk (by kernel_rfl) (by kernel_rfl) (by kernel_rfl) rfl (F := ?cFu1) ?u1c1 ?u1c2 ?u1c3 ?u1c4
  case u1c1 =>
    intro x
    simp only [fullF, Act.put, List.setIfInBounds_toArray, List.set_cons_zero, List.set_cons_succ]
    rfl
  case u1c2 =>
    exact ⟨keeps_const _ _ _ _ _ _ _, keeps_const _ _ _ _ _ _ _, keeps_const _ _ _ _ _ _ _, keeps_const _ _ _ _ _ _ _, keeps_calm (calm_rb p) _ _ _ _ _, keeps_const _ _ _ _ _ _ _, keeps_const _ _ _ _ _ _ _, keeps_calm (calm_rb e) _ _ _ _ _, keeps_calm (calm_rb (p * e)) _ _ _ _ _, keeps_const _ _ _ _ _ _ _, keeps_const _ _ _ _ _ _ _, keeps_const _ _ _ _ _ _ _, keeps_const _ _ _ _ _ _ _, keeps_calm (calm_rb q) _ _ _ _ _, keeps_const _ _ _ _ _ _ _, keeps_const _ _ _ _ _ _ _, keeps_calm (calm_rb d) _ _ _ _ _, keeps_calm (calm_rb (q * d)) _ _ _ _ _, keeps_const _ _ _ _ _ _ _, keeps_const _ _ _ _ _ _ _, trivial⟩
  case u1c3 =>
    refine ⟨?_, ?_, ?_, ?_, ?_, ?_, ?_, ?_, ?_, ?_, ?_, ?_, ?_, ?_, ?_, ?_, ?_, ?_, ?_, ?_, trivial⟩
    all_goals
      intro xx wq HE hd K hK
      have hc := (bcell HE).1
      have a0' := (hc _ _ (cell_lt a0)).trans a0
      have a1' := (hc _ _ (cell_lt a1)).trans a1
      have b0' := (hc _ _ (cell_lt b0)).trans b0
      have b1' := (hc _ _ (cell_lt b1)).trans b1
      have p0' := (hc _ _ (cell_lt p0)).trans p0
      have q0' := (hc _ _ (cell_lt q0)).trans q0
      try have e0 : xx 5 = _ := hd 0 _ (by decide) rfl
      try have e1 : xx 6 = _ := hd 1 _ (by decide) rfl
      try have e2 : xx 7 = _ := hd 2 _ (by decide) rfl
      try have e3 : xx 8 = _ := hd 3 _ (by decide) rfl
      try have g4 := hd 4 _ (by decide) rfl
      try have e5 : xx 10 = _ := hd 5 _ (by decide) rfl
      try have e6 : xx 11 = _ := hd 6 _ (by decide) rfl
      try have g7 := hd 7 _ (by decide) rfl
      try have g8 := hd 8 _ (by decide) rfl
      try have e9 : xx 14 = _ := hd 9 _ (by decide) rfl
      try have e10 : xx 15 = _ := hd 10 _ (by decide) rfl
      try have e11 : xx 16 = _ := hd 11 _ (by decide) rfl
      try have e12 : xx 17 = _ := hd 12 _ (by decide) rfl
      try have g13 := hd 13 _ (by decide) rfl
      try have e14 : xx 19 = _ := hd 14 _ (by decide) rfl
      try have e15 : xx 20 = _ := hd 15 _ (by decide) rfl
      try have g16 := hd 16 _ (by decide) rfl
      try have g17 := hd 17 _ (by decide) rfl
      try have e18 : xx 23 = _ := hd 18 _ (by decide) rfl
      try have e19 : xx 24 = _ := hd 19 _ (by decide) rfl
      have HE := Lib.hid HE
      have HC := Lib.hid hc
      clear hd hc
      all_goals go_simp
      try (refine hK _ _ _ (mv_const _ rfl) ?_; dsimp only [Act.put]; first | done | rfl | (simp [*]; done))
    · refine (HOP.out wq).mono ?_
      rintro e w3 ⟨v, rfl, h1, h2⟩
      exact hK _ _ _ (mv_plain h2 h1.rb rfl) (by first | (dsimp only [Act.put]; done) | (dsimp only [Act.put]; first | rfl | (simp [*]; done) | (simp [*, ptr]; done)))
    · refine (HOE.out wq).mono ?_
      rintro e w3 ⟨v, rfl, h1, h2⟩
      exact hK _ _ _ (mv_plain h2 h1.rb rfl) (by first | (dsimp only [Act.put]; done) | (dsimp only [Act.put]; first | rfl | (simp [*]; done) | (simp [*, ptr]; done)))
    · refine (HTP.out _ _ wq g4 g7).mono ?_
      rintro e w3 ⟨v, rfl, h1, h2⟩
      exact hK _ _ _ (mv_plain h2 h1.rb rfl) (by first | (dsimp only [Act.put]; done) | (dsimp only [Act.put]; first | rfl | (simp [*]; done) | (simp [*, ptr]; done)))
    · refine (HOQ.out wq).mono ?_
      rintro e w3 ⟨v, rfl, h1, h2⟩
      exact hK _ _ _ (mv_plain h2 h1.rb rfl) (by first | (dsimp only [Act.put]; done) | (dsimp only [Act.put]; first | rfl | (simp [*]; done) | (simp [*, ptr]; done)))
    · refine (HOD.out wq).mono ?_
      rintro e w3 ⟨v, rfl, h1, h2⟩
      exact hK _ _ _ (mv_plain h2 h1.rb rfl) (by first | (dsimp only [Act.put]; done) | (dsimp only [Act.put]; first | rfl | (simp [*]; done) | (simp [*, ptr]; done)))
    · refine (HTQ.out _ _ wq g13 g16).mono ?_
      rintro e w3 ⟨v, rfl, h1, h2⟩
      exact hK _ _ _ (mv_plain h2 h1.rb rfl) (by first | (dsimp only [Act.put]; done) | (dsimp only [Act.put]; first | rfl | (simp [*]; done) | (simp [*, ptr]; done)))
    · refine (HCM.out _ _ wq g8 g17).mono ?_
      rintro e w3 ⟨rfl, h2⟩
      exact hK _ _ _ (mv_plain h2 rfl rfl) (by first | (dsimp only [Act.put]; done) | (dsimp only [Act.put]; first | rfl | (simp [*]; done) | (simp [*, ptr]; done)))
  case u1c4 =>
    intro xx wz hE hG hA
    have e0 : xx 5 = _ := hG 0 _ rfl
    have e1 : xx 6 = _ := hG 1 _ rfl
    have e2 : xx 7 = _ := hG 2 _ rfl
    have e3 : xx 8 = _ := hG 3 _ rfl
    have g4 := hG 4 _ rfl
    have e5 : xx 10 = _ := hG 5 _ rfl
    have e6 : xx 11 = _ := hG 6 _ rfl
    have g7 := hG 7 _ rfl
    have g8 := hG 8 _ rfl
    have e9 : xx 14 = _ := hG 9 _ rfl
    have e10 : xx 15 = _ := hG 10 _ rfl
    have e11 : xx 16 = _ := hG 11 _ rfl
    have e12 : xx 17 = _ := hG 12 _ rfl
    have g13 := hG 13 _ rfl
    have e14 : xx 19 = _ := hG 14 _ rfl
    have e15 : xx 20 = _ := hG 15 _ rfl
    have g16 := hG 16 _ rfl
    have g17 := hG 17 _ rfl
    have e18 : xx 23 = _ := hG 18 _ rfl
    have e19 : xx 24 = _ := hG 19 _ rfl
    have HX := Lib.hid (HE2.out.trans (hE.mono HE2.out.size))
    clear hG hA hE
    (refine tail_one (i := 20) (by kernel_rfl) rfl ?_; intro K hK; go_simp; refine hK _ _ ?_; clear hK)
    refine wpAny_done (by kernel_rfl) ?_ _
    go_wp2
    go_ret
    exact ⟨by rw [HSN.out]; rfl, HX.out⟩
end Go.Proofs.YtkljafmdbajfeaaGreatDoor

/- Values of points, and what Minimum gives where a program has a point. -/
namespace Go.Proofs.YtkljafmdbajfeaaGreatDoor
open Go.RowKit
open Lp (EndFound EndEmpty EndFree)
set_option linter.unusedVariables false
set_option linter.unusedSimpArgs false
theorem tdiv_nat {z : Int} (G : Nat) : (z.tdiv (G : Int)).natAbs ≤ z.natAbs := by rw [Int.natAbs_tdiv]; exact Nat.div_le_self _ _
theorem value_one (A B C X : Option Addr) (ca cb cc cx : Nat) (a : List (List Int)) (b c xs : List Int) (d : Int) (w : World) (h : Prog3 w A B C a b c) (hX : Ints w X xs) (hm : xs.length ≤ maxLen) (h1 : progOk a b c = true) (h2 : pointOk c.length xs d = true) :
    ∃ v e g : Int, 1 ≤ g ∧ dotZ c xs = v * g ∧ d = e * g ∧ (-9223372036854775808 ≤ v ∧ v ≤ 9223372036854775807) ∧ (1 ≤ e ∧ e ≤ 1125899906842624) ∧
    Calls Tryz.prog 41 #[.agg #[.slice A a.length ca, .slice B b.length cb, .slice C c.length cc], .agg #[.slice X xs.length cx, .int .i64 d]] w fun r w' => ∃ p, r = .returned (.tuple #[.agg #[.slice (some ⟨p, 0, none⟩) 1 1, .int .i64 e], .int .i64 0]) ∧ IBlk w' p [v] ∧ Below w.heap.size w w' := by
  obtain ⟨-, p2, p3, -⟩ := pointOk_parts h2
  obtain ⟨g, v, e, g1, g2, g3, g4, g5, g6⟩ := val_parts (dotZ c xs) d p2
  obtain ⟨hs, hl⟩ := cost_small h1 h2
  have hz := dotZ_bd hs
  have t1 := tdiv_nat (z := dotZ c xs) (gcdN d [dotZ c xs] 1)
  have t2 := tdiv_nat (z := d) (gcdN d [dotZ c xs] 1)
  rw [g2] at t1
  rw [g3] at t2
  refine ⟨v, e, g, g1, g4, g5, by omega, by omega, (value_ok A B C X ca cb cc cx a b c xs d w h hX hm h1 h2).mono ?_⟩
  rintro r w' ⟨p, k1, -, k3, k4⟩
  rw [g3] at k1
  rw [g2] at k3
  exact ⟨p, k1, k3, k4⟩
theorem min_feas {a : List (List Int)} {b c xs : List Int} {d : Int} {w w' : World} {e : Ending} (h : OfPost a b c 0 costsO true w w' e) (hf : feasS a b c xs d = true) :
    (∃ x, EndFree (qA a) (qB b) (qB c) c.length a.length x ∧ e = .returned (.tuple #[.agg #[.slice none 0 0, .int .i64 0], .int .i64 11])) ∨
    ∃ x y g ms dm, EndFound (qA a) (qB b) (qB c) c.length a.length x y ∧ PtOf ms dm c.length x ∧ IBlk w' g ms ∧ e = .returned (.tuple #[.agg #[.slice (some ⟨g, 0, none⟩) c.length c.length, .int .i64 dm], .int .i64 0]) := by
  rcases h with ⟨h1, -⟩ | ⟨-, s, x, y, hs, hq, h5⟩
  · rw [(feasS_parts hf).1] at h1; cases h1
  · rcases hq with ⟨rfl, h2, -⟩ | ⟨rfl, h2, -⟩ | ⟨rfl, h2, -⟩
    · rcases h5 with ⟨h5, -⟩ | ⟨-, g, ms, dm, h6, -, h8, h9⟩
      · exact absurd rfl h5
      · exact .inr ⟨x, y, g, ms, dm, h2, h9, h8, h6⟩
    · exact (empty_feas h2 (feasS_feas hf)).elim
    · rcases h5 with ⟨-, h6⟩ | ⟨h6, -⟩
      · exact .inl ⟨x, h2, h6⟩
      · cases h6
end Go.Proofs.YtkljafmdbajfeaaGreatDoor
