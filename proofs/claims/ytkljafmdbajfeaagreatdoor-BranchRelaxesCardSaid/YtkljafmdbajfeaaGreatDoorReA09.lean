/- tinplateref02.Valid, Feasible, vector: what they answer. -/
import Derived.Test.YtkljafmdbajfeaaGreatDoorReA00
import Derived.Test.YtkljafmdbajfeaaGreatDoorReA05
import Derived.Test.YtkljafmdbajfeaaGreatDoorReA06
namespace Go.Proofs.YtkljafmdbajfeaaGreatDoor
open Go.RowKit
set_option maxHeartbeats 1000000 in
theorem refWhole_calls (A B C U : Option Addr) (ca cb cc cu : Nat) (a : List (List Int)) (b c u : List Int) (w : World) (h : Who w A B C U a b c u) :
  Calls Tryz.prog 47 #[.agg #[.slice A a.length ca, .slice B b.length cb, .slice C c.length cc, .slice U u.length cu]] w fun e w' => e = .returned (.bool (wholeOk a b c u)) ∧ Below w.heap.size w w' := by
 have hlb := h.p.lb; have hla := h.p.la; have hlc := h.p.lc; have hlu := h.lu; unfold maxLen at hlb hla hlc hlu
 have hb0 : ∀ o o', Below w.heap.size w ((w.alloc o).alloc o') := fun o o' => ((Below.refl _ _).alloc (Nat.le_refl _) _).alloc (by simp) _
 have hv : ∀ o o', _ := fun o o' => refValid_calls A B C ca cb cc a b c ((w.alloc o).alloc o') (h.p.ext (hb0 _ _))
 cases h1 : progOk a b c
 ·rw [h1] at hv
  have HW : Hid (wholeOk a b c u = false) := by unfold wholeOk; rw [h1, Bool.and_false]; exact (rfl : false = false)
  go_enter Tryz.func47, Tryz.ntmps47
  go_wp2_with fail
  refine (hv _ _).mono ?_; rintro e w1 ⟨rfl, hb1⟩
  go_wp2
  go_ret
  exact ⟨by rw [HW.out]; rfl, ext_trans (hb0 _ _) hb1⟩
 rw [h1] at hv
 by_cases h2 : c.length ≤ 5
 ·have d2 : decide (5 < (c.length : Int)) = false := by simp; omega
  by_cases h3 : u.length = c.length
  ·have d3 : ((u.length : Int) != (c.length : Int)) = false := by simp [h3]
   have hW : wholeOk a b c u = upOk u := by unfold wholeOk; simp [h1, h2, h3]
   have HW := Lib.hid hW; have H3 := Lib.hid h3; clear hW h3
   go_enter Tryz.func47, Tryz.ntmps47
   go_wp2_with fail
   refine (hv _ _).mono ?_; rintro e w1 ⟨rfl, hb1⟩
   have hx1 := ext_trans (hb0 _ _) hb1
   obtain ⟨hc1, hf1⟩ := bcell hb1
   have k2 : w1.cell? ⟨w.heap.size, 2, none⟩ = some (.slice C c.length cc) := by rw [hc1 _ _ (by simp; omega)]; go_simp
   have k3 : w1.cell? ⟨w.heap.size, 3, none⟩ = some (.slice U u.length cu) := by rw [hc1 _ _ (by simp; omega)]; go_simp
   have hU := (h.ext hx1).gu
   clear hc1 hf1 hv hb0
   go_wp2
   go_loop [4] (fun i => ∃ k : Nat, k ≤ u.length ∧ i = .int .i64 k ∧ ∀ j, j < k → (decide (0 ≤ nth u j) && decide (nth u j ≤ 7)) = true) (fun i => u.length - (intOf i).toNat)
   case atStart => exact ⟨0, Nat.zero_le _, rfl, fun j hj => by omega⟩
   case round =>
    obtain ⟨k, hk, rfl, hall⟩ := hrel
    have HA := Lib.hid hall; clear hall
    by_cases hlt : k < u.length
    ·obtain ⟨bb, o, rfl, g⟩ := hU k hlt
     by_cases h0 : 0 ≤ nth u k
     ·have e0 : decide (nth u k < 0) = false := decide_eq_false (by omega)
      by_cases h7 : nth u k ≤ 7
      ·have e7 : decide (7 < nth u k) = false := decide_eq_false (by omega)
       go_wp2
       go_round
       case rel => exact ⟨k + 1, by omega, by go_num, fun j hj => if e : j = k then by rw [e]; simp [h0, h7] else HA.out j (by omega)⟩
       case measure => simp [intOf]; omega
      ·have e7 : decide (7 < nth u k) = true := decide_eq_true (by omega)
       go_wp2
       go_ret
       exact ⟨by rw [show wholeOk a b c u = false from by rw [HW.out]; exact all_take_false hlt (by simp; omega)]; rfl, hx1⟩
     ·have e0 : decide (nth u k < 0) = true := decide_eq_true (by omega)
      go_wp2
      go_ret
      exact ⟨by rw [show wholeOk a b c u = false from by rw [HW.out]; exact all_take_false hlt (by simp; omega)]; rfl, hx1⟩
    ·obtain rfl : k = u.length := by omega
     go_wp2
     go_ret
     exact ⟨by rw [show wholeOk a b c u = true from by rw [HW.out]; exact all_of_nth HA.out]; rfl, hx1⟩
  ·have d3 : ((u.length : Int) != (c.length : Int)) = true := by simp; omega
   have hW : wholeOk a b c u = false := by unfold wholeOk; simp [h3]
   have HW := Lib.hid hW; have H3 := Lib.hid h3; clear hW h3
   go_enter Tryz.func47, Tryz.ntmps47
   go_wp2_with fail
   refine (hv _ _).mono ?_; rintro e w1 ⟨rfl, hb1⟩
   have hx1 := ext_trans (hb0 _ _) hb1
   obtain ⟨hc1, hf1⟩ := bcell hb1
   have k2 : w1.cell? ⟨w.heap.size, 2, none⟩ = some (.slice C c.length cc) := by rw [hc1 _ _ (by simp; omega)]; go_simp
   have k3 : w1.cell? ⟨w.heap.size, 3, none⟩ = some (.slice U u.length cu) := by rw [hc1 _ _ (by simp; omega)]; go_simp
   clear hc1 hf1 hv hb0
   go_wp2
   go_ret
   exact ⟨by rw [HW.out]; rfl, hx1⟩
 ·have d2 : decide (5 < (c.length : Int)) = true := by simp; omega
  have hW : wholeOk a b c u = false := by unfold wholeOk; simp [h2]
  have HW := Lib.hid hW; clear hW
  go_enter Tryz.func47, Tryz.ntmps47
  go_wp2_with fail
  refine (hv _ _).mono ?_; rintro e w1 ⟨rfl, hb1⟩
  have hx1 := ext_trans (hb0 _ _) hb1
  obtain ⟨hc1, hf1⟩ := bcell hb1
  have k2 : w1.cell? ⟨w.heap.size, 2, none⟩ = some (.slice C c.length cc) := by rw [hc1 _ _ (by simp; omega)]; go_simp
  clear hc1 hf1 hv hb0
  go_wp2
  go_ret
  exact ⟨by rw [HW.out]; rfl, hx1⟩
end Go.Proofs.YtkljafmdbajfeaaGreatDoor

/- Lattices of whole vectors: rows by pivots, the normal form is one, how a vector meets a row. Plain mathematics. -/
namespace Go.Proofs.YtkljafmdbajfeaaGreatDoor
set_option linter.unusedVariables false
namespace Lp
abbrev V := Nat → Int
abbrev Lt := Nat → Option V
variable {n : Nat} {L M : Lt}
def put (L : Lt) (p : Nat) (r : V) : Lt := fun q => if q = p then some r else L q
theorem put_same (L : Lt) (p : Nat) (r : V) : put L p r p = some r := by unfold put; rw [if_pos rfl]
end Lp
end Go.Proofs.YtkljafmdbajfeaaGreatDoor

/- A vector is put into a table of rows: the meetings, one by one; sizes. -/
namespace Go.Proofs.YtkljafmdbajfeaaGreatDoor.Lp
set_option linter.unusedVariables false
set_option linter.unusedSimpArgs false
def lv (X : Nat) : Nat → Nat
 | 0 => X
 | k + 1 => 3 * (lv X k * lv X k)
end Go.Proofs.YtkljafmdbajfeaaGreatDoor.Lp

/- The rows of a lattice are reduced by those behind them, one by one. Plain mathematics. -/
namespace Go.Proofs.YtkljafmdbajfeaaGreatDoor.Lp
set_option linter.unusedVariables false
set_option linter.unusedSimpArgs false
end Go.Proofs.YtkljafmdbajfeaaGreatDoor.Lp

/- Determinants: Laplace, two equal columns, Cramer; sizes. Plain mathematics. -/
namespace Go.Proofs.YtkljafmdbajfeaaGreatDoor
namespace Lp
def sumTo : Nat → (Nat → Rat) → Rat
 | 0, _ => 0
 | n + 1, f => sumTo n f + f n
theorem sumTo_congr {n : Nat} {f g : Nat → Rat} (h : ∀ i, i < n → f i = g i) : sumTo n f = sumTo n g := by
 induction n with
 | zero => rfl
 | succ n ih => unfold sumTo; rw [ih (fun i hi => h i (by omega)), h n (by omega)]
theorem sumTo_zero {n : Nat} {f : Nat → Rat} (h : ∀ i, i < n → f i = 0) : sumTo n f = 0 := by
 induction n with
 | zero => rfl
 | succ n ih => unfold sumTo; rw [ih (fun i hi => h i (by omega)), h n (by omega)]; grind
theorem sumTo_one {n : Nat} {f : Nat → Rat} (k : Nat) (hk : k < n) (h : ∀ i, i < n → i ≠ k → f i = 0) : sumTo n f = f k := by
 induction n with
 | zero => omega
 | succ n ih =>
   unfold sumTo
   by_cases e : k = n
   ·subst e; rw [sumTo_zero fun i hi => h i (by omega) (by omega)]; grind
   ·rw [ih (by omega) (fun i hi hne => h i (by omega) hne), h n (by omega) (by omega)]; grind
theorem sumTo_two {n : Nat} {f : Nat → Rat} (k l : Nat) (hk : k < n) (hl : l < n) (hkl : k < l) (h : ∀ i, i < n → i ≠ k → i ≠ l → f i = 0) : sumTo n f = f k + f l := by
 induction n with
 | zero => omega
 | succ n ih =>
   unfold sumTo
   by_cases e : l = n
   ·subst e; rw [sumTo_one k (by omega) fun i hi hne => h i (by omega) hne (by omega)]
   ·rw [ih (by omega) (by omega) (fun i hi h1 h2 => h i (by omega) h1 h2), h n (by omega) (by omega) (by omega)]; grind
theorem sumTo_add (n : Nat) (f g : Nat → Rat) : sumTo n (fun i => f i + g i) = sumTo n f + sumTo n g := by
 induction n with
 | zero => unfold sumTo; grind
 | succ n ih => unfold sumTo; rw [ih]; grind
theorem sumTo_mul (n : Nat) (c : Rat) (f : Nat → Rat) : sumTo n (fun i => c * f i) = c * sumTo n f := by
 induction n with
 | zero => unfold sumTo; grind
 | succ n ih => unfold sumTo; rw [ih]; grind
theorem sumTo_lin (n : Nat) (a b : Rat) (f g : Nat → Rat) : sumTo n (fun i => a * f i + b * g i) = a * sumTo n f + b * sumTo n g := by
 rw [sumTo_add, sumTo_mul, sumTo_mul]
def sgnAt (c : Nat) : Rat := if c % 2 = 0 then 1 else -1
theorem sgnAt_succ (c : Nat) : sgnAt (c + 1) = - sgnAt c := by
 unfold sgnAt; rcases Nat.mod_two_eq_zero_or_one c with h | h <;> simp [h, Nat.add_mod]
def skip (c j : Nat) : Nat := if j < c then j else j + 1
def minor (M : Nat → Nat → Rat) (c : Nat) : Nat → Nat → Rat := fun r j => M (r + 1) (skip c j)
def det : Nat → (Nat → Nat → Rat) → Rat
 | 0, _ => 1
 | k + 1, M => sumTo (k + 1) fun c => sgnAt c * (M 0 c * det k (minor M c))
theorem det_congr {k : Nat} : ∀ {M N : Nat → Nat → Rat}, (∀ r c, r < k → c < k → M r c = N r c) → det k M = det k N := by
 induction k with
 | zero => intros; rfl
 | succ k ih =>
   intro M N h
   unfold det
   refine sumTo_congr fun c hc => ?_
   rw [h 0 c (by omega) hc, ih (M := minor M c) (N := minor N c) fun r j hr hj => ?_]
   unfold minor skip; refine h _ _ (by omega) ?_; split <;> omega
def setCol (M : Nat → Nat → Rat) (c : Nat) (u : Nat → Rat) : Nat → Nat → Rat := fun r j => if j = c then u r else M r j
theorem minor_setCol_same (M : Nat → Nat → Rat) (c : Nat) (u : Nat → Rat) : minor (setCol M c u) c = minor M c := by
 funext r j; unfold minor setCol skip; split <;> rw [if_neg (by omega)]
def drop1 (c j : Nat) : Nat := if j < c then j else j - 1
theorem minor_setCol_other (M : Nat → Nat → Rat) (c i : Nat) (hne : c ≠ i) (u : Nat → Rat) : minor (setCol M i u) c = setCol (minor M c) (drop1 c i) (fun r => u (r + 1)) := by
 funext r j; unfold minor setCol skip drop1
 by_cases h1 : j < c <;> by_cases h2 : i < c <;> simp only [h1, h2, if_true, if_false] <;> (congr 1; exact propext ⟨fun h => by omega, fun h => by omega⟩)
theorem det_lin {k : Nat} : ∀ (M : Nat → Nat → Rat) (i : Nat) (a b : Rat) (u v : Nat → Rat), i < k → det k (setCol M i fun r => a * u r + b * v r) = a * det k (setCol M i u) + b * det k (setCol M i v) := by
 induction k with
 | zero => intro M i a b u v h; omega
 | succ k ih =>
   intro M i a b u v h
   unfold det
   rw [← sumTo_lin]
   refine sumTo_congr fun c hc => ?_
   by_cases e : c = i
   ·subst e
    rw [minor_setCol_same, minor_setCol_same, minor_setCol_same]
    have h1 : ∀ w, setCol M c w 0 c = w 0 := fun w => by unfold setCol; rw [if_pos rfl]
    rw [h1, h1, h1]; grind
   ·rw [minor_setCol_other M c i e, minor_setCol_other M c i e, minor_setCol_other M c i e, ih _ _ _ _ _ _ (by unfold drop1; split <;> omega)]
    have h1 : ∀ w, setCol M i w 0 c = M 0 c := fun w => by unfold setCol; rw [if_neg e]
    rw [h1, h1, h1]; grind
theorem det_adj {k : Nat} : ∀ (M : Nat → Nat → Rat) (c : Nat), c + 1 < k → (∀ r, r < k → M r c = M r (c + 1)) → det k M = 0 := by
 induction k with
 | zero => intro M c h; omega
 | succ k ih =>
   intro M c h he
   unfold det
   rw [sumTo_two c (c + 1) (by omega) (by omega) (by omega) fun j hj h1 h2 => ?_]
   ·rw [he 0 (by omega), sgnAt_succ]
    have : det k (minor M c) = det k (minor M (c + 1)) := det_congr fun r j hr hj => by
     unfold minor skip
     by_cases e1 : j < c
     ·rw [if_pos e1, if_pos (by omega)]
     ·by_cases e2 : j = c
      ·subst e2; rw [if_neg (by omega), if_pos (by omega)]; exact (he (r + 1) (by omega)).symm
      ·rw [if_neg e1, if_neg (by omega)]
    rw [this]; grind
   ·have : det k (minor M j) = 0 := by
     refine ih (minor M j) (if c < j then c else c - 1) (by split <;> omega) fun r hr => ?_
     unfold minor skip
     by_cases e : c < j
     ·rw [if_pos e, if_pos e, if_pos (by omega)]; exact he (r + 1) (by omega)
     ·rw [if_neg e, if_neg (by omega), if_neg (by omega)]
      have e1 : c - 1 + 1 = c := by omega
      rw [e1]; exact he (r + 1) (by omega)
    rw [this]; grind
def swapAdj (M : Nat → Nat → Rat) (c : Nat) : Nat → Nat → Rat := setCol (setCol M c fun r => M r (c + 1)) (c + 1) fun r => M r c
theorem det_setCol_self {k : Nat} (M : Nat → Nat → Rat) (c : Nat) : det k (setCol M c fun r => M r c) = det k M :=
 det_congr fun r j _ _ => by unfold setCol; split <;> simp_all
theorem det_swap {k : Nat} (M : Nat → Nat → Rat) (c : Nat) (h : c + 1 < k) : det k (swapAdj M c) = - det k M := by
 let u := fun r => M r c
 let v := fun r => M r (c + 1)
 let D : (Nat → Rat) → (Nat → Rat) → Rat := fun x y => det k (setCol (setCol M c x) (c + 1) y)
 have comm : ∀ x y, setCol (setCol M c x) (c + 1) y = setCol (setCol M (c + 1) y) c x := fun x y => by
  funext r j; unfold setCol; by_cases e : j = c <;> by_cases e2 : j = c + 1 <;> simp [e, e2]
 have l2 : ∀ x y z, D x (fun r => 1 * y r + 1 * z r) = 1 * D x y + 1 * D x z := fun x y z => det_lin _ _ _ _ _ _ h
 have l1 : ∀ x y z, D (fun r => 1 * x r + 1 * y r) z = 1 * D x z + 1 * D y z := fun x y z => by
  show det k _ = 1 * det k _ + 1 * det k _
  rw [comm, comm, comm]; exact det_lin _ _ _ _ _ _ (by omega)
 have z : ∀ x, D x x = 0 := fun x => det_adj _ c h fun r hr => by unfold setCol; simp
 have h0 := z fun r => 1 * u r + 1 * v r
 rw [l1, l2, l2, z, z] at h0
 have e1 : D u v = det k M := det_congr fun r j _ _ => by
  unfold setCol; by_cases e : j = c + 1
  ·simp [e, v]
  ·by_cases e2 : j = c
   ·simp [e2, u]
   ·simp [e, e2]
 have e2 : D v u = det k (swapAdj M c) := rfl
 grind
theorem det_same {k : Nat} : ∀ (n : Nat) (M : Nat → Nat → Rat) (a b : Nat), a < b → b < k → b - a = n + 1 → (∀ r, r < k → M r a = M r b) → det k M = 0 := by
 intro n
 induction n with
 | zero => intro M a b h1 h2 h3 he; have e : b = a + 1 := by omega
           subst e; exact det_adj M a h2 he
 | succ n ih =>
   intro M a b h1 h2 h3 he
   obtain ⟨b, rfl⟩ : ∃ x, b = x + 1 := ⟨b - 1, by omega⟩
   have hs := det_swap (k := k) M b h2
   have hz : det k (swapAdj M b) = 0 := ih (swapAdj M b) a b (by omega) (by omega) (by omega) fun r hr => by
    unfold swapAdj setCol; simp only [if_true]; rw [if_neg (by omega), if_neg (by omega), if_neg (by omega)]; exact he r hr
   grind
theorem det_equal {k : Nat} (M : Nat → Nat → Rat) (a b : Nat) (ha : a < k) (hb : b < k) (hne : a ≠ b) (he : ∀ r, r < k → M r a = M r b) : det k M = 0 := by
 rcases Nat.lt_or_ge a b with h | h
 ·exact det_same (b - a - 1) M a b h hb (by omega) he
 ·exact det_same (a - b - 1) M b a (by omega) ha (by omega) fun r hr => (he r hr).symm
theorem det_sum {k : Nat} (M : Nat → Nat → Rat) (i : Nat) (hi : i < k) (t : Nat → Rat) (U : Nat → Nat → Rat) : ∀ n, det k (setCol M i fun r => sumTo n fun l => t l * U r l) = sumTo n fun l => t l * det k (setCol M i fun r => U r l) := by
 intro n
 induction n with
 | zero =>
   have := det_lin (k := k) M i 0 0 (fun _ => 0) (fun _ => 0) hi
   have e : (fun r : Nat => sumTo 0 fun l => t l * U r l) = fun r : Nat => (0 : Rat) * (fun _ : Nat => (0 : Rat)) r + 0 * (fun _ : Nat => (0 : Rat)) r := by funext r; unfold sumTo; grind
   rw [e, this]; unfold sumTo; grind
 | succ n ih =>
   have := det_lin (k := k) M i 1 (t n) (fun r => sumTo n fun l => t l * U r l) (fun r => U r n) hi
   have e : (fun r : Nat => sumTo (n + 1) fun l => t l * U r l) = fun r : Nat => 1 * (fun r => sumTo n fun l => t l * U r l) r + t n * (fun r => U r n) r := by funext r; simp only [sumTo]; grind
   rw [e, this, ih]; simp only [sumTo]; grind
theorem cramer {k : Nat} (M : Nat → Nat → Rat) (t c : Nat → Rat) (h : ∀ r, r < k → c r = sumTo k fun l => t l * M r l) (i : Nat) (hi : i < k) : det k (setCol M i c) = t i * det k M := by
 have h1 : det k (setCol M i c) = det k (setCol M i fun r => sumTo k fun l => t l * M r l) := det_congr fun r j hr _ => by unfold setCol; split <;> simp [h r hr]
 rw [h1, det_sum M i hi t M k, sumTo_one i hi fun l hl hne => ?_]
 ·rw [det_setCol_self]
 ·rw [det_equal _ l i hl hi hne fun r hr => by unfold setCol; rw [if_neg hne, if_pos rfl]]; grind
theorem det_one (k : Nat) : det k (fun r c => if r = c then 1 else 0) = 1 := by
 induction k with
 | zero => rfl
 | succ k ih =>
   unfold det
   rw [sumTo_one 0 (by omega) fun c hc hne => by
    have : (0 : Nat) ≠ c := by omega
    simp only [this, if_false]; grind]
   have : det k (minor (fun r c => if r = c then (1 : Rat) else 0) 0) = 1 := by
    refine Eq.trans (det_congr fun r c _ _ => ?_) ih
    unfold minor skip; simp
   rw [this]; unfold sgnAt; simp
def IsI (x : Rat) (b : Nat) : Prop := ∃ z : Int, x = (z : Rat) ∧ z.natAbs ≤ b
theorem IsI.mono {x : Rat} {b c : Nat} (h : IsI x b) (hc : b ≤ c) : IsI x c := by obtain ⟨z, h1, h2⟩ := h; exact ⟨z, h1, by omega⟩
theorem IsI.add {x y : Rat} {b c : Nat} (h : IsI x b) (k : IsI y c) : IsI (x + y) (b + c) := by
 obtain ⟨z, rfl, h2⟩ := h; obtain ⟨u, rfl, k2⟩ := k; exact ⟨z + u, by rw [Rat.intCast_add], by omega⟩
theorem IsI.mul {x y : Rat} {b c : Nat} (h : IsI x b) (k : IsI y c) : IsI (x * y) (b * c) := by
 obtain ⟨z, rfl, h2⟩ := h; obtain ⟨u, rfl, k2⟩ := k; exact ⟨z * u, by rw [Rat.intCast_mul], by rw [Int.natAbs_mul]; exact Nat.mul_le_mul h2 k2⟩
theorem IsI.sgn {x : Rat} {b : Nat} (h : IsI x b) (c : Nat) : IsI (sgnAt c * x) b := by
 obtain ⟨z, rfl, h2⟩ := h
 unfold sgnAt; split
 ·exact ⟨z, by grind, h2⟩
 ·exact ⟨-z, by rw [Rat.intCast_neg]; grind, by omega⟩
theorem IsI.zero (b : Nat) : IsI 0 b := ⟨0, rfl, by omega⟩
theorem IsI.sum {n : Nat} {f : Nat → Rat} {b : Nat} (h : ∀ i, i < n → IsI (f i) b) : IsI (sumTo n f) (n * b) := by
 induction n with
 | zero => exact .zero _
 | succ n ih => unfold sumTo; rw [Nat.succ_mul]; exact (ih fun i hi => h i (by omega)).add (h n (by omega))
def prodTo : Nat → (Nat → Nat) → Nat
 | 0, _ => 1
 | n + 1, f => prodTo n f * f n
def fac : Nat → Nat
 | 0 => 1
 | n + 1 => (n + 1) * fac n
theorem prodTo_congr {n : Nat} {f g : Nat → Nat} (h : ∀ i, i < n → f i = g i) : prodTo n f = prodTo n g := by
 induction n with
 | zero => rfl
 | succ n ih => unfold prodTo; rw [ih (fun i hi => h i (by omega)), h n (by omega)]
theorem prodTo_skip (B : Nat → Nat) : ∀ (k c : Nat), c < k + 1 → B c * prodTo k (fun j => B (skip c j)) = prodTo (k + 1) B := by
 intro k
 induction k with
 | zero => intro c hc; have : c = 0 := by omega
           subst this; simp [prodTo]
 | succ k ih =>
   intro c hc
   by_cases e : c = k + 1
   ·subst e
    rw [show prodTo (k + 1 + 1) B = prodTo (k + 1) B * B (k + 1) from rfl, Nat.mul_comm]
    congr 1
    exact prodTo_congr fun i hi => by unfold skip; rw [if_pos hi]
   ·rw [show prodTo (k + 1) (fun j => B (skip c j)) = prodTo k (fun j => B (skip c j)) * B (skip c k) from rfl, ← Nat.mul_assoc, ih c (by omega)]
    unfold skip; rw [if_neg (by omega)]; rfl
theorem det_int {k : Nat} : ∀ {M : Nat → Nat → Rat} {B : Nat → Nat}, (∀ r c, r < k → c < k → IsI (M r c) (B c)) → IsI (det k M) (fac k * prodTo k B) := by
 induction k with
 | zero => intro M B h; exact ⟨1, rfl, by simp [fac, prodTo]⟩
 | succ k ih =>
   intro M B h
   unfold det
   have e : fac (k + 1) * prodTo (k + 1) B = (k + 1) * (fac k * prodTo (k + 1) B) := by rw [show fac (k + 1) = (k + 1) * fac k from rfl, Nat.mul_assoc]
   rw [e]
   refine IsI.sum fun c hc => ?_
   refine IsI.sgn ?_ c
   have h1 := (h 0 c (by omega) hc).mul (ih (M := minor M c) (B := fun j => B (skip c j)) fun r j hr hj => h (r + 1) (skip c j) (by omega) (by unfold skip; split <;> omega))
   refine h1.mono ?_
   rw [← prodTo_skip B k c hc, Nat.mul_left_comm]; exact Nat.le_refl _
end Lp
end Go.Proofs.YtkljafmdbajfeaaGreatDoor
