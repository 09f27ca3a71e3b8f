/- linear.proper and linear.Value: what they answer. -/
import Derived.Deep.Light
import Derived.Test.YtkljafmdbajfeaaGreatDoorWeA00
import Derived.Test.YtkljafmdbajfeaaGreatDoorWeA08
namespace Go.Proofs.YtkljafmdbajfeaaGreatDoor
open Go.RowKit
def pointOk (n : Nat) (xs : List Int) (d : Int) : Bool := decide (xs.length = n) && decide (1 ≤ d) && decide (d ≤ 1125899906842624) && listOk 1125899906842624 xs
set_option maxHeartbeats 400000 in
theorem proper_calls (A : Option Addr) (c : Nat) (xs : List Int) (d : Int) (n : Nat) (w : World) (hm : xs.length ≤ maxLen) (hn : n ≤ maxLen) (hA : Ints w A xs) :
  Calls Tryz.prog 97 #[.agg #[.slice A xs.length c, .int .i64 d], .int .i64 n] w fun e w' => e = .returned (.bool (pointOk n xs d)) ∧ Below w.heap.size w w' := by
 have hn' := hn; unfold maxLen at hn'
 have hm' := hm; unfold maxLen at hm'
 have hb0 : ∀ o, Below w.heap.size w (w.alloc o) := fun o => (Below.refl _ _).alloc (Nat.le_refl _) _
 by_cases h1 : xs.length = n
 ·have d1 : ((xs.length : Int) == (n : Int)) = true := by simp [h1]
  have H1 := Lib.hid h1; clear h1
  by_cases h2 : 1 ≤ d
  ·by_cases h3 : d ≤ 1125899906842624
   ·go_enter Tryz.func97, Tryz.ntmps97
    go_wp2_with (go_at_call 88; refine (listed_calls _ _ xs 1125899906842624 _ hm (by omega) (by omega) (hA.ext (hb0 _))).mono ?_; rintro e w1 ⟨rfl, hb1⟩)
    go_ret
    exact ⟨by simp [pointOk, H1.out, h2, h3], ext_trans (hb0 _) hb1⟩
   ·have d3 : decide (d ≤ 1125899906842624) = false := decide_eq_false h3
    go_enter Tryz.func97, Tryz.ntmps97
    go_wp2
    go_ret
    exact ⟨by simp [pointOk, d3], hb0 _⟩
  ·have d2 : decide (1 ≤ d) = false := decide_eq_false h2
   go_enter Tryz.func97, Tryz.ntmps97
   go_wp2
   go_ret
   exact ⟨by simp [pointOk, d2], hb0 _⟩
 ·have d1 : ((xs.length : Int) == (n : Int)) = false := by simp; omega
  have H1 := Lib.hid h1; clear h1
  go_enter Tryz.func97, Tryz.ntmps97
  go_wp2
  go_ret
  exact ⟨by simp [pointOk, H1.out], hb0 _⟩
theorem inB_bd {m x : Int} (h : inB m x = true) : -m ≤ x ∧ x ≤ m := by unfold inB at h; simp at h; exact h
theorem listOk_nth {m : Int} {xs : List Int} (h : listOk m xs = true) {i : Nat} (hi : i < xs.length) : -m ≤ nth xs i ∧ nth xs i ≤ m := by
 unfold listOk at h; rw [List.all_eq_true] at h; exact inB_bd (h _ (nth_mem hi))
theorem mul_bd {a b x y : Int} (ha : 0 ≤ a) (hx : -a ≤ x ∧ x ≤ a) (hy : -b ≤ y ∧ y ≤ b) : -(a * b) ≤ x * y ∧ x * y ≤ a * b := by
 have e : (x * y).natAbs ≤ (a * b).natAbs := by
  rw [Int.natAbs_mul, Int.natAbs_mul]; exact Nat.mul_le_mul (by omega) (by omega)
 have h0 : 0 ≤ a * b := Int.mul_nonneg ha (by omega)
 omega
theorem small_of {xs ys : List Int} {a b : Int} {n : Nat} (h : listOk a xs = true) (k : listOk b ys = true) (ha : 0 ≤ a) (hb : 0 ≤ b) (hn : xs.length ≤ n) (hl : xs.length ≤ ys.length) (hM : n * (a * b) ≤ 9000000000000000000) : Small xs ys :=
 ⟨a * b, Int.le_trans (Int.mul_le_mul_of_nonneg_right (by omega) (Int.mul_nonneg ha hb)) hM, fun i hi => mul_bd ha (listOk_nth h hi) (listOk_nth k (by omega))⟩
theorem progOk_parts {a : List (List Int)} {b c : List Int} (h : progOk a b c = true) : (1 ≤ c.length ∧ c.length ≤ 6) ∧ a.length ≤ 6 ∧ (∀ r ∈ a, r.length = c.length ∧ listOk 30 r = true) ∧ b.length = a.length ∧ listOk 1000 b = true ∧ listOk 1000 c = true := by
 unfold progOk rowsOk rowOk at h; simp at h
 obtain ⟨⟨⟨⟨⟨⟨h1, h2⟩, h3⟩, h4⟩, h5⟩, h6⟩, h7⟩ := h
 exact ⟨⟨by omega, h2⟩, h3, fun r hr => h4 r hr, h5, h6, h7⟩
theorem pointOk_parts {n : Nat} {xs : List Int} {d : Int} (h : pointOk n xs d = true) : xs.length = n ∧ 1 ≤ d ∧ d ≤ 1125899906842624 ∧ listOk 1125899906842624 xs = true := by
 unfold pointOk at h; simp at h; obtain ⟨⟨⟨h1, h2⟩, h3⟩, h4⟩ := h; exact ⟨h1, h2, h3, h4⟩
def ValPost (w : World) (xs c : List Int) (d : Int) (e : Ending) (w' : World) : Prop :=
 ∃ b, e = .returned (.tuple #[.agg #[.slice (some ⟨b, 0, none⟩) 1 1, .int .i64 (d.tdiv (gcdN d [dotZ c xs] 1))], .int .i64 0]) ∧ w.heap.size ≤ b ∧ IBlk w' b [(dotZ c xs).tdiv (gcdN d [dotZ c xs] 1)] ∧ Below w.heap.size w w'
set_option maxHeartbeats 1000000 in
theorem value_ok (A B C X : Option Addr) (ca cb cc cx : Nat) (a : List (List Int)) (b c xs : List Int) (d : Int) (w : World) (h : Prog3 w A B C a b c) (hX : Ints w X xs) (hm : xs.length ≤ maxLen) (h1 : progOk a b c = true) (h2 : pointOk c.length xs d = true) :
  Calls Tryz.prog 41 #[.agg #[.slice A a.length ca, .slice B b.length cb, .slice C c.length cc], .agg #[.slice X xs.length cx, .int .i64 d]] w (ValPost w xs c d) := by
 have hlc := h.lc; unfold maxLen at hlc
 have hb0 : ∀ o, Below w.heap.size w (w.alloc o) := fun o => (Below.refl _ _).alloc (Nat.le_refl _) _
 have hb00 : ∀ o o' o'', Below w.heap.size w (((w.alloc o).alloc o').alloc o'') := fun o o' o'' => (((Below.refl _ _).alloc (Nat.le_refl _) _).alloc (by simp) _).alloc (by simp; omega) _
 go_enter Tryz.func41, Tryz.ntmps41
 go_wp2_with fail
 refine (valid_calls _ _ _ _ _ _ a b c _ (h.ext (hb00 _ _ _))).mono ?_; rw [h1]; rintro e w1 ⟨rfl, hb1⟩
 obtain ⟨hc1, hf1⟩ := bcell hb1
 have hx1 := ext_trans (hb00 _ _ _) hb1
 have hz1 := hb1.size
 simp at hz1
 go_wp2_with fail
 refine (proper_calls _ _ xs d c.length _ hm h.lc (hX.ext hx1)).mono ?_; rw [h2]; rintro e w2 ⟨rfl, hb2⟩
 obtain ⟨hc2, hf2⟩ := bcell hb2
 have hx2 := ext_trans hx1 hb2
 have hz2 := hb2.size
 have hz3 : w.heap.size + 1 < w1.heap.size := by omega
 have hz4 : w.heap.size + 2 < w1.heap.size := by omega
 have hz5 : w.heap.size < w1.heap.size := by omega
 have hx3 := hx2
 obtain ⟨pl, pd1, pd2, px⟩ := pointOk_parts h2
 obtain ⟨⟨pc1, pc2⟩, pa, pr, pbl, pb, pc⟩ := progOk_parts h1
 have hsm : Small c xs := small_of pc px (by omega) (by omega) pc2 (by omega) (by omega)
 have PL := Lib.hid pl
 have hle : c.length ≤ xs.length := by omega
 clear pl pr pbl pa h1 h2
 have hI1 := (h.ext hx2).gc
 have hI2 := hX.ext hx2
 have k1 : w2.cell? ⟨w.heap.size, 2, none⟩ = some (.slice C c.length cc) := by rw [hc2 _ _ hz5, hc1 _ _ (by simp; omega)]; go_simp
 have k2 : w2.cell? ⟨w.heap.size + 1, 0, none⟩ = some (.slice X xs.length cx) := by rw [hc2 _ _ hz3, hc1 _ _ (by simp)]; go_simp
 have k3 : w2.cell? ⟨w.heap.size + 1, 1, none⟩ = some (.int .i64 d) := by rw [hc2 _ _ hz3, hc1 _ _ (by simp)]; go_simp
 have k4 : w2.cell? ⟨w.heap.size + 1 + 1, 0, none⟩ = some (.slice none 0 0) := by rw [hc2 _ _ hz4, hc1 _ _ (by simp)]; go_simp
 have k5 : w2.cell? ⟨w.heap.size + 1 + 1, 1, none⟩ = some (.int .i64 0) := by rw [hc2 _ _ hz4, hc1 _ _ (by simp)]; go_simp
 have f4 : w2.frozen? ⟨w.heap.size + 1 + 1, 0, none⟩ = false := by rw [hf2 _ _ hz4, hf1 _ _ (by simp)]; go_simp
 have f5 : w2.frozen? ⟨w.heap.size + 1 + 1, 1, none⟩ = false := by rw [hf2 _ _ hz4, hf1 _ _ (by simp)]; go_simp
 clear hc1 hf1 hc2 hf2
 have y1 : w.heap.size < w2.heap.size := by omega
 have y2 : w.heap.size + 1 < w2.heap.size := by omega
 have y3 : w.heap.size + 1 + 1 < w2.heap.size := by omega
 clear hz1 hz2 hz3 hz4 hz5
 have hdz := dotZ_bd hsm
 go_wp2_with fail
 go_region_held3 (fun w' => w'.cell? ⟨w.heap.size, 2, none⟩ = some (.slice C c.length cc) ∧ w'.cell? ⟨w.heap.size + 1, 0, none⟩ = some (.slice X xs.length cx) ∧ w'.cell? ⟨w.heap.size + 1, 1, none⟩ = some (.int .i64 d))
  (first | (go_keep; done) | (refine ⟨?_, ?_, ?_⟩ <;> (rw [World.cell?_setCell_far _ _ _ _ (by dsimp only; omega), World.cell?_setCell_far _ _ _ _ (by dsimp only; omega)]; (first | rw [hc4 _ _ y1] | rw [hc4 _ _ y2]); assumption)))
  (first
    | (go_at_call 100; refine (linDot_calls _ _ _ _ c xs _ hle h.lc (hI1.ext (drewN_below _ 1)) (hI2.ext (drewN_below _ 1)) hsm).mono ?_; rintro e w3 ⟨rfl, n3, rfl⟩)
    | (go_at_call 101; refine (lowest_calls w2.heap.size 1 [dotZ c xs] d _ (fun i hi => by have : i = 0 := (by simp at hi; omega); subst this; exact hdz) pd1 (by omega) (by simp) (by exact IBlk.single _ _ _ rfl)).mono ?_; rintro e w4 ⟨rfl, hIB, hBut⟩; have hb4 : Below w2.heap.size w2 w4 := hBut.grown (by simp) ((drewN_below _ _).alloc (by simp) _); obtain ⟨hc4, hf4⟩ := bcell hb4))
 go_wp2
 try simp only [Exit.inBlock, Exit.then]
 have z4 : w4.cell? ⟨w.heap.size + 1 + 1, 0, none⟩ = some (.slice none 0 0) := by rw [hc4 _ _ y3]; exact k4
 have z5 : w4.cell? ⟨w.heap.size + 1 + 1, 1, none⟩ = some (.int .i64 0) := by rw [hc4 _ _ y3]; exact k5
 have hall : Below w.heap.size w w4 := hx2.trans (hb4.mono (by omega))
 refine bodyPost_ret (v := .tuple #[.agg #[.slice (some ⟨w2.heap.size, 0, none⟩) 1 1, .int .i64 (d.tdiv (gcdN d [dotZ c xs] 1))], .int .i64 0]) (by simp [results, Tryz.results41, go_sem, z4, z5]) rfl ⟨w2.heap.size, rfl, by omega, ?_, ?_⟩
 ·exact Blk.other (Blk.other hIB _ _ (by dsimp only; omega)) _ _ (by dsimp only; omega)
 ·exact (hall.setCell (by dsimp only; omega) _).setCell (by dsimp only; omega) _
end Go.Proofs.YtkljafmdbajfeaaGreatDoor

/- The vectors of a box in lexicographic order; which are feasible; what they cost. Plain mathematics. -/
namespace Go.Proofs.YtkljafmdbajfeaaGreatDoor
end Go.Proofs.YtkljafmdbajfeaaGreatDoor

/- branch.of: an integer program and whether it is valid. -/
namespace Go.Proofs.YtkljafmdbajfeaaGreatDoor
open Go.RowKit
set_option linter.unusedVariables false
set_option linter.unusedSimpArgs false
end Go.Proofs.YtkljafmdbajfeaaGreatDoor

/- tinplateref01.Valid and tinplateref02.Valid, Feasible: what they answer. -/
namespace Go.Proofs.YtkljafmdbajfeaaGreatDoor
open Go.RowKit
theorem all_of_nth {xs : List Int} {p : Int → Bool} (h : ∀ i, i < xs.length → p (nth xs i) = true) : xs.all p = true := by
 rw [List.all_eq_true]; intro x hx
 obtain ⟨i, hi, rfl⟩ := List.getElem_of_mem hx
 rw [← nth_lt hi]; exact h i hi
end Go.Proofs.YtkljafmdbajfeaaGreatDoor

/- Numbers as digits to the base 10000, the lowest first. Plain mathematics. -/
namespace Go.Proofs.YtkljafmdbajfeaaGreatDoor.T
def val : List Nat → Nat
 | [] => 0
 | d :: ds => d + 10000 * val ds
def digits (n : Nat) : List Nat := if h : n = 0 then [] else n % 10000 :: digits (n / 10000)
termination_by n
decreasing_by exact Nat.div_lt_self (by omega) (by omega)
def Dig (ds : List Nat) : Prop := ∀ d ∈ ds, d < 10000
def trimL : List Nat → List Nat
 | [] => []
 | d :: ds => if d = 0 ∧ trimL ds = [] then [] else d :: trimL ds
def nthd (ds : List Nat) (i : Nat) : Nat := ds.getD i 0
theorem digits_zero : digits 0 = [] := by unfold digits; simp
theorem digits_pos {n : Nat} (h : n ≠ 0) : digits n = n % 10000 :: digits (n / 10000) := by rw [digits, dif_neg h]
theorem digits_nil {n : Nat} (h : digits n = []) : n = 0 := by
 by_cases h0 : n = 0
 ·exact h0
 ·rw [digits_pos h0] at h; simp at h
theorem val_digits : ∀ n, val (digits n) = n := by
 intro n
 induction n using Nat.strongRecOn with
 | _ n ih =>
   by_cases h : n = 0
   ·subst h; rw [digits_zero]; rfl
   ·rw [digits_pos h, val, ih _ (Nat.div_lt_self (by omega) (by omega))]; omega
theorem digits_dig : ∀ n, Dig (digits n) := by
 intro n
 induction n using Nat.strongRecOn with
 | _ n ih =>
   by_cases h : n = 0
   ·subst h; rw [digits_zero]; intro d hd; simp at hd
   ·rw [digits_pos h]; intro d hd
    rcases List.mem_cons.1 hd with rfl | hd
    ·exact Nat.mod_lt _ (by omega)
    ·exact ih _ (Nat.div_lt_self (by omega) (by omega)) d hd
theorem trimL_digits : ∀ {ds : List Nat}, Dig ds → trimL ds = digits (val ds)
 | [], _ => by rw [val, digits_zero]; rfl
 | d :: ds, h => by
   have hd := h d (by simp)
   have ih := trimL_digits (ds := ds) fun x hx => h x (List.mem_cons_of_mem _ hx)
   rw [trimL, val, ih]
   by_cases h0 : d + 10000 * val ds = 0
   ·rw [h0, digits_zero, if_pos ⟨by omega, by rw [show val ds = 0 by omega, digits_zero]⟩]
   ·rw [digits_pos h0, if_neg (fun ⟨e1, e2⟩ => h0 (by have := digits_nil e2; omega))]
    congr 1
    ·omega
    ·congr 1; omega
theorem Dig.nth {ds : List Nat} (h : Dig ds) (i : Nat) : nthd ds i < 10000 := by
 unfold nthd
 by_cases hi : i < ds.length
 ·rw [List.getD_eq_getElem?_getD, List.getElem?_eq_getElem hi]; exact h _ (List.getElem_mem hi)
 ·rw [List.getD_eq_getElem?_getD, List.getElem?_eq_none (by omega)]; simp
theorem nthd_lt {ds : List Nat} {i : Nat} (h : i < ds.length) : nthd ds i = ds[i] := by unfold nthd; simp [h]
theorem val_append : ∀ (a b : List Nat), val (a ++ b) = val a + 10000 ^ a.length * val b
 | [], b => by simp [val]
 | d :: a, b => by
   simp only [List.cons_append, val, List.length_cons, val_append a b, Nat.pow_succ, Nat.mul_add]
   rw [Nat.mul_comm (10000 ^ a.length) 10000, Nat.mul_assoc, Nat.add_assoc]
theorem val_lt : ∀ {ds : List Nat}, Dig ds → val ds < 10000 ^ ds.length
 | [], _ => by simp [val]
 | d :: ds, h => by
   have hd := h d (by simp)
   have ih := val_lt (ds := ds) fun x hx => h x (List.mem_cons_of_mem _ hx)
   rw [val, List.length_cons, Nat.pow_succ]; omega
theorem Dig.take {ds : List Nat} (h : Dig ds) (k : Nat) : Dig (ds.take k) := fun d hd => h d (List.mem_of_mem_take hd)
theorem take_nthd {ds : List Nat} {i : Nat} (h : i < ds.length) : ds.take (i + 1) = ds.take i ++ [nthd ds i] := by
 rw [List.take_succ_eq_append_getElem h, nthd_lt h]
theorem drop_nthd {ds : List Nat} {i : Nat} (h : i < ds.length) : ds.drop i = nthd ds i :: ds.drop (i + 1) := by
 rw [List.drop_eq_getElem_cons h, nthd_lt h]
theorem digits_ge : ∀ {n : Nat}, n ≠ 0 → 10000 ^ ((digits n).length - 1) ≤ n := by
 intro n
 induction n using Nat.strongRecOn with
 | _ n ih =>
   intro h0
   rw [digits_pos h0, List.length_cons, Nat.add_sub_cancel]
   by_cases h1 : n / 10000 = 0
   ·rw [h1, digits_zero]; simp; omega
   ·have h2 := ih (n / 10000) (Nat.div_lt_self (by omega) (by omega)) h1
    have hl : 0 < (digits (n / 10000)).length := by rw [digits_pos h1]; simp
    have e : 10000 ^ (digits (n / 10000)).length = 10000 * 10000 ^ ((digits (n / 10000)).length - 1) := by
     rw [← Nat.pow_succ', Nat.succ_eq_add_one, Nat.sub_add_cancel hl]
    rw [e]
    have := Nat.mul_le_mul_left 10000 h2
    omega
theorem digits_len_lt {n m : Nat} (h : (digits n).length < (digits m).length) : n < m := by
 have h1 := val_lt (digits_dig n)
 rw [val_digits] at h1
 have h2 := digits_ge (n := m) (fun e => by rw [e, digits_zero] at h; simp at h)
 have h3 : 10000 ^ (digits n).length ≤ 10000 ^ ((digits m).length - 1) := Nat.pow_le_pow_right (by omega) (by omega)
 omega
theorem val_lt_of {a b : List Nat} (ha : Dig a) (hl : a.length = b.length) {i : Nat} (hi : i < a.length) (hd : a.drop (i + 1) = b.drop (i + 1)) (h : nthd a i < nthd b i) : val a < val b := by
 have ea : val a = val (a.take i) + 10000 ^ i * val (a.drop i) := by
  have := val_append (a.take i) (a.drop i); rw [List.take_append_drop] at this; rw [this, List.length_take, Nat.min_eq_left (by omega)]
 have eb : val b = val (b.take i) + 10000 ^ i * val (b.drop i) := by
  have := val_append (b.take i) (b.drop i); rw [List.take_append_drop] at this; rw [this, List.length_take, Nat.min_eq_left (by omega)]
 have hb := val_lt (ha.take i)
 rw [List.length_take, Nat.min_eq_left (by omega)] at hb
 rw [ea, eb, drop_nthd hi, drop_nthd (by omega : i < b.length), val, val, hd]
 have : 10000 ^ i * (nthd a i + 10000 * val (b.drop (i + 1))) + 10000 ^ i ≤ 10000 ^ i * (nthd b i + 10000 * val (b.drop (i + 1))) := by
  rw [← Nat.mul_succ]; exact Nat.mul_le_mul_left _ (by omega)
 omega
theorem nthd_cons (d : Nat) (ds : List Nat) (i : Nat) : nthd (d :: ds) (i + 1) = nthd ds i := rfl
theorem trim_zero : ∀ (ds : List Nat) (i : Nat), (trimL ds).length ≤ i → nthd ds i = 0
 | [], i, _ => by simp [nthd]
 | d :: ds, i, h => by
   by_cases e : d = 0 ∧ trimL ds = []
   ·cases i with
    | zero => exact e.1
    | succ i => rw [nthd_cons]; exact trim_zero ds i (by rw [e.2]; simp)
   ·rw [trimL, if_neg e] at h
    cases i with
    | zero => simp at h
    | succ i => rw [nthd_cons]; exact trim_zero ds i (by simpa using h)
theorem trim_last : ∀ (ds : List Nat) (m : Nat), (trimL ds).length = m + 1 → nthd ds m ≠ 0
 | [], m, h => by simp [trimL] at h
 | d :: ds, m, h => by
   by_cases e : d = 0 ∧ trimL ds = []
   ·rw [trimL, if_pos e] at h; simp at h
   ·rw [trimL, if_neg e] at h
    simp only [List.length_cons, Nat.add_right_cancel_iff] at h
    cases m with
    | zero =>
      have : trimL ds = [] := List.length_eq_zero_iff.1 h
      intro e2
      exact e ⟨e2, this⟩
    | succ m => rw [nthd_cons]; exact trim_last ds m h
theorem trim_take : ∀ ds : List Nat, ds.take (trimL ds).length = trimL ds
 | [] => rfl
 | d :: ds => by
   by_cases e : d = 0 ∧ trimL ds = []
   ·rw [trimL, if_pos e]; rfl
   ·rw [trimL, if_neg e, List.length_cons, List.take_succ_cons, trim_take ds]
theorem trim_len (ds : List Nat) : (trimL ds).length ≤ ds.length := by
 have := congrArg List.length (trim_take ds)
 rw [List.length_take] at this; omega
theorem digits_len {n k : Nat} (h : n < 10000 ^ k) : (digits n).length ≤ k := by
 rcases Nat.lt_or_ge k (digits n).length with h1 | h1
 ·have h2 := digits_ge (n := n) (fun e => by rw [e, digits_zero] at h1; simp at h1)
  have h3 : 10000 ^ k ≤ 10000 ^ ((digits n).length - 1) := Nat.pow_le_pow_right (by omega) (by omega)
  omega
 ·exact h1
end Go.Proofs.YtkljafmdbajfeaaGreatDoor.T
