/- Hermite, Reduce and Member with one answer each, for all arguments; a normal form passes normal. -/
import Derived.Test.YtkljafmdbajfeaaGreatDoorNoA10
import Derived.Test.YtkljafmdbajfeaaGreatDoorNoA26
import Derived.Test.YtkljafmdbajfeaaGreatDoorNoA31
import Derived.Test.YtkljafmdbajfeaaGreatDoorNoA46
namespace Go.Proofs.YtkljafmdbajfeaaGreatDoor
open Go.RowKit Go.ChangeMaps
open Lp (Lt V Ech pivots Gen From Least)
set_option linter.unusedVariables false
set_option linter.unusedSimpArgs false
theorem rowed_far (A : Option Addr) (c : Nat) (l : List (List Int)) (k : Int) (w : World) (h : k < 1 ∨ 6 < k) :
    Calls Tryz.prog 80 #[.slice A l.length c, .int .i64 k] w fun e w' => e = .returned (.bool false) ∧ Below w.heap.size w w' := by
  have hb0 : ∀ o, Below w.heap.size w (w.alloc o) := fun o => (Below.refl _ _).alloc (Nat.le_refl _) _
  rcases h with h | h
  · have d1 : decide (1 ≤ k) = false := decide_eq_false (by omega)
    go_enter Tryz.func80, Tryz.ntmps80
    go_wp2
    go_ret
    exact ⟨rfl, hb0 _⟩
  · have d1 : decide (1 ≤ k) = true := decide_eq_true (by omega)
    have d2 : decide (k ≤ 6) = false := decide_eq_false (by omega)
    go_enter Tryz.func80, Tryz.ntmps80
    go_wp2
    go_ret
    exact ⟨rfl, hb0 _⟩
theorem herm_far (A : Option Addr) (c : Nat) (l : List (List Int)) (k : Int) (w : World) (h : k < 1 ∨ 6 < k) :
    Calls Tryz.prog 31 #[.slice A l.length c, .int .i64 k] w fun e w' => e = .returned (.tuple #[.slice none 0 0, .int .i64 2]) ∧ Below w.heap.size w w' := by
  have HRW := Lib.hid (rowed_far A c l k w h)
  clear h
  go_enter Tryz.func31, Tryz.ntmps31
  go_wp2_with fail
  refine HRW.out.mono ?_; rintro e w1 ⟨rfl, hb1⟩
  go_wp2
  go_ret2
  exact ⟨rfl, hb1⟩
def okN (l : List (List Int)) (k : Int) : Bool := decide (1 ≤ k) && decide (k ≤ 6) && rowsOk l k.toNat
theorem okN_nat {l : List (List Int)} {k : Int} (h : okN l k = true) : ∃ n : Nat, k = n ∧ 1 ≤ n ∧ n ≤ 6 ∧ rowsOk l n = true := by
  unfold okN at h
  simp only [Bool.and_eq_true, decide_eq_true_eq] at h
  exact ⟨k.toNat, by omega, by omega, by omega, h.2⟩
def HermP (l : List (List Int)) (k : Int) (w : World) (e : Ending) (w' : World) : Prop :=
  ∃ HA hc h er, e = .returned (.tuple #[.slice HA h.length hc, .int .i64 er]) ∧ Hid (Grid w' HA h) ∧ Below w.heap.size w w' ∧
    ((okN l k = false ∧ er = 2) ∨ (okN l k = true ∧ er = 0 ∧ ∃ rows, FormOf l k.toNat rows ∧ h = formL rows k.toNat))
theorem herm_any (A : Option Addr) (c : Nat) (l : List (List Int)) (k : Int) (w : World) (h : Grid w A l) (hl : l.length ≤ maxLen) (hr : ∀ r ∈ l, r.length ≤ maxLen) :
    Calls Tryz.prog 31 #[.slice A l.length c, .int .i64 k] w (HermP l k w) := by
  have bad : okN l k = false → (Calls Tryz.prog 31 #[.slice A l.length c, .int .i64 k] w fun e w' => e = .returned (.tuple #[.slice none 0 0, .int .i64 2]) ∧ Below w.heap.size w w') → Calls Tryz.prog 31 #[.slice A l.length c, .int .i64 k] w (HermP l k w) := fun hk hc =>
    hc.mono fun e w' ⟨h1, h2⟩ => ⟨none, 0, [], 2, h1, Lib.hid (fun i hi => by simp at hi), h2, .inl ⟨hk, rfl⟩⟩
  by_cases h1 : k < 1 ∨ 6 < k
  · exact bad (by unfold okN; rcases h1 with h1 | h1 <;> simp <;> omega) (herm_far A c l k w h1)
  · obtain ⟨n, rfl⟩ : ∃ n : Nat, k = n := ⟨k.toNat, by omega⟩
    have hn : (n : Int).toNat = n := Int.toNat_natCast n
    cases hok : rowsOk l n with
    | false => exact bad (by unfold okN; rw [hn, hok]; simp) (hermite_bad A c n l w h hl (by unfold maxLen; omega) hr hok)
    | true =>
      refine (hermite_good A c n l w h hok).mono ?_
      rintro e w' ⟨v, rows, rfl, hv⟩
      obtain ⟨HA, hc, rfl, -, -, hG⟩ := hv.grid.grid
      refine ⟨HA, hc, formL rows n, 0, by rw [show (formL rows n).length = (rowsOf rows n).length by unfold formL; simp], Lib.hid hG, hv.below, .inr ⟨by unfold okN; rw [hn, hok]; simp; omega, rfl, rows, by rw [hn]; exact ⟨hok, hv.ech, hv.red, hv.gen⟩, by rw [hn]⟩⟩
def okR (l : List (List Int)) (xs : List Int) : Bool := rowsOk l xs.length && listOk 1000 xs
def RedP (l : List (List Int)) (xs : List Int) (w : World) (e : Ending) (w' : World) : Prop :=
  ∃ G cg x er, e = .returned (.tuple #[.slice G x.length cg, .int .i64 er]) ∧ Hid (Ints w' G x) ∧ Below w.heap.size w w' ∧
    ((okR l xs = false ∧ er = 2) ∨ (okR l xs = true ∧ er = 0 ∧ ∃ rows f, RedV l xs rows f ∧ x = intsTo f xs.length xs.length))
theorem red_any (A X : Option Addr) (c cx : Nat) (l : List (List Int)) (xs : List Int) (w : World) (h : Grid w A l) (hX : Ints w X xs) (hl : l.length ≤ maxLen) (hr : ∀ r ∈ l, r.length ≤ maxLen) (hm : xs.length ≤ maxLen) :
    Calls Tryz.prog 34 #[.slice A l.length c, .slice X xs.length cx] w (RedP l xs w) := by
  cases hok : (rowsOk l xs.length && listOk 1000 xs) with
  | false => exact (reduceL_bad A X c cx l xs w h hX hl hr hm hok).mono fun e w' ⟨h1, h2⟩ => ⟨none, 0, [], 2, h1, Lib.hid (Ints.nil _ _), h2, .inl ⟨hok, rfl⟩⟩
  | true =>
    have h2 := hok
    rw [Bool.and_eq_true] at h2
    refine (reduceL_good A X c cx l xs w h hX h2.1 h2.2).mono ?_
    rintro e w' ⟨g, rows, f, rfl, -, hI, hv, hb⟩
    exact ⟨_, _, intsTo f xs.length xs.length, 0, by rw [intsTo_len], Lib.hid hI.ints, hb, .inr ⟨hok, rfl, rows, f, hv, rfl⟩⟩
def MemP (l : List (List Int)) (xs : List Int) (w : World) (e : Ending) (w' : World) : Prop :=
  ∃ z er, e = .returned (.tuple #[.bool z, .int .i64 er]) ∧ Below w.heap.size w w' ∧ ((okR l xs = false ∧ er = 2) ∨ (okR l xs = true ∧ er = 0 ∧ (z = true ↔ InL l (nth xs))))
theorem mem_any (A X : Option Addr) (c cx : Nat) (l : List (List Int)) (xs : List Int) (w : World) (h : Grid w A l) (hX : Ints w X xs) (hl : l.length ≤ maxLen) (hr : ∀ r ∈ l, r.length ≤ maxLen) (hm : xs.length ≤ maxLen) :
    Calls Tryz.prog 37 #[.slice A l.length c, .slice X xs.length cx] w (MemP l xs w) := by
  cases hok : (rowsOk l xs.length && listOk 1000 xs) with
  | false => exact (memberL_bad A X c cx l xs w h hX hl hr hm hok).mono fun e w' ⟨h1, h2⟩ => ⟨false, 2, h1, h2, .inl ⟨hok, rfl⟩⟩
  | true =>
    have h2 := hok
    rw [Bool.and_eq_true] at h2
    refine (memberL_good A X c cx l xs w h hX h2.1 h2.2).mono ?_
    rintro e w' ⟨rows, f, rfl, hv, hb⟩
    exact ⟨_, 0, rfl, hb, .inr ⟨hok, rfl, member_iff hv⟩⟩
theorem normal_form (A : Option Addr) (ca n : Nat) {l : List (List Int)} {rows : Lt} (hf : FormOf l n rows) (w : World) (hA : Grid w A (formL rows n)) :
    Calls Tryz.prog 39 #[.slice A (formL rows n).length ca] w fun e w' => e = .returned (.bool true) ∧ Below w.heap.size w w' := by
  have hp := piv_of hf.ech
  have hn : n ≤ 6 := (rowsOk_in hf.ok).2.1
  have hlen : (formL rows n).length = (pivots rows n).length := by unfold formL rowsOf; simp
  have hk : (pivots rows n).length ≤ 6 := Nat.le_trans (by
    unfold pivots
    refine Nat.le_trans (List.length_filter_le _ _) ?_
    rw [List.length_range]; exact Nat.le_refl _) hn
  have hrow : ∀ i, i < (formL rows n).length → nrow (formL rows n) i = intsTo ((rows ((pivots rows n).getD i 0)).getD fun _ => 0) n n := fun i hi => by
    rw [hlen] at hi
    unfold nrow formL rowsOf
    simp [hi]
  have hat : ∀ i, i < (formL rows n).length → ∀ c, nth (nrow (formL rows n) i) c = ((rows ((pivots rows n).getD i 0)).getD fun _ => 0) c := fun i hi c => by
    rw [hrow i hi, hf.nth (hp.row i (by rw [← hlen]; exact hi))]
  refine (normal_calls A ca n (formL rows n) (fun i => (pivots rows n).getD i 0) w hA hn (by omega) (fun i hi => by rw [hrow i hi, intsTo_len]) (fun i hi => hf.ech.lt _ _ (hp.row i (by omega))) (fun i hi c hc => ?_) (fun i hi => ?_) (fun i j hij hj => ?_) (fun i hi => ?_)).mono fun e w' ⟨h1, k, h2⟩ => ⟨h1, by rw [h2]; exact drewN_below _ _⟩
  · rw [hat i hi]; exact hf.ech.low _ _ (hp.row i (by omega)) c hc
  · rw [hat i hi]; have := hf.ech.pos _ _ (hp.row i (by omega)); omega
  · rw [hat i (by omega), hat j hj]
    exact hf.red _ _ _ _ (hp.row j (by omega)) (hp.row i (by omega)) (hp.up i j hij (by omega))
  · cases i with
    | zero =>
      show (-1 : Int) < (((pivots rows n).getD 0 0 : Nat) : Int)
      omega
    | succ i =>
      have h : (pivots rows n).getD i 0 < (pivots rows n).getD (i + 1) 0 := hp.up i (i + 1) (by omega) (by omega)
      show (((pivots rows n).getD i 0 : Nat) : Int) < (((pivots rows n).getD (i + 1) 0 : Nat) : Int)
      omega
end Go.Proofs.YtkljafmdbajfeaaGreatDoor

/- linear.Feasible: what it answers. -/
namespace Go.Proofs.YtkljafmdbajfeaaGreatDoor
open Go.RowKit
set_option linter.unusedVariables false
set_option linter.unusedSimpArgs false
theorem all_range_true {n : Nat} {p : Nat → Bool} (h : ∀ i, i < n → p i = true) : (List.range n).all p = true := List.all_eq_true.2 fun i hi => h i (List.mem_range.1 hi)
theorem all_range_false {n i : Nat} {p : Nat → Bool} (hi : i < n) (h : p i = false) : (List.range n).all p = false := by
  cases e : (List.range n).all p with
  | false => rfl
  | true => have := List.all_eq_true.1 e i (List.mem_range.2 hi); rw [h] at this; cases this
end Go.Proofs.YtkljafmdbajfeaaGreatDoor

/- tinplateref01.Proper, atLeast0, dot and Feasible: what they answer. -/
namespace Go.Proofs.YtkljafmdbajfeaaGreatDoor
open Go.RowKit
set_option linter.unusedVariables false
set_option linter.unusedSimpArgs false
end Go.Proofs.YtkljafmdbajfeaaGreatDoor

/- tinplateref01.column: what it answers. -/
namespace Go.Proofs.YtkljafmdbajfeaaGreatDoor
open Go.RowKit Go.ChangeMaps
set_option linter.unusedVariables false
set_option linter.unusedSimpArgs false
end Go.Proofs.YtkljafmdbajfeaaGreatDoor

/- tinplateref01.Bounds, Denies and Falls: what they answer. -/
namespace Go.Proofs.YtkljafmdbajfeaaGreatDoor
open Go.RowKit
set_option linter.unusedVariables false
set_option linter.unusedSimpArgs false
end Go.Proofs.YtkljafmdbajfeaaGreatDoor

/- linear.times: what it answers. -/
namespace Go.Proofs.YtkljafmdbajfeaaGreatDoor
open Go.RowKit Go.ChangeMaps
set_option linter.unusedVariables false
set_option linter.unusedSimpArgs false
end Go.Proofs.YtkljafmdbajfeaaGreatDoor

/- linear.dual and linear.Falls: what they answer. -/
namespace Go.Proofs.YtkljafmdbajfeaaGreatDoor
open Go.RowKit
set_option linter.unusedVariables false
set_option linter.unusedSimpArgs false
end Go.Proofs.YtkljafmdbajfeaaGreatDoor

/- linear.Bounds and linear.Denies: what they answer. -/
namespace Go.Proofs.YtkljafmdbajfeaaGreatDoor
open Go.RowKit
set_option linter.unusedVariables false
set_option linter.unusedSimpArgs false
end Go.Proofs.YtkljafmdbajfeaaGreatDoor

/- tinplatelaw01.few and light: what they answer. -/
namespace Go.Proofs.YtkljafmdbajfeaaGreatDoor
open Go.RowKit
set_option linter.unusedVariables false
set_option linter.unusedSimpArgs false
def fewB (a : List (List Int)) (b : List Int) : Bool := decide (a.length ≤ 30) && ((List.range a.length).all fun i => decide ((nrow a i).length ≤ 30)) && decide (b.length ≤ 30)
set_option maxHeartbeats 1000000 in
theorem few_calls (A B : Option Addr) (ca cb : Nat) (a : List (List Int)) (b : List Int) (w : World) (hA : Grid w A a) (hl : a.length ≤ maxLen) (hr : ∀ r ∈ a, r.length ≤ maxLen) (hb : b.length ≤ maxLen) :
    Calls Tryz.prog 29 #[.slice A a.length ca, .slice B b.length cb] w fun e w' => e = .returned (.bool (fewB a b)) ∧ w' = w := by
  unfold maxLen at hl hb
  have HR := Lib.hid hr
  clear hr
  go_enter Tryz.func29, Tryz.ntmps29
  go_wp2
  go_loop [5] (fun i => ∃ k : Nat, k ≤ a.length ∧ i = .int .i64 k ∧ k ≤ 30 ∧ ∀ j, j < k → (nrow a j).length ≤ 30) (fun i => a.length - (intOf i).toNat)
  case atStart => exact ⟨0, Nat.zero_le _, rfl, Nat.zero_le _, fun j hj => by omega⟩
  case round =>
    obtain ⟨k, hk, rfl, h30, hall⟩ := hrel
    have HA := Lib.hid hall; clear hall
    by_cases hlt : k < a.length
    · obtain ⟨bb, o, R, cR, rfl, hrc, -, -⟩ := hA k hlt
      have hk1 : (k : Int) < a.length := by omega
      have hrl := HR.out _ (nrow_mem hlt)
      unfold maxLen at hrl
      by_cases h3 : k = 30
      · have d3 : decide (30 ≤ (k : Int)) = true := decide_eq_true (by omega)
        have H3 := Lib.hid h3
        clear h3
        go_wp2
        go_ret
        exact ⟨by have := H3.out; unfold fewB; rw [decide_eq_false (show ¬ a.length ≤ 30 by omega)]; rfl, rfl⟩
      · have d3 : decide (30 ≤ (k : Int)) = false := decide_eq_false (by omega)
        by_cases h4 : (nrow a k).length ≤ 30
        · have d4 : decide (30 < ((nrow a k).length : Int)) = false := decide_eq_false (by omega)
          have H4 := Lib.hid h4
          clear h4
          go_wp2
          go_round
          case rel => exact ⟨k + 1, by omega, by go_num, by omega, fun j hj => if e : j = k then by rw [e]; exact H4.out else HA.out j (by omega)⟩
          case measure => simp [intOf]; omega
        · have d4 : decide (30 < ((nrow a k).length : Int)) = true := decide_eq_true (by omega)
          have H4 := Lib.hid h4
          clear h4
          go_wp2
          go_ret
          exact ⟨by unfold fewB; rw [all_range_false hlt (decide_eq_false H4.out), Bool.and_false]; rfl, rfl⟩
    · obtain rfl : k = a.length := by omega
      have hd : decide ((b.length : Int) ≤ 30) = decide (b.length ≤ 30) := by rw [decide_eq_decide]; omega
      have H30 := Lib.hid h30; have HD := Lib.hid hd
      clear hd h30
      go_wp2
      go_ret
      exact ⟨by unfold fewB; rw [decide_eq_true H30.out, all_range_true fun i hi => decide_eq_true (HA.out i hi), ← HD.out]; rfl, rfl⟩
end Go.Proofs.YtkljafmdbajfeaaGreatDoor

/- Plain facts of the closed example: its normal form and its least point. -/
namespace Go.Proofs.YtkljafmdbajfeaaGreatDoor
open Go.RowKit
open Lp (Lt V Ech Gen From Red pivots sumTo Feas EndFound EndEmpty EndFree)
set_option linter.unusedVariables false
set_option linter.unusedSimpArgs false
def exL : Lt := fun p => if p = 0 then some (nth [2, 3]) else none
theorem nth23 (i : Nat) : nth [2, 3] i = if i = 0 then 2 else if i = 1 then 3 else 0 := by
  match i with
  | 0 => rfl
  | 1 => rfl
  | i + 2 => rw [nth_beyond (by simp)]; simp
theorem nth46 (i : Nat) : nth [4, 6] i = 2 * nth [2, 3] i := by
  match i with
  | 0 => rfl
  | 1 => rfl
  | i + 2 => rw [nth_beyond (by simp), nth_beyond (by simp)]; rfl
theorem nth69 (i : Nat) : nth [6, 9] i = 3 * nth [2, 3] i := by
  match i with
  | 0 => rfl
  | 1 => rfl
  | i + 2 => rw [nth_beyond (by simp), nth_beyond (by simp)]; rfl
theorem exL_ech : Ech 2 exL := by
  have key : ∀ p r, exL p = some r → p = 0 ∧ r = nth [2, 3] := fun p r h => by
    unfold exL at h; split at h
    · injection h with h; exact ⟨by assumption, h.symm⟩
    · cases h
  refine ⟨fun p r h => ?_, fun p r h i hi => ?_, fun p r h i hi => ?_, fun p r h => ?_⟩ <;> obtain ⟨rfl, rfl⟩ := key p r h
  · omega
  · omega
  · rw [nth_beyond (by simpa using hi)]
  · decide
theorem exL_red : Red exL := fun p r q s h1 h2 h3 => by
  unfold exL at h1; split at h1
  · omega
  · cases h1
theorem ex_gen (x : V) : Gen (From exL 0) x ↔ Gen (· ∈ [[4, 6], [6, 9]].map nth) x := by
  have hg : Gen (From exL 0) (nth [2, 3]) := .one ⟨0, by omega, rfl⟩
  have h1 : Gen (· ∈ [[4, 6], [6, 9]].map nth) (nth [4, 6]) := .one (by simp)
  have h2 : Gen (· ∈ [[4, 6], [6, 9]].map nth) (nth [6, 9]) := .one (by simp)
  have h3 : Gen (· ∈ [[4, 6], [6, 9]].map nth) (nth [2, 3]) := (h2.addMul (-1) h1).cast fun i => by rw [nth46, nth69]; omega
  constructor
  · intro h
    induction h with
    | zero => exact .zero
    | step v r c _ hr ih =>
      obtain ⟨q, -, hq⟩ := hr
      unfold exL at hq; split at hq
      · injection hq with hq; subst hq; exact ih.addMul c h3
      · cases hq
  · intro h
    induction h with
    | zero => exact .zero
    | step v r c _ hr ih =>
      simp only [List.map_cons, List.map_nil, List.mem_cons, List.not_mem_nil, or_false] at hr
      rcases hr with rfl | rfl
      · exact (ih.addMul (2 * c) hg).cast fun i => by rw [nth46]; rw [Int.mul_comm 2 c, Int.mul_assoc]
      · exact (ih.addMul (3 * c) hg).cast fun i => by rw [nth69]; rw [Int.mul_comm 3 c, Int.mul_assoc]
theorem ex_rows {rows : Lt} (h : Ech 2 rows) (hr : Red rows) (hg : ∀ x, Gen (From rows 0) x ↔ Gen (· ∈ [[4, 6], [6, 9]].map nth) x) : rowsOf rows 2 = [nth [2, 3]] := by
  have hs := h.same exL_ech hr exL_red (fun v => (hg v).trans (ex_gen v).symm)
  have : rows = exL := funext hs
  subst this
  rfl
def exA : List (List Int) := [[1, 2], [3, 1]]
theorem exQ : qA exA 0 0 = 1 ∧ qA exA 0 1 = 2 ∧ qA exA 1 0 = 3 ∧ qA exA 1 1 = 1 ∧ qB [4, 6] 0 = 4 ∧ qB [4, 6] 1 = 6 ∧ qB [1, 1] 0 = 1 ∧ qB [1, 1] 1 = 1 := ⟨rfl, rfl, rfl, rfl, rfl, rfl, rfl, rfl⟩
theorem sum2 (f : Nat → Rat) : sumTo 2 f = f 0 + f 1 := by simp only [sumTo]; grind
theorem ex_found {x y : Nat → Rat} (h : EndFound (qA exA) (qB [4, 6]) (qB [1, 1]) 2 2 x y) : 5 * x 0 = 8 ∧ 5 * x 1 = 6 := by
  obtain ⟨e1, e2, e3, e4, e5, e6, e7, e8⟩ := exQ
  have g0 := h.feas.ge 0 (by omega)
  have g1 := h.feas.ge 1 (by omega)
  have n0 := h.nn 0 (by omega)
  have n1 := h.nn 1 (by omega)
  have l0 := h.le 0 (by omega)
  have l1 := h.le 1 (by omega)
  have lv := h.level
  simp only [sum2, e1, e2, e3, e4, e5, e6, e7, e8] at g0 g1 l0 l1 lv
  generalize x 0 = x0 at *
  generalize x 1 = x1 at *
  generalize y 0 = y0 at *
  generalize y 1 = y1 at *
  clear h e1 e2 e3 e4 e5 e6 e7 e8
  have a1 : 4 * y0 + 6 * y1 ≤ 14 / 5 := by grind
  constructor <;> grind
theorem ex_empty {y : Nat → Rat} (h : EndEmpty (qA exA) (qB [4, 6]) 2 2 y) : False := by
  obtain ⟨e1, e2, e3, e4, e5, e6, e7, e8⟩ := exQ
  have n0 := h.nn 0 (by omega)
  have n1 := h.nn 1 (by omega)
  have l0 := h.le 0 (by omega)
  have l1 := h.le 1 (by omega)
  have ps := h.pos
  simp only [sum2, e1, e2, e3, e4, e5, e6] at l0 l1 ps
  generalize y 0 = y0 at *
  generalize y 1 = y1 at *
  grind
theorem ex_free {x : Nat → Rat} (h : EndFree (qA exA) (qB [4, 6]) (qB [1, 1]) 2 2 x) : False := by
  obtain ⟨e1, e2, e3, e4, e5, e6, e7, e8⟩ := exQ
  have n0 := h.nn 0 (by omega)
  have n1 := h.nn 1 (by omega)
  have fl := h.falls
  simp only [sum2, e7, e8] at fl
  generalize x 0 = x0 at *
  generalize x 1 = x1 at *
  grind
theorem ex_point {xs : List Int} {d : Int} {x : Nat → Rat} (h : PtOf xs d 2 x) (h0 : 5 * x 0 = 8) (h1 : 5 * x 1 = 6) : xs = [8, 6] ∧ d = 5 := by
  have v0 := h.val 0 (by omega)
  have v1 := h.val 1 (by omega)
  have hl := h.len
  match xs, hl with
  | [a, b], _ =>
    have e0 : nth [a, b] 0 = a := rfl
    have e1 : nth [a, b] 1 = b := rfl
    rw [e0] at v0; rw [e1] at v1
    have i0 : 5 * a = 8 * d := by
      have : ((5 * a : Int) : Rat) = ((8 * d : Int) : Rat) := by rw [Rat.intCast_mul, Rat.intCast_mul, v0]; grind
      exact Rat.intCast_inj.1 this
    have i1 : 5 * b = 6 * d := by
      have : ((5 * b : Int) : Rat) = ((6 * d : Int) : Rat) := by rw [Rat.intCast_mul, Rat.intCast_mul, v1]; grind
      exact Rat.intCast_inj.1 this
    have hd := h.d1
    obtain ⟨k, hk⟩ : ∃ k : Nat, d = 5 * (k : Int) := ⟨(d / 5).toNat, by omega⟩
    have ha : a = 8 * (k : Int) := by omega
    have hb : b = 6 * (k : Int) := by omega
    have hlow := h.low
    have hk1 : k ∣ gcdN d [a, b] 2 := by
      have q0 : (nth [a, b] 0).natAbs = 8 * k := by rw [e0, ha]; omega
      have q1 : (nth [a, b] 1).natAbs = 6 * k := by rw [e1, hb]; omega
      simp only [gcdN]
      rw [q0, q1]
      exact Nat.dvd_gcd (Nat.dvd_gcd ⟨5, by rw [hk]; omega⟩ ⟨8, by omega⟩) ⟨6, by omega⟩
    rw [hlow] at hk1
    have : k = 1 := Nat.dvd_one.1 hk1
    subst this
    exact ⟨by rw [ha, hb]; rfl, by omega⟩
end Go.Proofs.YtkljafmdbajfeaaGreatDoor

/- tinplatelaw01.alive. -/
namespace Go.Proofs.YtkljafmdbajfeaaGreatDoor
open Go.RowKit
open Lp (Lt V Ech Gen From Red pivots EndFound)
set_option linter.unusedVariables false
set_option linter.unusedSimpArgs false
theorem ints2 {w : World} {g : Nat} {a b : Int} {T : TypeId} (h : Blk w g [.int .i64 a, .int .i64 b] T) : Ints w (some ⟨g, 0, none⟩) [a, b] := fun i hi => by
  refine ⟨g, 0, rfl, ?_⟩
  rw [Nat.zero_add]
  have h1 : i = 0 ∨ i = 1 := by simp at hi; omega
  rcases h1 with rfl | rfl
  · exact h.cell 0 (by simp)
  · exact h.cell 1 (by simp)
theorem grid2 {w : World} {g g0 g1 : Nat} {T : TypeId} {a b c d : Int} {T0 T1 : TypeId} (h : Blk w g [.slice (some ⟨g0, 0, none⟩) 2 2, .slice (some ⟨g1, 0, none⟩) 2 2] T) (h0 : Blk w g0 [.int .i64 a, .int .i64 b] T0) (h1 : Blk w g1 [.int .i64 c, .int .i64 d] T1) :
    Grid w (some ⟨g, 0, none⟩) [[a, b], [c, d]] := fun i hi => by
  have h3 : i = 0 ∨ i = 1 := by simp at hi; omega
  rcases h3 with rfl | rfl
  · exact ⟨g, 0, _, 2, rfl, by rw [Nat.zero_add]; exact h.cell 0 (by simp), Nat.le_refl _, ints2 h0⟩
  · exact ⟨g, 0, _, 2, rfl, by rw [Nat.zero_add]; exact h.cell 1 (by simp), Nat.le_refl _, ints2 h1⟩
theorem ex_hermite {w w' : World} {v : Value} {rows : Lt} (h : HermiteV w w' v [[4, 6], [6, 9]] 2 rows) : ∃ gr c g, v = .slice (some ⟨gr, 0, none⟩) 1 c ∧ w'.cell? ⟨gr, 0, none⟩ = some (.slice (some ⟨g, 0, none⟩) 2 2) ∧ IBlk w' g [2, 3] := by
  have hr := ex_rows h.ech h.red h.gen
  have hg := h.grid
  rw [hr] at hg
  obtain ⟨gs, h1, h2, -, h3⟩ := hg.ex
  match gs, h1 with
  | [g], _ =>
    obtain ⟨hf, _, hI⟩ := h3 0 (by simp)
    rcases h2.2 with ⟨-, h0⟩ | ⟨gr, cap, cur, rfl, _⟩
    · simp at h0
    · have hI2 : IBlk w' g (intsTo (nth [2, 3]) 2 2) := hI
      rw [show intsTo (nth [2, 3]) 2 2 = [2, 3] by
        show [wrap64 (nth [2, 3] 0), wrap64 (nth [2, 3] 1)] = [2, 3]
        rw [wrap64_small (by decide), wrap64_small (by decide)]; rfl] at hI2
      refine ⟨gr, cap, g, rfl, ?_, hI2⟩
      rw [h2.cellAt 0 (by simp)]; rfl
set_option maxRecDepth 100000 in
set_option maxHeartbeats 4000000 in
theorem alive_calls (w : World) (hc : TabOk 0 costsO w) :
    Calls Tryz.prog 15 #[] w fun e w' => e = .returned (.bool true) ∧ Below w.heap.size w w' := by
  obtain ⟨g0, hg0⟩ : ∃ g0, w.heap.size = g0 := ⟨_, rfl⟩
  obtain ⟨wa, hwa⟩ : ∃ wa, w.alloc (.cells #[.int .i64 4, .int .i64 6] 3 (0, 0)) = wa := ⟨_, rfl⟩
  obtain ⟨wb, hwb⟩ : ∃ wb, wa.alloc (.cells #[.int .i64 6, .int .i64 9] 3 (0, 0)) = wb := ⟨_, rfl⟩
  obtain ⟨wc, hwc⟩ : ∃ wc, wb.alloc (.cells #[.slice (some ⟨g0, 0, none⟩) 2 2, .slice (some ⟨g0 + 1, 0, none⟩) 2 2] 23 (0, 0)) = wc := ⟨_, rfl⟩
  have sa : wa.heap.size = g0 + 1 := by rw [← hwa]; simp [hg0]
  have sb : wb.heap.size = g0 + 1 + 1 := by rw [← hwb]; simp [sa]
  have ba : Blk wa g0 [.int .i64 4, .int .i64 6] 3 := by rw [← hwa, ← hg0]; exact Blk.new _ _ _
  have bb : Blk wb (g0 + 1) [.int .i64 6, .int .i64 9] 3 := by rw [← hwb, ← sa]; exact Blk.new _ _ _
  have bc : Blk wc (g0 + 1 + 1) [.slice (some ⟨g0, 0, none⟩) 2 2, .slice (some ⟨g0 + 1, 0, none⟩) 2 2] 23 := by rw [← hwc, ← sb]; exact Blk.new _ _ _
  have eb : Below wa.heap.size wa wb := by rw [← hwb]; exact (Below.refl _ _).alloc (Nat.le_refl _) _
  have ec : Below wb.heap.size wb wc := by rw [← hwc]; exact (Below.refl _ _).alloc (Nat.le_refl _) _
  have ea : Below w.heap.size w wa := by rw [← hwa]; exact (Below.refl _ _).alloc (Nat.le_refl _) _
  have e3 : Below w.heap.size w wc := (ea.trans (eb.mono (by omega))).trans (ec.mono (by omega))
  have hgr := grid2 bc ((ba.ext eb).ext ec) (bb.ext ec)
  have hh : Calls Tryz.prog 31 #[.slice (some ⟨g0 + 1 + 1, 0, none⟩) 2 2, .int .i64 2] wc fun e w' => ∃ v rows, e = .returned (.tuple #[v, .int .i64 0]) ∧ HermiteV wc w' v [[4, 6], [6, 9]] 2 rows := hermite_good _ 2 2 [[4, 6], [6, 9]] wc hgr (by decide)
  have HH := Lib.hid hh; have HE3 := Lib.hid e3; have HC := Lib.hid hc
  clear hh hgr ba bb bc eb ec ea e3 hc
  have HW := Lib.hid (And.intro hwa (And.intro hwb hwc)); have HS := Lib.hid (And.intro sa sb)
  have HG := Lib.hid hg0
  clear hwa hwb hwc sa sb hg0
  go_enter Tryz.func15, Tryz.ntmps15
  go_wp2_with fail
  rw [HG.out, HW.out.1, HW.out.2.1, HW.out.2.2]
  refine HH.out.mono ?_; rintro e w1 ⟨v, rows, rfl, hv⟩
  obtain ⟨gr, cr, g, rfl, hgc, hgi⟩ := ex_hermite hv
  have HB1 := Lib.hid (HE3.out.trans (hv.below.mono HE3.out.size)); have HGC := Lib.hid hgc; have HGI := Lib.hid hgi
  clear hv hgc hgi HH HW HS HG
  obtain ⟨k0, hk0⟩ : ∃ k0, w1.heap.size = k0 := ⟨_, rfl⟩
  obtain ⟨va, hva⟩ : ∃ va, w1.alloc (.cells #[.int .i64 1, .int .i64 2] 3 (0, 0)) = va := ⟨_, rfl⟩
  obtain ⟨vb, hvb⟩ : ∃ vb, va.alloc (.cells #[.int .i64 3, .int .i64 1] 3 (0, 0)) = vb := ⟨_, rfl⟩
  obtain ⟨vc, hvc⟩ : ∃ vc, vb.alloc (.cells #[.slice (some ⟨k0, 0, none⟩) 2 2, .slice (some ⟨k0 + 1, 0, none⟩) 2 2] 23 (0, 0)) = vc := ⟨_, rfl⟩
  obtain ⟨vd, hvd⟩ : ∃ vd, vc.alloc (.cells #[.int .i64 4, .int .i64 6] 3 (0, 0)) = vd := ⟨_, rfl⟩
  obtain ⟨ve, hve⟩ : ∃ ve, vd.alloc (.cells #[.int .i64 1, .int .i64 1] 3 (0, 0)) = ve := ⟨_, rfl⟩
  have sa : va.heap.size = k0 + 1 := by rw [← hva]; simp [hk0]
  have sb : vb.heap.size = k0 + 1 + 1 := by rw [← hvb]; simp [sa]
  have sc : vc.heap.size = k0 + 1 + 1 + 1 := by rw [← hvc]; simp [sb]
  have sd : vd.heap.size = k0 + 1 + 1 + 1 + 1 := by rw [← hvd]; simp [sc]
  have ba : Blk va k0 [.int .i64 1, .int .i64 2] 3 := by rw [← hva, ← hk0]; exact Blk.new _ _ _
  have bb : Blk vb (k0 + 1) [.int .i64 3, .int .i64 1] 3 := by rw [← hvb, ← sa]; exact Blk.new _ _ _
  have bc : Blk vc (k0 + 1 + 1) [.slice (some ⟨k0, 0, none⟩) 2 2, .slice (some ⟨k0 + 1, 0, none⟩) 2 2] 23 := by rw [← hvc, ← sb]; exact Blk.new _ _ _
  have bd : Blk vd (k0 + 1 + 1 + 1) [.int .i64 4, .int .i64 6] 3 := by rw [← hvd, ← sc]; exact Blk.new _ _ _
  have be : Blk ve (k0 + 1 + 1 + 1 + 1) [.int .i64 1, .int .i64 1] 3 := by rw [← hve, ← sd]; exact Blk.new _ _ _
  have ea : Below w1.heap.size w1 va := by rw [← hva]; exact (Below.refl _ _).alloc (Nat.le_refl _) _
  have eb : Below va.heap.size va vb := by rw [← hvb]; exact (Below.refl _ _).alloc (Nat.le_refl _) _
  have ec : Below vb.heap.size vb vc := by rw [← hvc]; exact (Below.refl _ _).alloc (Nat.le_refl _) _
  have ed : Below vc.heap.size vc vd := by rw [← hvd]; exact (Below.refl _ _).alloc (Nat.le_refl _) _
  have ee : Below vd.heap.size vd ve := by rw [← hve]; exact (Below.refl _ _).alloc (Nat.le_refl _) _
  have e15 : Below w1.heap.size w1 ve := (((ea.trans (eb.mono (by omega))).trans (ec.mono (by omega))).trans (ed.mono (by omega))).trans (ee.mono (by omega))
  have hgr := grid2 ((bc.ext ed).ext ee) ((((ba.ext eb).ext ec).ext ed).ext ee) (((bb.ext ec).ext ed).ext ee)
  have hp3 : Prog3 ve (some ⟨k0 + 1 + 1, 0, none⟩) (some ⟨k0 + 1 + 1 + 1, 0, none⟩) (some ⟨k0 + 1 + 1 + 1 + 1, 0, none⟩) exA [4, 6] [1, 1] := ⟨hgr, ints2 (bd.ext ee), ints2 be, by decide, by decide, by decide, by decide⟩
  have hmin : Calls Tryz.prog 16 #[.agg #[.slice (some ⟨k0 + 1 + 1, 0, none⟩) 2 2, .slice (some ⟨k0 + 1 + 1 + 1, 0, none⟩) 2 2, .slice (some ⟨k0 + 1 + 1 + 1 + 1, 0, none⟩) 2 2]] ve fun e w' => OfPost exA [4, 6] [1, 1] 0 costsO true ve w' e ∧ Below ve.heap.size ve w' :=
    minimum_calls _ _ _ 2 2 2 exA [4, 6] [1, 1] ve hp3 (HC.out.ext (HB1.out.trans (e15.mono HB1.out.size)))
  have HM := Lib.hid hmin
  have HB2 := Lib.hid (HB1.out.trans (e15.mono HB1.out.size)); have HGC2 := Lib.hid (((bcell e15).1 _ _ (cell_lt HGC.out)).trans HGC.out); have HGI2 := Lib.hid (Blk.ext HGI.out e15)
  clear hp3 hmin hgr ba bb bc bd be ea eb ec ed ee e15 sa sb sc sd HB1 HGC HGI HE3 HC
  have HV := Lib.hid (And.intro hva (And.intro hvb (And.intro hvc (And.intro hvd hve)))); have HK := Lib.hid hk0
  clear hva hvb hvc hvd hve hk0
  go_wp2_with fail
  rw [HK.out, HV.out.1, HV.out.2.1, HV.out.2.2.1, HV.out.2.2.2.1, HV.out.2.2.2.2]
  refine HM.out.mono ?_; rintro e w2 ⟨hpost, hb2⟩
  obtain ⟨pg, rfl, hpi⟩ : ∃ pg, e = .returned (.tuple #[.agg #[.slice (some ⟨pg, 0, none⟩) 2 2, .int .i64 5], .int .i64 0]) ∧ IBlk w2 pg [8, 6] := by
    rcases hpost with ⟨h1, -⟩ | ⟨-, s, x, y, hs3, hq, h5⟩
    · exact absurd h1 (by decide)
    · have hs0 : s = 0 ∧ EndFound (qA exA) (qB [4, 6]) (qB [1, 1]) 2 2 x y := by
        rcases hq with ⟨e, h, -⟩ | ⟨-, h, -⟩ | ⟨-, h, -⟩
        · exact ⟨e, h⟩
        · exact (ex_empty h).elim
        · exact (ex_free h).elim
      obtain ⟨rfl, hf⟩ := hs0
      obtain ⟨x0, x1⟩ := ex_found hf
      rcases h5 with ⟨h5, -⟩ | ⟨-, pg, xs, d, h6, -, h8, h9⟩
      · exact absurd rfl h5
      · obtain ⟨rfl, rfl⟩ := ex_point h9 x0 x1
        exact ⟨pg, h6, h8⟩
  have HB3 := Lib.hid (HB2.out.trans (hb2.mono HB2.out.size)); have HGC3 := Lib.hid (((bcell hb2).1 _ _ (cell_lt HGC2.out)).trans HGC2.out); have HGI3 := Lib.hid (Blk.ext HGI2.out hb2); have HPI := Lib.hid hpi
  clear hpost hb2 hpi HM HV HK HB2 HGC2 HGI2
  have HGG := Lib.hid (IBlk.ints (show IBlk w2 g [2, 3] from HGI3.out)); have HPP := Lib.hid (HPI.out.ints)
  have hgc := HGC3.out
  have hA1 : Below w2.heap.size w2 (w2.alloc (.cells #[.slice (some ⟨pg, 0, none⟩) 2 2, .int .i64 5] 29 (0, 0))) := (Below.refl _ _).alloc (Nat.le_refl _) _
  obtain ⟨w3, hw3⟩ : ∃ w3, w2.alloc (.cells #[.slice (some ⟨pg, 0, none⟩) 2 2, .int .i64 5] 29 (0, 0)) = w3 := ⟨_, rfl⟩
  rw [hw3] at hA1
  have bp : Blk w3 w2.heap.size [.slice (some ⟨pg, 0, none⟩) 2 2, .int .i64 5] 29 := by rw [← hw3]; exact Blk.new _ _ _
  obtain ⟨w4, hw4⟩ : ∃ w4, w3.alloc (.cells #[.int .i64 2, .int .i64 3] 3 (0, 0)) = w4 := ⟨_, rfl⟩
  have hA2 : Below w3.heap.size w3 w4 := by rw [← hw4]; exact (Below.refl _ _).alloc (Nat.le_refl _) _
  have b23 : Blk w4 w3.heap.size [.int .i64 2, .int .i64 3] 3 := by rw [← hw4]; exact Blk.new _ _ _
  have hsame : Calls Tryz.prog 36 #[.slice (some ⟨g, 0, none⟩) 2 2, .slice (some ⟨w3.heap.size, 0, none⟩) 2 2] w4 fun e w' => e = .returned (.bool (sameB [2, 3] [2, 3])) ∧ ∃ k, w' = w4.drewN k := same_calls _ _ 2 2 [2, 3] [2, 3] w4 (by decide) (by decide) ((HGG.out.ext hA1).ext hA2) (ints2 b23)
  rw [show sameB [2, 3] [2, 3] = true by decide] at hsame
  have HS1 := Lib.hid hsame
  have hgc3 := ((bcell hA1).1 _ _ (cell_lt hgc)).trans hgc
  have HW3 := Lib.hid hw3; have HW4 := Lib.hid hw4; have HA1 := Lib.hid hA1; have HA2 := Lib.hid hA2; have HBP := Lib.hid bp
  rw [← hw3] at hgc3
  clear hgc hA1 hA2 bp b23 hsame hw3 hw4
  have hsz3 : w2.heap.size + 1 = w3.heap.size := by rw [← HW3.out]; simp
  go_wp2_with fail
  rw [HW3.out, HW4.out]
  refine HS1.out.mono ?_; rintro e w5 ⟨rfl, kd, hw5⟩
  have e45 : Below w4.heap.size w4 w5 := by rw [hw5]; exact drewN_below _ _
  have bp5 := (HBP.out.ext HA2.out).ext e45
  obtain ⟨pp, hpp⟩ : ∃ pp, w2.heap.size = pp := ⟨_, rfl⟩
  rw [hpp] at bp5 ⊢
  have c0 := bp5.cell 0 (by simp)
  have c1 := bp5.cell 1 (by simp)
  simp only [List.getElem_cons_zero, List.getElem_cons_succ] at c0 c1
  have e25 : Below w2.heap.size w2 w5 := (HA1.out.trans (HA2.out.mono HA1.out.size)).trans (e45.mono (by have := HA1.out.size; have := HA2.out.size; omega))
  obtain ⟨w6, hw6⟩ : ∃ w6, w5.alloc (.cells #[.int .i64 8, .int .i64 6] 3 (0, 0)) = w6 := ⟨_, rfl⟩
  have hA6 : Below w5.heap.size w5 w6 := by rw [← hw6]; exact (Below.refl _ _).alloc (Nat.le_refl _) _
  have b86 : Blk w6 w5.heap.size [.int .i64 8, .int .i64 6] 3 := by rw [← hw6]; exact Blk.new _ _ _
  have hsame : Calls Tryz.prog 36 #[.slice (some ⟨pg, 0, none⟩) 2 2, .slice (some ⟨w5.heap.size, 0, none⟩) 2 2] w6 fun e w' => e = .returned (.bool (sameB [8, 6] [8, 6])) ∧ ∃ k, w' = w6.drewN k := same_calls _ _ 2 2 [8, 6] [8, 6] w6 (by decide) (by decide) ((HPP.out.ext e25).ext hA6) (ints2 b86)
  rw [show sameB [8, 6] [8, 6] = true by decide] at hsame
  have HS2 := Lib.hid hsame
  have HB6 := Lib.hid ((HB3.out.trans (e25.mono HB3.out.size)).trans (hA6.mono (by have := HB3.out.size; have := e25.size; omega)))
  have HW6 := Lib.hid hw6
  clear hw5 e45 bp5 hpp e25 hA6 b86 hsame hgc3 hsz3 HS1 hw6
  go_wp2_with fail
  rw [HW6.out]
  refine HS2.out.mono ?_; rintro e w7 ⟨rfl, kd2, hw7⟩
  have HB7 : Hid (Below w.heap.size w w7) := Lib.hid (by rw [hw7]; exact HB6.out.trans ((drewN_below w6 kd2).mono HB6.out.size))
  clear hw7 c0 c1
  go_wp2
  go_ret
  exact ⟨rfl, HB7.out⟩
end Go.Proofs.YtkljafmdbajfeaaGreatDoor
