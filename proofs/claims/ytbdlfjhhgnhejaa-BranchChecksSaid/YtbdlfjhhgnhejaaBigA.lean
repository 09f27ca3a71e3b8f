/- Package big: digits in memory; trim, compare, small, of, Sign, set. -/
import Derived.Test.YtbdlfjhhgnhejaaDig
import Derived.Test.YtbdlfjhhgnhejaaFr
namespace Go.Proofs.Ytbdlfjhhgnhejaa
open Go.RowKit
set_option linter.unusedVariables false
set_option linter.unusedSimpArgs false

/-- The digits ds lie in w from A on. -/
def Wds (w : World) (A : Option Addr) (ds : List Nat) : Prop :=
  ∀ i, i < ds.length → ∃ b off, A = some ⟨b, off, none⟩ ∧ w.cell? ⟨b, off + i, none⟩ = some (.int .u32 (nthd ds i : Nat))
theorem Wds.ext {w w' : World} {A : Option Addr} {ds : List Nat} (h : Wds w A ds) (hb : Below w.heap.size w w') : Wds w' A ds := fun i hi => by
  obtain ⟨b, off, e, hc⟩ := h i hi
  exact ⟨b, off, e, by rw [hb.cell (cell_lt hc)]; exact hc⟩
theorem Wds.take {w : World} {A : Option Addr} {ds : List Nat} (h : Wds w A ds) (k : Nat) : Wds w A (ds.take k) := fun i hi => by
  rw [List.length_take] at hi
  obtain ⟨b, off, e, hc⟩ := h i (by omega)
  refine ⟨b, off, e, ?_⟩
  rw [hc]; congr 3; unfold nthd; simp [List.getElem?_take, show i < k by omega]

theorem trimL_snoc0 : ∀ l : List Nat, trimL (l ++ [0]) = trimL l
  | [] => by simp [trimL]
  | d :: l => by simp only [List.cons_append, trimL, trimL_snoc0 l]
theorem trimL_snoc : ∀ (l : List Nat) {d : Nat}, d ≠ 0 → trimL (l ++ [d]) = l ++ [d]
  | [], d, h => by simp [trimL, h]
  | x :: l, d, h => by simp only [List.cons_append, trimL, trimL_snoc l h]; rw [if_neg (by simp)]

set_option maxHeartbeats 400000 in
theorem trim_calls (A : Option Addr) (c : Nat) (ds : List Nat) (w : World) (hc : ds.length ≤ c) (hm : c ≤ maxLen) (hA : Wds w A ds) :
    Calls Try.prog 81 #[.slice A ds.length c] w fun e w' => ∃ n, e = .returned (.slice A n c) ∧ n ≤ ds.length ∧ ds.take n = trimL ds ∧ w' = w := by
  unfold maxLen at hm
  go_enter Try.func81, Try.ntmps81
  go_wp2
  go_loop [3] (fun i => ∃ n : Nat, n ≤ ds.length ∧ i = .int .i64 n ∧ trimL (ds.take n) = trimL ds) (fun i => (intOf i).toNat)
  case atStart => exact ⟨ds.length, Nat.le_refl _, rfl, by rw [List.take_length]⟩
  case round =>
    obtain ⟨n, hn, rfl, ht⟩ := hrel
    have HT := Lib.hid ht; clear ht
    cases n with
    | zero =>
      go_wp2
      go_ret
      exact ⟨0, rfl, by omega, by rw [← HT.out]; rfl, rfl⟩
    | succ n =>
      obtain ⟨b, off, rfl, g⟩ := hA n (by omega)
      have htk := take_nthd (ds := ds) (i := n) (by omega)
      have HK := Lib.hid htk; clear htk
      have ec : ((n + 1 : Nat) : Int) = (n : Int) + 1 := by push_cast; rfl
      rw [ec]
      clear ec
      have hl : (n : Int) < ds.length := by omega
      cases hd : nthd ds n with
      | zero =>
        rw [hd] at g
        have HD := Lib.hid hd; clear hd
        go_wp2
        go_round
        case rel => exact ⟨n, by omega, by go_num, by rw [← HT.out, HK.out, HD.out, trimL_snoc0]⟩
        case measure => simp [intOf] <;> omega
      | succ d =>
        rw [hd] at g
        have HD := Lib.hid hd; clear hd
        have e0 : (((d + 1 : Nat) : Int) == 0) = false := by simp; omega
        go_wp2
        go_ret
        exact ⟨n + 1, by first | rfl | (push_cast; rfl), by omega, by rw [← HT.out, HK.out, HD.out, trimL_snoc _ (by omega)], rfl⟩

/-- -1, 0 or 1. -/
def sgn (x y : Nat) : Int := if x < y then -1 else if y < x then 1 else 0
def sgnI (x y : Int) : Int := if x < y then -1 else if y < x then 1 else 0
theorem sgnI_lt {x y : Int} (h : x < y) : sgnI x y = -1 := by unfold sgnI; rw [if_pos h]
theorem sgnI_gt {x y : Int} (h : y < x) : sgnI x y = 1 := by unfold sgnI; rw [if_neg (by omega), if_pos h]
theorem sgnI_eq {x y : Int} (h : x = y) : sgnI x y = 0 := by unfold sgnI; rw [if_neg (by omega), if_neg (by omega)]
theorem sgn_lt {x y : Nat} (h : x < y) : sgn x y = -1 := by unfold sgn; rw [if_pos h]
theorem sgn_gt {x y : Nat} (h : y < x) : sgn x y = 1 := by unfold sgn; rw [if_neg (by omega), if_pos h]
theorem sgn_eq {x y : Nat} (h : x = y) : sgn x y = 0 := by unfold sgn; rw [if_neg (by omega), if_neg (by omega)]

set_option maxHeartbeats 400000 in
theorem cmpInt_calls (x y : Int) (w : World) :
    Calls Try.prog 66 #[.int .i64 x, .int .i64 y] w fun e w' => e = .returned (.int .i64 (sgnI x y)) ∧ w' = w := by
  by_cases h1 : x < y
  · have d1 : decide (x < y) = true := decide_eq_true h1
    go_enter Try.func66, Try.ntmps66
    go_wp2
    go_ret
    exact ⟨by rw [sgnI_lt h1]; rfl, rfl⟩
  · have d1 : decide (x < y) = false := decide_eq_false h1
    by_cases h2 : y < x
    · have d2 : decide (y < x) = true := decide_eq_true h2
      go_enter Try.func66, Try.ntmps66
      go_wp2
      go_ret
      exact ⟨by rw [sgnI_gt h2]; rfl, rfl⟩
    · have d2 : decide (y < x) = false := decide_eq_false h2
      go_enter Try.func66, Try.ntmps66
      go_wp2
      go_ret
      exact ⟨by rw [sgnI_eq (by omega)]; rfl, rfl⟩

set_option maxHeartbeats 400000 in
theorem cmpU32_calls (x y : Nat) (w : World) :
    Calls Try.prog 82 #[.int .u32 x, .int .u32 y] w fun e w' => e = .returned (.int .i64 (sgn x y)) ∧ w' = w := by
  by_cases h1 : x < y
  · have d1 : decide ((x : Int) < y) = true := decide_eq_true (by omega)
    go_enter Try.func82, Try.ntmps82
    go_wp2
    go_ret
    exact ⟨by rw [sgn_lt h1]; rfl, rfl⟩
  · have d1 : decide ((x : Int) < y) = false := decide_eq_false (by omega)
    by_cases h2 : y < x
    · have d2 : decide ((y : Int) < x) = true := decide_eq_true (by omega)
      go_enter Try.func82, Try.ntmps82
      go_wp2
      go_ret
      exact ⟨by rw [sgn_gt h2]; rfl, rfl⟩
    · have d2 : decide ((y : Int) < x) = false := decide_eq_false (by omega)
      go_enter Try.func82, Try.ntmps82
      go_wp2
      go_ret
      exact ⟨by rw [sgn_eq (by omega)]; rfl, rfl⟩

theorem cmpU32_q (x y : Nat) (w : World) (n m : Nat) :
    Calls Try.prog 82 #[.int .u32 x, .int .u32 y] (w.drewN (n + m)) fun e w' => e = .returned (.int .i64 (sgn x y)) ∧ ∃ m, w' = w.drewN (n + m) :=
  (cmpU32_calls x y _).mono fun e w' ⟨he, hw⟩ => ⟨he, m, hw⟩
theorem nthd_eq_drop {a b : List Nat} {i : Nat} (ha : i < a.length) (hb : i < b.length) (h : nthd a i = nthd b i) (hd : a.drop (i + 1) = b.drop (i + 1)) : a.drop i = b.drop i := by
  rw [drop_nthd ha, drop_nthd hb, h, hd]

set_option maxHeartbeats 1000000 in
theorem compare_calls (A B : Option Addr) (ca cb : Nat) (n m : Nat) (w : World) (hn : (digits n).length ≤ maxLen) (hm : (digits m).length ≤ maxLen) (hA : Wds w A (digits n)) (hB : Wds w B (digits m)) :
    Calls Try.prog 65 #[.slice A (digits n).length ca, .slice B (digits m).length cb] w fun e w' => e = .returned (.int .i64 (sgn n m)) ∧ ∃ k, w' = w.drewN k := by
  unfold maxLen at hn hm
  by_cases hl : (digits n).length < (digits m).length
  · have hlt := digits_len_lt hl
    go_enter Try.func65, Try.ntmps65
    go_wp2_with fail
    refine (cmpInt_calls _ _ _).mono ?_; rw [sgnI_lt (by omega)]; rintro e w' ⟨rfl, rfl⟩
    go_wp2
    go_ret
    exact ⟨by rw [sgn_lt hlt]; rfl, 0, rfl⟩
  · by_cases hg : (digits m).length < (digits n).length
    · have hlt := digits_len_lt hg
      go_enter Try.func65, Try.ntmps65
      go_wp2_with fail
      refine (cmpInt_calls _ _ _).mono ?_; rw [sgnI_gt (by omega)]; rintro e w' ⟨rfl, rfl⟩
      go_wp2
      go_ret
      exact ⟨by rw [sgn_gt hlt]; rfl, 0, rfl⟩
    · have he : (digits n).length = (digits m).length := by omega
      have HE := Lib.hid he; clear he
      go_enter Try.func65, Try.ntmps65
      go_wp2_with fail
      refine (cmpInt_calls _ _ _).mono ?_; rw [sgnI_eq (by omega)]; rintro e w' ⟨rfl, rfl⟩
      go_wp2
      go_loopw [6] (fun i wr => ∃ j k : Nat, j ≤ (digits n).length ∧ i = .int .i64 ((j : Int) - 1) ∧ (digits n).drop j = (digits m).drop j ∧ wr = w'.drewN k) (fun i _ => (intOf i + 1).toNat)
      case atStart => exact ⟨(digits n).length, 0, Nat.le_refl _, rfl, by rw [List.drop_length, HE.out, List.drop_length], rfl⟩
      case round =>
        obtain ⟨j, k, hj, rfl, hdr, rfl⟩ := hrel
        have HD := Lib.hid hdr; clear hdr
        cases j with
        | zero =>
          rw [show ((0 : Nat) : Int) - 1 = -1 from rfl]
          have hnm : n = m := by
            have := HD.out
            rw [List.drop_zero, List.drop_zero] at this
            rw [← val_digits n, this, val_digits]
          have HN := Lib.hid hnm; clear hnm
          go_wp2
          go_ret
          exact ⟨by rw [sgn_eq HN.out]; rfl, _, rfl⟩
        | succ j =>
          rw [show ((j + 1 : Nat) : Int) - 1 = j from by omega]
          obtain ⟨b1, o1, rfl, g1⟩ := hA j (by omega)
          obtain ⟨b2, o2, rfl, g2⟩ := hB j (by have := HE.out; omega)
          have hj0 : (0 : Int) ≤ j := by omega
          have hj1 : (j : Int) < (digits n).length := by omega
          have hj2 : (j : Int) < (digits m).length := by have := HE.out; omega
          by_cases hq : nthd (digits n) j = nthd (digits m) j
          · have q1 : ((nthd (digits n) j : Int) != (nthd (digits m) j : Int)) = false := by simp; omega
            have HQ := Lib.hid hq; clear hq
            go_wp2_with fail
            go_quiet (fail)
            go_wp2
            go_roundw
            case rel => exact ⟨j, _, by omega, rfl, nthd_eq_drop (by omega) (by have := HE.out; omega) HQ.out HD.out, by first | rfl | exact drewN_add _ _ _⟩
            case measure => simp [intOf]
          · have q1 : ((nthd (digits n) j : Int) != (nthd (digits m) j : Int)) = true := by simp; omega
            have hs : sgn (nthd (digits n) j) (nthd (digits m) j) = sgn n m := by
              by_cases hlt : nthd (digits n) j < nthd (digits m) j
              · have := val_lt_of (digits_dig n) HE.out (by omega) HD.out hlt
                rw [val_digits, val_digits] at this
                rw [sgn_lt hlt, sgn_lt this]
              · have := val_lt_of (digits_dig m) HE.out.symm (by have := HE.out; omega) HD.out.symm (by omega : nthd (digits m) j < nthd (digits n) j)
                rw [val_digits, val_digits] at this
                rw [sgn_gt (by omega), sgn_gt this]
            have HS := Lib.hid hs; clear hs hq
            go_wp2_with fail
            go_quiet (fail)
            go_wp2_with fail
            go_quiet ((go_at_call 82; exact cmpU32_q _ _ _ _ _))
            go_wp2
            go_ret
            exact ⟨by rw [HS.out]; rfl, _, by first | rfl | simp [drewN_add]; rfl⟩
end Go.Proofs.Ytbdlfjhhgnhejaa
