/- Package big: digits in memory; trim, compare, small, of, Sign, set. -/
import Derived.Test.YtkljafmdbajfeaaGreatDoorReA00
namespace Go.Proofs.YtkljafmdbajfeaaGreatDoor
open Go.RowKit
set_option linter.unusedVariables false
set_option linter.unusedSimpArgs false
def Wds (w : World) (A : Option Addr) (ds : List Nat) : Prop :=
 ∀ i, i < ds.length → ∃ b off, A = some ⟨b, off, none⟩ ∧ w.cell? ⟨b, off + i, none⟩ = some (.int .u32 (nthd ds i : Nat))
theorem Wds.ext {w w' : World} {A : Option Addr} {ds : List Nat} (h : Wds w A ds) (hb : Below w.heap.size w w') : Wds w' A ds := fun i hi => by
 obtain ⟨b, off, e, hc⟩ := h i hi
 exact ⟨b, off, e, by rw [hb.cell (cell_lt hc)]; exact hc⟩
theorem Wds.take {w : World} {A : Option Addr} {ds : List Nat} (h : Wds w A ds) (k : Nat) : Wds w A (ds.take k) := fun i hi => by
 rw [List.length_take] at hi
 obtain ⟨b, off, e, hc⟩ := h i (by omega)
 refine ⟨b, off, e, ?_⟩
 rw [hc]; congr 3; unfold nthd; simp [List.getElem?_take, show i < k by omega]
theorem trimL_snoc0 : ∀ l : List Nat, trimL (l ++ [0]) = trimL l
 | [] => by simp [trimL]
 | d :: l => by simp only [List.cons_append, trimL, trimL_snoc0 l]
theorem trimL_snoc : ∀ (l : List Nat) {d : Nat}, d ≠ 0 → trimL (l ++ [d]) = l ++ [d]
 | [], d, h => by simp [trimL, h]
 | x :: l, d, h => by simp only [List.cons_append, trimL, trimL_snoc l h]; rw [if_neg (by simp)]
set_option maxHeartbeats 400000 in
theorem trim_calls (A : Option Addr) (c : Nat) (ds : List Nat) (w : World) (hc : ds.length ≤ c) (hm : c ≤ maxLen) (hA : Wds w A ds) :
  Calls Tryz.prog 224 #[.slice A ds.length c] w fun e w' => ∃ n, e = .returned (.slice A n c) ∧ n ≤ ds.length ∧ ds.take n = trimL ds ∧ w' = w := by
 unfold maxLen at hm
 go_enter Tryz.func224, Tryz.ntmps224
 go_wp2
 go_loop [3] (fun i => ∃ n : Nat, n ≤ ds.length ∧ i = .int .i64 n ∧ trimL (ds.take n) = trimL ds) (fun i => (intOf i).toNat)
 case atStart => exact ⟨ds.length, Nat.le_refl _, rfl, by rw [List.take_length]⟩
 case round =>
  obtain ⟨n, hn, rfl, ht⟩ := hrel
  have HT := Lib.hid ht; clear ht
  cases n with
  | zero =>
    go_wp2
    go_ret
    exact ⟨0, rfl, by omega, by rw [← HT.out]; rfl, rfl⟩
  | succ n =>
    obtain ⟨b, off, rfl, g⟩ := hA n (by omega)
    have htk := take_nthd (ds := ds) (i := n) (by omega)
    have HK := Lib.hid htk; clear htk
    have ec : ((n + 1 : Nat) : Int) = (n : Int) + 1 := by push_cast; rfl
    rw [ec]
    clear ec
    have hl : (n : Int) < ds.length := by omega
    cases hd : nthd ds n with
    | zero =>
      rw [hd] at g
      have HD := Lib.hid hd; clear hd
      go_wp2
      go_round
      case rel => exact ⟨n, by omega, by go_num, by rw [← HT.out, HK.out, HD.out, trimL_snoc0]⟩
      case measure => simp [intOf] <;> omega
    | succ d =>
      rw [hd] at g
      have HD := Lib.hid hd; clear hd
      have e0 : (((d + 1 : Nat) : Int) == 0) = false := by simp; omega
      go_wp2
      go_ret
      exact ⟨n + 1, by first | rfl | (push_cast; rfl), by omega, by rw [← HT.out, HK.out, HD.out, trimL_snoc _ (by omega)], rfl⟩
def sgn (x y : Nat) : Int := if x < y then -1 else if y < x then 1 else 0
def sgnI (x y : Int) : Int := if x < y then -1 else if y < x then 1 else 0
theorem sgnI_lt {x y : Int} (h : x < y) : sgnI x y = -1 := by unfold sgnI; rw [if_pos h]
theorem sgnI_gt {x y : Int} (h : y < x) : sgnI x y = 1 := by unfold sgnI; rw [if_neg (by omega), if_pos h]
theorem sgnI_eq {x y : Int} (h : x = y) : sgnI x y = 0 := by unfold sgnI; rw [if_neg (by omega), if_neg (by omega)]
theorem sgn_lt {x y : Nat} (h : x < y) : sgn x y = -1 := by unfold sgn; rw [if_pos h]
theorem sgn_gt {x y : Nat} (h : y < x) : sgn x y = 1 := by unfold sgn; rw [if_neg (by omega), if_pos h]
theorem sgn_eq {x y : Nat} (h : x = y) : sgn x y = 0 := by unfold sgn; rw [if_neg (by omega), if_neg (by omega)]
set_option maxHeartbeats 400000 in
theorem cmpInt_calls (x y : Int) (w : World) :
  Calls Tryz.prog 230 #[.int .i64 x, .int .i64 y] w fun e w' => e = .returned (.int .i64 (sgnI x y)) ∧ w' = w := by
 by_cases h1 : x < y
 ·have d1 : decide (x < y) = true := decide_eq_true h1
  go_enter Tryz.func230, Tryz.ntmps230
  go_wp2
  go_ret
  exact ⟨by rw [sgnI_lt h1]; rfl, rfl⟩
 ·have d1 : decide (x < y) = false := decide_eq_false h1
  by_cases h2 : y < x
  ·have d2 : decide (y < x) = true := decide_eq_true h2
   go_enter Tryz.func230, Tryz.ntmps230
   go_wp2
   go_ret
   exact ⟨by rw [sgnI_gt h2]; rfl, rfl⟩
  ·have d2 : decide (y < x) = false := decide_eq_false h2
   go_enter Tryz.func230, Tryz.ntmps230
   go_wp2
   go_ret
   exact ⟨by rw [sgnI_eq (by omega)]; rfl, rfl⟩
set_option maxHeartbeats 400000 in
theorem cmpU32_calls (x y : Nat) (w : World) :
  Calls Tryz.prog 231 #[.int .u32 x, .int .u32 y] w fun e w' => e = .returned (.int .i64 (sgn x y)) ∧ w' = w := by
 by_cases h1 : x < y
 ·have d1 : decide ((x : Int) < y) = true := decide_eq_true (by omega)
  go_enter Tryz.func231, Tryz.ntmps231
  go_wp2
  go_ret
  exact ⟨by rw [sgn_lt h1]; rfl, rfl⟩
 ·have d1 : decide ((x : Int) < y) = false := decide_eq_false (by omega)
  by_cases h2 : y < x
  ·have d2 : decide ((y : Int) < x) = true := decide_eq_true (by omega)
   go_enter Tryz.func231, Tryz.ntmps231
   go_wp2
   go_ret
   exact ⟨by rw [sgn_gt h2]; rfl, rfl⟩
  ·have d2 : decide ((y : Int) < x) = false := decide_eq_false (by omega)
   go_enter Tryz.func231, Tryz.ntmps231
   go_wp2
   go_ret
   exact ⟨by rw [sgn_eq (by omega)]; rfl, rfl⟩
theorem cmpU32_q (x y : Nat) (w : World) (n m : Nat) :
  Calls Tryz.prog 231 #[.int .u32 x, .int .u32 y] (w.drewN (n + m)) fun e w' => e = .returned (.int .i64 (sgn x y)) ∧ ∃ m, w' = w.drewN (n + m) :=
 (cmpU32_calls x y _).mono fun e w' ⟨he, hw⟩ => ⟨he, m, hw⟩
theorem nthd_eq_drop {a b : List Nat} {i : Nat} (ha : i < a.length) (hb : i < b.length) (h : nthd a i = nthd b i) (hd : a.drop (i + 1) = b.drop (i + 1)) : a.drop i = b.drop i := by
 rw [drop_nthd ha, drop_nthd hb, h, hd]
set_option maxHeartbeats 1000000 in
theorem compare_calls (A B : Option Addr) (ca cb : Nat) (n m : Nat) (w : World) (hn : (digits n).length ≤ maxLen) (hm : (digits m).length ≤ maxLen) (hA : Wds w A (digits n)) (hB : Wds w B (digits m)) :
  Calls Tryz.prog 208 #[.slice A (digits n).length ca, .slice B (digits m).length cb] w fun e w' => e = .returned (.int .i64 (sgn n m)) ∧ ∃ k, w' = w.drewN k := by
 unfold maxLen at hn hm
 by_cases hl : (digits n).length < (digits m).length
 ·have hlt := digits_len_lt hl
  go_enter Tryz.func208, Tryz.ntmps208
  go_wp2_with fail
  refine (cmpInt_calls _ _ _).mono ?_; rw [sgnI_lt (by omega)]; rintro e w' ⟨rfl, rfl⟩
  go_wp2
  go_ret
  exact ⟨by rw [sgn_lt hlt]; rfl, 0, rfl⟩
 ·by_cases hg : (digits m).length < (digits n).length
  ·have hlt := digits_len_lt hg
   go_enter Tryz.func208, Tryz.ntmps208
   go_wp2_with fail
   refine (cmpInt_calls _ _ _).mono ?_; rw [sgnI_gt (by omega)]; rintro e w' ⟨rfl, rfl⟩
   go_wp2
   go_ret
   exact ⟨by rw [sgn_gt hlt]; rfl, 0, rfl⟩
  ·have he : (digits n).length = (digits m).length := by omega
   have HE := Lib.hid he; clear he
   go_enter Tryz.func208, Tryz.ntmps208
   go_wp2_with fail
   refine (cmpInt_calls _ _ _).mono ?_; rw [sgnI_eq (by omega)]; rintro e w' ⟨rfl, rfl⟩
   go_wp2
   go_loopw [6] (fun i wr => ∃ j k : Nat, j ≤ (digits n).length ∧ i = .int .i64 ((j : Int) - 1) ∧ (digits n).drop j = (digits m).drop j ∧ wr = w'.drewN k) (fun i _ => (intOf i + 1).toNat)
   case atStart => exact ⟨(digits n).length, 0, Nat.le_refl _, rfl, by rw [List.drop_length, HE.out, List.drop_length], rfl⟩
   case round =>
    obtain ⟨j, k, hj, rfl, hdr, rfl⟩ := hrel
    have HD := Lib.hid hdr; clear hdr
    cases j with
    | zero =>
      rw [show ((0 : Nat) : Int) - 1 = -1 from rfl]
      have hnm : n = m := by
       have := HD.out
       rw [List.drop_zero, List.drop_zero] at this
       rw [← val_digits n, this, val_digits]
      have HN := Lib.hid hnm; clear hnm
      go_wp2
      go_ret
      exact ⟨by rw [sgn_eq HN.out]; rfl, _, rfl⟩
    | succ j =>
      rw [show ((j + 1 : Nat) : Int) - 1 = j from by omega]
      obtain ⟨b1, o1, rfl, g1⟩ := hA j (by omega)
      obtain ⟨b2, o2, rfl, g2⟩ := hB j (by have := HE.out; omega)
      have hj0 : (0 : Int) ≤ j := by omega
      have hj1 : (j : Int) < (digits n).length := by omega
      have hj2 : (j : Int) < (digits m).length := by have := HE.out; omega
      by_cases hq : nthd (digits n) j = nthd (digits m) j
      ·have q1 : ((nthd (digits n) j : Int) != (nthd (digits m) j : Int)) = false := by simp; omega
       have HQ := Lib.hid hq; clear hq
       go_wp2_with fail
       go_quiet (fail)
       go_wp2
       go_roundw
       case rel => exact ⟨j, _, by omega, rfl, nthd_eq_drop (by omega) (by have := HE.out; omega) HQ.out HD.out, by first | rfl | exact drewN_add _ _ _⟩
       case measure => simp [intOf]
      ·have q1 : ((nthd (digits n) j : Int) != (nthd (digits m) j : Int)) = true := by simp; omega
       have hs : sgn (nthd (digits n) j) (nthd (digits m) j) = sgn n m := by
        by_cases hlt : nthd (digits n) j < nthd (digits m) j
        ·have := val_lt_of (digits_dig n) HE.out (by omega) HD.out hlt
         rw [val_digits, val_digits] at this
         rw [sgn_lt hlt, sgn_lt this]
        ·have := val_lt_of (digits_dig m) HE.out.symm (by have := HE.out; omega) HD.out.symm (by omega : nthd (digits m) j < nthd (digits n) j)
         rw [val_digits, val_digits] at this
         rw [sgn_gt (by omega), sgn_gt this]
       have HS := Lib.hid hs; clear hs hq
       go_wp2_with fail
       go_quiet (fail)
       go_wp2_with fail
       go_quiet ((go_at_call 231; exact cmpU32_q _ _ _ _ _))
       go_wp2
       go_ret
       exact ⟨by rw [HS.out]; rfl, _, by first | rfl | simp [drewN_add]; rfl⟩
end Go.Proofs.YtkljafmdbajfeaaGreatDoor

/- Package big: whole numbers behind pointers; of, small, Sign, set, NewInt, Neg. -/
namespace Go.Proofs.YtkljafmdbajfeaaGreatDoor
open Go.RowKit
set_option linter.unusedVariables false
set_option linter.unusedSimpArgs false
def WSl (w : World) (v : Value) (n : Nat) : Prop := ∃ A c, v = .slice A (digits n).length c ∧ (digits n).length ≤ c ∧ c ≤ 1000000000 ∧ Wds w A (digits n)
theorem WSl.ext {w w' : World} {v : Value} {n : Nat} (h : WSl w v n) (hb : Below w.heap.size w w') : WSl w' v n := by
 obtain ⟨A, c, h1, h2, h3, h4⟩ := h; exact ⟨A, c, h1, h2, h3, h4.ext hb⟩
theorem wds_new (w : World) (ds : List Nat) (b : Nat) (h : w.heap.size = b) : Wds (w.alloc (.cells (ds.map fun d => Value.int .u32 (d : Nat)).toArray 240 (0, 0))) (some ⟨b, 0, none⟩) ds := by
 subst h
 intro i hi
 refine ⟨w.heap.size, 0, rfl, ?_⟩
 rw [Nat.zero_add, (Blk.new w (ds.map fun d => Value.int .u32 (d : Nat)) _).cell i (by simpa using hi)]
 simp [nthd_lt hi]
theorem digits_two (n : Nat) (h : n < 18446744073709551616) : trimL [n % 4294967296, n / 4294967296] = digits n := by
 rw [trimL_digits (by intro d hd; simp at hd; omega)]
 congr 1; simp [val]; omega
set_option maxHeartbeats 400000 in
theorem of_big (n : Nat) (w : World) (h : n < 18446744073709551616) :
  Calls Tryz.prog 189 #[.int .u64 n] w fun e w' => ∃ v, e = .returned v ∧ WSl w' v n ∧ Below w.heap.size w w' := by
 have hd := digits_two n h
 have HD := Lib.hid hd
 clear hd
 have h1 : (n : Int) < 18446744073709551616 := by omega
 have hw2 : ∀ w : World, Wds (w.alloc (.cells #[.int .u32 ((n : Int) % 4294967296), .int .u32 ((n : Int) / 4294967296)] 240 (0, 0))) (some ⟨w.heap.size, 0, none⟩) [n % 4294967296, n / 4294967296] := fun w => wds_new w [n % 4294967296, n / 4294967296] _ rfl
 go_enter Tryz.func189, Tryz.ntmps189
 go_wp2_with fail
 refine (trim_calls _ 2 [n % 4294967296, n / 4294967296] _ (by simp) (by unfold maxLen; omega) (hw2 w)).mono ?_; rintro e w1 ⟨k, rfl, hk, ht, rfl⟩
 have hw3 := (hw2 w).take k
 rw [ht, HD.out] at hw3
 have hl : k = (digits n).length := by rw [← HD.out, ← ht, List.length_take]; omega
 have HL := Lib.hid hl
 have hkc : k ≤ 2 := by simpa using hk
 clear ht hk hl
 go_wp2
 go_ret
 exact ⟨_, rfl, ⟨_, 2, by rw [← HL.out]; rfl, by rw [← HL.out]; exact hkc, by omega, hw3⟩, (Below.refl _ _).alloc (Nat.le_refl _) _⟩
theorem digits_small {n : Nat} : (digits n).length ≤ 2 ↔ n < 18446744073709551616 := by
 constructor
 ·intro h
  have h1 := val_lt (digits_dig n)
  rw [val_digits] at h1
  have : 4294967296 ^ (digits n).length ≤ 4294967296 ^ 2 := Nat.pow_le_pow_right (by omega) h
  omega
 ·intro h
  rw [← digits_two n h]
  simp only [trimL]; split <;> (try split) <;> simp
theorem digits_cases (n : Nat) (h : n < 18446744073709551616) : (n = 0 ∧ digits n = []) ∨ (0 < n ∧ n < 4294967296 ∧ digits n = [n]) ∨ (4294967296 ≤ n ∧ digits n = [n % 4294967296, n / 4294967296]) := by
 by_cases h0 : n = 0
 ·left; exact ⟨h0, by rw [h0, digits_zero]⟩
 ·right
  by_cases h1 : n < 4294967296
  ·left; exact ⟨by omega, h1, by rw [digits_pos h0, show n / 4294967296 = 0 by omega, digits_zero, Nat.mod_eq_of_lt h1]⟩
  ·right; refine ⟨by omega, ?_⟩
   rw [digits_pos h0, digits_pos (n := n / 4294967296) (by omega), show n / 4294967296 / 4294967296 = 0 by omega, digits_zero, Nat.mod_eq_of_lt (by omega : n / 4294967296 < 4294967296)]
theorem or_words (H L : Nat) (hH : H < 4294967296) (hL : L < 4294967296) : bits .or .u64 ((H : Int) * 4294967296) (L : Int) = ((L + 4294967296 * H : Nat) : Int) := by
 have e : (H : Int) * 4294967296 = ((H * 4294967296 : Nat) : Int) := by rw [Int.natCast_mul]; rfl
 rw [e, u64_or_nat _ _ (by omega) (by omega)]
 have := Nat.shiftLeft_add_eq_or_of_lt (i := 32) (b := L) (by omega) H
 rw [Nat.shiftLeft_eq] at this
 rw [show H * 4294967296 = H * 2 ^ 32 from rfl, ← this]
 congr 1; omega
set_option maxHeartbeats 1000000 in
theorem small_yes (n : Nat) (v : Value) (w : World) (h : n < 18446744073709551616) (hv : WSl w v n) :
  Calls Tryz.prog 178 #[v] w fun e w' => e = .returned (.tuple #[.int .u64 n, .bool true]) ∧ ∃ k, w' = w.drewN k := by
 obtain ⟨A, c, rfl, hc, hm, hA⟩ := hv
 rcases digits_cases n h with ⟨rfl, hd⟩ | ⟨h0, h1, hd⟩ | ⟨h0, hd⟩
 ·rw [hd]
  clear hA hc hd
  go_enter Tryz.func178, Tryz.ntmps178
  go_wp2
  go_ret2
  exact ⟨rfl, 0, rfl⟩
 ·rw [hd] at hA ⊢
  obtain ⟨b, o, rfl, g⟩ := hA 0 (by simp)
  have g' : w.cell? ⟨b, o, none⟩ = some (.int .u32 n) := g
  clear hc hd g hA
  go_enter Tryz.func178, Tryz.ntmps178
  go_wp2
  go_ret2
  exact ⟨rfl, 0, rfl⟩
 ·rw [hd] at hA ⊢
  obtain ⟨b, o, rfl, g0⟩ := hA 0 (by simp)
  obtain ⟨b', o', e', g1⟩ := hA 1 (by simp)
  injection e' with e'; injection e' with e1 e2; subst e1; subst e2
  have g0' : w.cell? ⟨b, o, none⟩ = some (.int .u32 (n % 4294967296 : Nat)) := g0
  have g1' : w.cell? ⟨b, o + 1, none⟩ = some (.int .u32 (n / 4294967296 : Nat)) := g1
  have hH : n / 4294967296 < 4294967296 := by omega
  have hL : n % 4294967296 < 4294967296 := by omega
  have hn : n = n % 4294967296 + 4294967296 * (n / 4294967296) := by omega
  generalize n / 4294967296 = H at *
  generalize n % 4294967296 = L at *
  have HN := Lib.hid hn
  clear hc hd g0 g1 hA hn h h0
  go_enter Tryz.func178, Tryz.ntmps178
  go_wp2_with fail
  go_quiet (fail)
  go_wp2_with fail
  go_ret2
  exact ⟨by rw [or_words H L hH hL, HN.out]; rfl, nq, rfl⟩
set_option maxHeartbeats 1000000 in
theorem small_no (n : Nat) (v : Value) (w : World) (h : 18446744073709551616 ≤ n) (hl : (digits n).length ≤ maxLen) (hv : WSl w v n) :
  Calls Tryz.prog 178 #[v] w fun e w' => e = .returned (.tuple #[.int .u64 0, .bool false]) ∧ w' = w := by
 obtain ⟨A, c, rfl, hc, hm, hA⟩ := hv
 have h2 : 2 < (digits n).length := by
  rcases Nat.lt_or_ge 2 (digits n).length with h2 | h2
  ·exact h2
  ·have := digits_small.1 h2; omega
 unfold maxLen at hl
 generalize (digits n).length = N at *
 have e0 : ((N : Int) == 0) = false := by simp; omega
 have e1 : ((N : Int) == 1) = false := by simp; omega
 have e2 : ((N : Int) == 2) = false := by simp; omega
 clear hA hc
 go_enter Tryz.func178, Tryz.ntmps178
 go_wp2
 go_ret2
 exact ⟨rfl, rfl⟩
theorem cell_in {w : World} {b : Nat} {vs : List Value} {T : TypeId} (h : Blk w b vs T) {i : Nat} {x : Value} (hx : w.cell? ⟨b, i, none⟩ = some x) : x ∈ vs := by
 unfold Blk at h
 simp only [World.cell?, h] at hx
 by_cases hi : i < vs.length
 ·simp [hi] at hx; rw [← hx]; exact List.getElem_mem hi
 ·simp [hi] at hx
structure IntBlk (w : World) (p : Nat) : Prop where
 c : ∃ b A n c, w.cell? ⟨p, 0, none⟩ = some (.bool b) ∧ w.cell? ⟨p, 1, none⟩ = some (.slice A n c)
 f0 : w.frozen? ⟨p, 0, none⟩ = false
 f1 : w.frozen? ⟨p, 1, none⟩ = false
 no : ∀ o k n, w.cell? ⟨p, o, none⟩ ≠ some (.int k n)
theorem IntBlk.of {w : World} {p : Nat} {b : Bool} {A : Option Addr} {n c : Nat} {T : TypeId} (h : Blk w p [.bool b, .slice A n c] T) : IntBlk w p :=
 ⟨⟨b, A, n, c, h.cell 0 (by simp), h.cell 1 (by simp)⟩, h.free 0, h.free 1, fun o k n e => by have := cell_in h e; simp at this⟩
theorem IntBlk.lt {w : World} {p : Nat} (h : IntBlk w p) : p < w.heap.size := by obtain ⟨b, A, n, c, h, -⟩ := h.c; exact cell_lt h
theorem IntBlk.same {w w' : World} {p : Nat} (h : IntBlk w p) (hb : w'.heap[p]? = w.heap[p]?) : IntBlk w' p := by
 have hc : ∀ o, w'.cell? ⟨p, o, none⟩ = w.cell? ⟨p, o, none⟩ := fun o => World.cell?_of_block (a := ⟨p, o, none⟩) hb
 have hf : ∀ o, w'.frozen? ⟨p, o, none⟩ = w.frozen? ⟨p, o, none⟩ := fun o => World.frozen?_of_block (a := ⟨p, o, none⟩) hb
 obtain ⟨b, A, n, c, h0, h1⟩ := h.c
 exact ⟨⟨b, A, n, c, (hc 0).trans h0, (hc 1).trans h1⟩, (hf 0).trans h.f0, (hf 1).trans h.f1, fun o k n => by rw [hc]; exact h.no o k n⟩
theorem IntBlk.ext {w w' : World} {p : Nat} (h : IntBlk w p) (hb : Below w.heap.size w w') : IntBlk w' p := h.same (hb.block p h.lt)
def BigP (w : World) (p : Nat) (z : Int) : Prop := IntBlk w p ∧ ∃ v, w.cell? ⟨p, 0, none⟩ = some (.bool (decide (z < 0))) ∧ w.cell? ⟨p, 1, none⟩ = some v ∧ WSl w v z.natAbs
theorem BigP.lt {w : World} {p : Nat} {z : Int} (h : BigP w p z) : p < w.heap.size := h.1.lt
theorem BigP.blk {w : World} {p : Nat} {z : Int} (h : BigP w p z) : IntBlk w p := h.1
theorem BigP.of {w : World} {p : Nat} {z : Int} {v : Value} {n : Nat} {T : TypeId} (h : Blk w p [.bool (decide (z < 0)), v] T) (hv : WSl w v n) (hn : z.natAbs = n) : BigP w p z := by
 subst hn
 obtain ⟨A, c, rfl, h1⟩ := id hv
 exact ⟨.of h, _, h.cell 0 (by simp), h.cell 1 (by simp), hv⟩
theorem BigP.ext {w w' : World} {p : Nat} {z : Int} (h : BigP w p z) (hb : Below w.heap.size w w') : BigP w' p z := by
 have hl := h.lt
 obtain ⟨h0, v, h1, h2, h3⟩ := h; exact ⟨h0.ext hb, v, (hb.cell (p := ⟨p, 0, none⟩) hl).trans h1, (hb.cell (p := ⟨p, 1, none⟩) hl).trans h2, h3.ext hb⟩
theorem wslice_len {w : World} {v : Value} {n : Nat} (h : WSl w v n) : ∃ A c, v = .slice A (digits n).length c ∧ (digits n).length ≤ 1000000000 := by
 obtain ⟨A, c, h1, h2, h3, _⟩ := h; exact ⟨A, c, h1, by omega⟩
theorem digits_len_pos {n : Nat} : 0 < (digits n).length ↔ n ≠ 0 := by
 constructor
 ·intro h e; rw [e, digits_zero] at h; simp at h
 ·intro h; rw [digits_pos h]; simp
def Tail (p : Nat) (w w' : World) : Prop := ∀ o, 2 ≤ o → w'.cell? ⟨p, o, none⟩ = w.cell? ⟨p, o, none⟩ ∧ w'.frozen? ⟨p, o, none⟩ = w.frozen? ⟨p, o, none⟩
theorem Tail.of {p : Nat} {w w' : World} (h : w'.heap[p]? = w.heap[p]?) : Tail p w w' := fun o _ => ⟨World.cell?_of_block (a := ⟨p, o, none⟩) h, World.frozen?_of_block (a := ⟨p, o, none⟩) h⟩
theorem Tail.trans {p : Nat} {a b c : World} (h : Tail p a b) (k : Tail p b c) : Tail p a c := fun o ho => ⟨(k o ho).1.trans (h o ho).1, (k o ho).2.trans (h o ho).2⟩
theorem set_cells {w : World} {p : Nat} (h : IntBlk w p) (b : Bool) (A : Option Addr) (n c : Nat) :
  ∃ w', w' = ((w.setCell ⟨p, 0, none⟩ (.bool b)).setCell ⟨p, 1, none⟩ (.slice A n c)) ∧ IntBlk w' p ∧ w'.cell? ⟨p, 0, none⟩ = some (.bool b) ∧ w'.cell? ⟨p, 1, none⟩ = some (.slice A n c) ∧ But p w w' ∧ Tail p w w' := by
 obtain ⟨b0, A0, n0, c0, h0, h1⟩ := h.c
 refine ⟨_, rfl, ?_⟩
 have e1 : (w.setCell ⟨p, 0, none⟩ (.bool b)).cell? ⟨p, 1, none⟩ = some (.slice A0 n0 c0) := (World.cell?_setCell_other w ⟨p, 0, none⟩ ⟨p, 1, none⟩ _ (by simp)).trans h1
 have g1 := World.cell?_setCell_same (w.setCell ⟨p, 0, none⟩ (.bool b)) ⟨p, 1, none⟩ (.slice A n c) e1
 have g0 : ((w.setCell ⟨p, 0, none⟩ (.bool b)).setCell ⟨p, 1, none⟩ (.slice A n c)).cell? ⟨p, 0, none⟩ = some (.bool b) :=
  (World.cell?_setCell_other _ ⟨p, 1, none⟩ ⟨p, 0, none⟩ _ (by simp)).trans (World.cell?_setCell_same w ⟨p, 0, none⟩ (.bool b) h0)
 have hf : ∀ o, ((w.setCell ⟨p, 0, none⟩ (.bool b)).setCell ⟨p, 1, none⟩ (.slice A n c)).frozen? ⟨p, o, none⟩ = w.frozen? ⟨p, o, none⟩ := fun o => by
  simp only [World.frozen?_setCell]
 have ht : Tail p w ((w.setCell ⟨p, 0, none⟩ (.bool b)).setCell ⟨p, 1, none⟩ (.slice A n c)) := fun o ho =>
  ⟨(World.cell?_setCell_other _ ⟨p, 1, none⟩ ⟨p, o, none⟩ _ (by intro e; injection e with _ e; omega)).trans (World.cell?_setCell_other _ ⟨p, 0, none⟩ ⟨p, o, none⟩ _ (by intro e; injection e with _ e; omega)), hf o⟩
 refine ⟨⟨⟨b, A, n, c, g0, g1⟩, (hf 0).trans h.f0, (hf 1).trans h.f1, fun o k m => ?_⟩, g0, g1, ((But.refl p w).set 0 _).set 1 _, ht⟩
 rcases o with _ | _ | o
 ·rw [g0]; simp
 ·rw [show 0 + 1 = 1 from rfl, g1]; simp
 ·rw [(ht (o + 1 + 1) (by omega)).1]; exact h.no _ _ _
set_option maxHeartbeats 400000 in
theorem set_big (p : Nat) (x : Bool) (v : Value) (n : Nat) (w : World) (hz : IntBlk w p) (hv : WSl w v n) :
  Calls Tryz.prog 194 #[.pointer (some ⟨p, 0, none⟩), .bool x, v] w fun e w' => e = .returned (.pointer (some ⟨p, 0, none⟩)) ∧ IntBlk w' p ∧ w'.cell? ⟨p, 0, none⟩ = some (.bool (x && decide (0 < n))) ∧ w'.cell? ⟨p, 1, none⟩ = some v ∧ But p w w' ∧ Tail p w w' := by
 obtain ⟨A, c, rfl, hl⟩ := wslice_len hv
 obtain ⟨b0, A0, n0, c0, h0, h1⟩ := hz.c
 have f0 := hz.f0
 have f1 := hz.f1
 have hd : decide (0 < ((digits n).length : Int)) = decide (0 < n) := by
  have := digits_len_pos (n := n)
  by_cases h : n = 0
  ·rw [h, digits_zero]; rfl
  ·rw [decide_eq_true (by have := this.2 h; omega), decide_eq_true (by omega)]
 have hset : ∀ b, Hid (IntBlk ((w.setCell ⟨p, 0, none⟩ (.bool b)).setCell ⟨p, 1, none⟩ (.slice A (digits n).length c)) p ∧ ((w.setCell ⟨p, 0, none⟩ (.bool b)).setCell ⟨p, 1, none⟩ (.slice A (digits n).length c)).cell? ⟨p, 0, none⟩ = some (.bool b) ∧ ((w.setCell ⟨p, 0, none⟩ (.bool b)).setCell ⟨p, 1, none⟩ (.slice A (digits n).length c)).cell? ⟨p, 1, none⟩ = some (.slice A (digits n).length c) ∧ But p w ((w.setCell ⟨p, 0, none⟩ (.bool b)).setCell ⟨p, 1, none⟩ (.slice A (digits n).length c)) ∧ Tail p w ((w.setCell ⟨p, 0, none⟩ (.bool b)).setCell ⟨p, 1, none⟩ (.slice A (digits n).length c))) := fun b => Lib.hid (by
  obtain ⟨w', rfl, h⟩ := set_cells hz b A (digits n).length c
  exact h)
 have HD := Lib.hid hd; have HS := Lib.hid hset
 clear hd hset
 cases x
 ·go_enter Tryz.func194, Tryz.ntmps194
  go_wp2
  go_ret
  exact ⟨rfl, (HS.out false).out⟩
 ·cases hb : decide (0 < n)
  ·rw [hb] at HD
   have hd : decide (0 < ((digits n).length : Int)) = false := HD.out
   have hd2 : decide (0 < (digits n).length) = false := by rw [← hd]; simp
   go_enter Tryz.func194, Tryz.ntmps194
   go_wp2
   go_ret
   exact ⟨rfl, (HS.out false).out⟩
  ·rw [hb] at HD
   have hd : decide (0 < ((digits n).length : Int)) = true := HD.out
   have hd2 : decide (0 < (digits n).length) = true := by rw [← hd]; simp
   go_enter Tryz.func194, Tryz.ntmps194
   go_wp2
   go_ret
   exact ⟨rfl, (HS.out true).out⟩
end Go.Proofs.YtkljafmdbajfeaaGreatDoor
