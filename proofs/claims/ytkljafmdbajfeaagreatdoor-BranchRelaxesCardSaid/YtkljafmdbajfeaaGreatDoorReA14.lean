/- Package big: plus of any two, Mul64, times of small numbers. -/
import Derived.Shelf.Bits.Mul64
import Derived.StillTailTactics
import Derived.Deep.RegionHeld3
import Derived.Test.YtkljafmdbajfeaaGreatDoorReA03
namespace Go.Proofs.YtkljafmdbajfeaaGreatDoor
open Go.RowKit
set_option maxRecDepth 100000 in
set_option maxHeartbeats 2000000 in
theorem plus_swap (A B : Option Addr) (ca cb : Nat) (a b : List Nat) (w : World) (hl : b.length < a.length) (ha : Dig a) (hb : Dig b) (hm : a.length ≤ 100000000) (hA : Wds w A a) (hB : Wds w B b) :
  Calls Tryz.prog 207 #[.slice B b.length cb, .slice A a.length ca] w fun e w' => ∃ v, e = .returned v ∧ WSl w' v (val a + val b) ∧ Below w.heap.size w w' := by
 have hmk := fun w => run_makeU32 w (a.length + 1) (by omega)
 have ec : ((a.length + 1 : Nat) : Int) = (a.length : Int) + 1 := by push_cast; rfl
 rw [ec] at hmk
 clear ec
 have hge : decide ((b.length : Int) < a.length) = true := decide_eq_true (by omega)
 go_enter Tryz.func207, Tryz.ntmps207
 go_wp2
 go_loopw [6, 7, 21] (fun c _ i wr => ∃ (k cn : Nat) (os : List Nat), k ≤ a.length ∧ i = .int .i64 k ∧ c = .int .u64 cn ∧ UBlk wr w.heap.size os ∧ PlusAt a b os k cn ∧ Below w.heap.size w wr) (fun _ _ i _ => a.length - (intOf i).toNat)
 case atStart => exact ⟨0, 0, List.replicate (a.length + 1) 0, Nat.zero_le _, rfl, rfl, UBlk.made _ _ _ rfl, ⟨by simp, Dig.zeros _, by omega, by simp [val]⟩, (Below.refl _ _).alloc (Nat.le_refl _) _⟩
 case round =>
  obtain ⟨k, cn, os, hk, rfl, rfl, hos, hp, hbe⟩ := hrel
  obtain ⟨p1, p2, p3, p4⟩ := id hp
  have hP := Lib.hid hp; have P1 := Lib.hid p1
  clear hp p1 p4
  by_cases hlt : k < a.length
  ·obtain ⟨bA, oA, rfl, gA⟩ := (hA.ext hbe) k hlt
   have xa := ha.nth k
   have c1 := hos.cell k (by have := P1.out; omega)
   have f1 := Blk.free hos k
   by_cases hlb : k < b.length
   ·obtain ⟨bB, oB, rfl, gB⟩ := (hB.ext hbe) k hlb
    have xb := hb.nth k
    have hP2 := PlusAt.step hP.out ha hb hlt
    have e1 : (((cn + nthd a k + nthd b k) % 4294967296 : Nat) : Int) = ((cn : Int) + nthd a k + nthd b k) % 4294967296 := castm3 _ _ _
    have e2 : (((cn + nthd a k + nthd b k) / 4294967296 : Nat) : Int) = ((cn : Int) + nthd a k + nthd b k) / 4294967296 := castd3 _ _ _
    have HP2 := Lib.hid hP2; have E1 := Lib.hid e1; have E2 := Lib.hid e2
    clear hP2 e1 e2
    go_wp2
    go_roundw
    case rel => exact ⟨k + 1, _, _, by omega, by go_num, by rw [← E2.out], by rw [← E1.out]; exact hos.set k _, HP2.out, hbe.setCell (by dsimp only; omega) _⟩
    case measure => simp [intOf]; omega
   ·have hlb' : decide ((k : Int) < b.length) = false := decide_eq_false (by omega)
    have hP2 := PlusAt.step hP.out ha hb hlt
    rw [nthd_out (l := b) (by omega), Nat.add_zero] at hP2
    have e1 : (((cn + nthd a k) % 4294967296 : Nat) : Int) = ((cn : Int) + nthd a k) % 4294967296 := by omega
    have e2 : (((cn + nthd a k) / 4294967296 : Nat) : Int) = ((cn : Int) + nthd a k) / 4294967296 := by omega
    have HP2 := Lib.hid hP2; have E1 := Lib.hid e1; have E2 := Lib.hid e2
    clear hP2 e1 e2
    go_wp2
    go_roundw
    case rel => exact ⟨k + 1, _, _, by omega, by go_num, by rw [← E2.out], by rw [← E1.out]; exact hos.set k _, HP2.out, hbe.setCell (by dsimp only; omega) _⟩
    case measure => simp [intOf]; omega
  ·obtain rfl : k = a.length := by omega
   have c1 := hos.cell a.length (by have := P1.out; omega)
   have f1 := Blk.free hos a.length
   have hd := PlusAt.done hP.out (by omega)
   have HD := Lib.hid hd
   have hcm : (cn : Int) % 4294967296 = cn := by omega
   have hsz := hbe.size
   clear hd
   have htr : ∀ w2, UBlk w2 w.heap.size (os.set a.length cn) → _ := fun w2 h => trim_calls (some ⟨w.heap.size, 0, none⟩) (a.length + 1) (os.set a.length cn) w2 (by simp; have := P1.out; omega) (by unfold maxLen; omega) h.wds
   rw [List.length_set, P1.out] at htr
   have HT := Lib.hid htr
   clear htr
   go_wp2_with fail
   refine (HT.out _ (hos.set a.length cn)).mono ?_; rintro e w3 ⟨n, rfl, hn, ht, rfl⟩
   have hfin := ((hos.set a.length cn).wds).take n
   rw [ht, HD.out] at hfin
   have hnl : n = (digits (val a + val b)).length := by
    rw [← HD.out, ← ht, List.length_take]; simp; have := P1.out; omega
   have HN := Lib.hid hnl
   clear hnl
   go_wp2
   go_ret
   exact ⟨_, rfl, ⟨_, a.length + 1, by rw [← HN.out]; rfl, by rw [← HN.out]; have := P1.out; omega, by omega, hfin⟩, hbe.setCell (by dsimp only; omega) _⟩
theorem plus_calls (v u : Value) (n m : Nat) (w : World) (hn : (digits n).length ≤ 100000000) (hm : (digits m).length ≤ 100000000) (hv : WSl w v n) (hu : WSl w u m) :
  Calls Tryz.prog 207 #[v, u] w fun e w' => ∃ v, e = .returned v ∧ WSl w' v (n + m) ∧ Below w.heap.size w w' := by
 obtain ⟨A, c, rfl, h1, h2, h3⟩ := hv
 obtain ⟨B, d, rfl, k1, k2, k3⟩ := hu
 by_cases h : (digits m).length ≤ (digits n).length
 ·have := plus_loop A B c d (digits n) (digits m) w h (digits_dig n) (digits_dig m) hn h3 k3
  rw [val_digits, val_digits] at this; exact this
 ·have := plus_swap B A d c (digits m) (digits n) w (by omega) (digits_dig m) (digits_dig n) hm k3 h3
  rw [val_digits, val_digits, Nat.add_comm m n] at this; exact this
theorem minus_z (v u : Value) (n m : Nat) (w : World) (hn : (digits n).length ≤ 100000000) (hle : m ≤ n) (hv : WSl w v n) (hu : WSl w u m) :
  Calls Tryz.prog 209 #[v, u] w fun e w' => ∃ v, e = .returned v ∧ WSl w' v (n - m) ∧ Below w.heap.size w w' := by
 obtain ⟨A, c, rfl, h1, h2, h3⟩ := hv
 obtain ⟨B, d, rfl, k1, k2, k3⟩ := hu
 have hl : (digits m).length ≤ (digits n).length := by
  rcases Nat.lt_or_ge (digits n).length (digits m).length with h | h
  ·have := digits_len_lt h; omega
  ·exact h
 have := minus_calls A B c d (digits n) (digits m) w hl (by rw [val_digits, val_digits]; exact hle) (digits_dig n) (digits_dig m) hn h3 k3
 rw [val_digits, val_digits] at this; exact this
set_option maxHeartbeats 1000000 in
theorem mul64_calls (x y : Nat) (hx : x < 18446744073709551616) (hy : y < 18446744073709551616) (w : World) :
  Calls Tryz.prog 229 #[.int .u64 x, .int .u64 y] w fun e w' => e = .returned (.tuple #[.int .u64 ((x * y / 18446744073709551616 : Nat) : Int), .int .u64 ((x * y % 18446744073709551616 : Nat) : Int)]) ∧ w' = w := by
 obtain ⟨bd, bt, bw, hhi⟩ := Lib.mul64_hi x y hx hy
 have ba := Lib.half_mul_le (a := x / 4294967296) (b := y / 4294967296) (by omega) (by omega)
 have bb := Lib.half_mul_le (a := x / 4294967296) (b := y % 4294967296) (by omega) (by omega)
 have bc := Lib.half_mul_le (a := x % 4294967296) (b := y / 4294967296) (by omega) (by omega)
 have ba' : x / 4294967296 * (y / 4294967296) < 18446744073709551616 := by omega
 have bb' : x / 4294967296 * (y % 4294967296) < 18446744073709551616 := by omega
 have bc' : x % 4294967296 * (y / 4294967296) < 18446744073709551616 := by omega
 have bh1 : x / 4294967296 * (y / 4294967296) + (x / 4294967296 * (y % 4294967296) + x % 4294967296 * (y % 4294967296) / 4294967296) / 4294967296 < 18446744073709551616 := by omega
 have bh : x / 4294967296 * (y / 4294967296) + (x / 4294967296 * (y % 4294967296) + x % 4294967296 * (y % 4294967296) / 4294967296) / 4294967296 + ((x / 4294967296 * (y % 4294967296) + x % 4294967296 * (y % 4294967296) / 4294967296) % 4294967296 + x % 4294967296 * (y / 4294967296)) / 4294967296 < 18446744073709551616 := by omega
 go_enter Tryz.func229, Tryz.ntmps229
 go_wp2
 simp only [Mul64.maskN x hx, Mul64.maskN y hy, Mul64.divN, Mul64.mulN, Mul64.addN, Mul64.wrapN _ bd, Mul64.wrapN _ bb', Mul64.wrapN _ bt, Mul64.maskN _ bt, Mul64.wrapN _ bc', Mul64.wrapN _ bw, Mul64.wrapN _ ba', Mul64.wrapN _ bh1, Mul64.wrapN _ bh, Mul64.wrapM (x * y)]
 rw [hhi]
 go_ret2
 exact ⟨rfl, rfl⟩
theorem digits_four (z : Nat) (h : z / 18446744073709551616 < 18446744073709551616) : trimL [z % 18446744073709551616 % 4294967296, z % 18446744073709551616 / 4294967296, z / 18446744073709551616 % 4294967296, z / 18446744073709551616 / 4294967296] = digits z := by
 rw [trimL_digits (by intro d hd; simp at hd; omega)]
 congr 1; simp [val]; omega
set_option maxHeartbeats 1000000 in
theorem times_small (v u : Value) (n m : Nat) (w : World) (hn : n < 18446744073709551616) (hm : m < 18446744073709551616) (hv : WSl w v n) (hu : WSl w u m) :
  Calls Tryz.prog 199 #[v, u] w fun e w' => ∃ v, e = .returned v ∧ WSl w' v (n * m) ∧ Below w.heap.size w w' := by
 have hlt : n * m / 18446744073709551616 < 18446744073709551616 := by
  have : n * m ≤ 18446744073709551615 * 18446744073709551615 := Nat.mul_le_mul (by omega) (by omega)
  omega
 have hd := digits_four (n * m) hlt
 have hx := mul64_calls n m hn hm
 have hxs := fun w h => small_yes n v w hn h
 have hys := fun w h => small_yes m u w hm h
 generalize n * m = z at *
 have hb1 : z % 18446744073709551616 < 18446744073709551616 := Nat.mod_lt _ (by omega)
 generalize z % 18446744073709551616 = lo at *
 generalize z / 18446744073709551616 = hi at *
 have hw2 : ∀ w : World, Wds (w.alloc (.cells #[.int .u32 ((lo : Int) % 4294967296), .int .u32 ((lo : Int) / 4294967296), .int .u32 ((hi : Int) % 4294967296), .int .u32 ((hi : Int) / 4294967296)] 240 (0, 0))) (some ⟨w.heap.size, 0, none⟩) [lo % 4294967296, lo / 4294967296, hi % 4294967296, hi / 4294967296] := fun w => wds_new w [lo % 4294967296, lo / 4294967296, hi % 4294967296, hi / 4294967296] _ rfl
 have HD := Lib.hid hd; have HX := Lib.hid hx; have HXS := Lib.hid hxs; have HYS := Lib.hid hys
 clear hd hx hxs hys
 have hv0 := hv
 have hu0 := hu
 obtain ⟨A, c, rfl, -, -, -⟩ := hv0
 obtain ⟨B, d, rfl, -, -, -⟩ := hu0
 go_enter Tryz.func199, Tryz.ntmps199
 go_wp2_with fail
 refine (HXS.out _ hv).mono ?_; rintro e w1 ⟨rfl, k1, rfl⟩
 go_wp2_with fail
 refine (HYS.out _ (hu.ext (drewN_below _ _))).mono ?_; rintro e w1 ⟨rfl, k2, rfl⟩
 go_wp2_with fail
 refine (HX.out _).mono ?_; rintro e w1 ⟨rfl, rfl⟩
 go_wp2_with fail
 have hws := hw2 (w.drewN (k1 + k2))
 rw [show (w.drewN (k1 + k2)).heap.size = w.heap.size from rfl] at hws
 have hbe := (drewN_below w (k1 + k2)).alloc (show w.heap.size ≤ w.heap.size from Nat.le_refl _) (.cells #[.int .u32 ((lo : Int) % 4294967296), .int .u32 ((lo : Int) / 4294967296), .int .u32 ((hi : Int) % 4294967296), .int .u32 ((hi : Int) / 4294967296)] 240 (0, 0))
 have HBE := Lib.hid hbe
 clear hbe
 refine (trim_calls _ 4 [lo % 4294967296, lo / 4294967296, hi % 4294967296, hi / 4294967296] _ (by simp) (by unfold maxLen; omega) hws).mono ?_; rintro e w1 ⟨k, rfl, hk, ht, rfl⟩
 have hw3 := hws.take k
 rw [ht, HD.out] at hw3
 have hl : k = (digits z).length := by rw [← HD.out, ← ht, List.length_take]; omega
 have HL := Lib.hid hl
 have hkc : k ≤ 4 := by simpa using hk
 clear ht hk hl hws hw2
 go_wp2
 go_ret
 exact ⟨_, rfl, ⟨_, 4, by rw [← HL.out]; rfl, by rw [← HL.out]; exact hkc, by omega, hw3⟩, HBE.out⟩
end Go.Proofs.YtkljafmdbajfeaaGreatDoor

/- Package big: Neg, Add, Sub, Mul. -/
namespace Go.Proofs.YtkljafmdbajfeaaGreatDoor
open Go.RowKit
theorem neg_sign (z : Int) : (!decide (z < 0) && decide (0 < z.natAbs)) = decide (-z < 0) := by
 by_cases h : z < 0
 ·rw [decide_eq_true h, decide_eq_false (show ¬ -z < 0 by omega)]; rfl
 ·rw [decide_eq_false h]
  by_cases h0 : z = 0
  ·subst h0; rfl
  ·rw [decide_eq_true (show -z < 0 by omega), decide_eq_true (show 0 < z.natAbs by omega)]; rfl
set_option maxRecDepth 100000 in
set_option maxHeartbeats 1000000 in
theorem neg_calls (p q : Nat) (z : Int) (w : World) (hp : IntBlk w p) (hz : BigP w q z) :
  Calls Tryz.prog 164 #[.pointer (some ⟨p, 0, none⟩), .pointer (some ⟨q, 0, none⟩)] w fun e w' => e = .returned (.pointer (some ⟨p, 0, none⟩)) ∧ BigP w' p (-z) ∧ But p w w' := by
 obtain ⟨-, v, hb0, hb1, hv⟩ := id hz
 have c0 : w.cell? ⟨q, 0, none⟩ = some (.bool (decide (z < 0))) := hb0
 have c1 : w.cell? ⟨q, 1, none⟩ = some v := hb1
 have hs := neg_sign z
 have HS := Lib.hid hs
 clear hs hb0 hb1 hz
 go_enter Tryz.func164, Tryz.ntmps164
 go_wp2_with fail
 go_still_tail 10, (by kernel_rfl)
 change wpList _ _ _ _ _ w.drew
 go_wp2_with fail
 refine (set_z p _ v z.natAbs (-z) w.drew (hp.ext (drewN_below w 1)) (hv.ext (drewN_below w 1)) (by omega) HS.out).mono ?_; rintro e w3 ⟨rfl, hz3, hb3⟩
 go_wp2
 go_ret
 exact ⟨rfl, hz3, ((But.refl p w).ext (drewN_below w 1)).trans hb3⟩
theorem add_same (x y : Int) (h : (decide (x < 0) == decide (y < 0)) = true) : (x + y).natAbs = x.natAbs + y.natAbs ∧ (decide (x < 0) && decide (0 < x.natAbs + y.natAbs)) = decide (x + y < 0) := by
 by_cases hx : x < 0 <;> by_cases hy : y < 0 <;> simp [hx, hy] at h ⊢ <;> omega
theorem add_diff (x y : Int) (h : (decide (x < 0) == decide (y < 0)) = false) (hle : y.natAbs ≤ x.natAbs) : (x + y).natAbs = x.natAbs - y.natAbs ∧ (decide (x < 0) && decide (0 < x.natAbs - y.natAbs)) = decide (x + y < 0) := by
 by_cases hx : x < 0 <;> by_cases hy : y < 0 <;> simp [hx, hy] at h ⊢ <;> omega
theorem add_diff' (x y : Int) (h : (decide (x < 0) == decide (y < 0)) = false) (hle : x.natAbs < y.natAbs) : (x + y).natAbs = y.natAbs - x.natAbs ∧ (decide (y < 0) && decide (0 < y.natAbs - x.natAbs)) = decide (x + y < 0) := by
 by_cases hx : x < 0 <;> by_cases hy : y < 0 <;> simp [hx, hy] at h ⊢ <;> omega
def Wide (z : Int) : Prop := (digits z.natAbs).length ≤ 100000000
theorem mul_sign (x y : Int) : (x * y).natAbs = x.natAbs * y.natAbs ∧ ((!(decide (x < 0) == decide (y < 0))) && decide (0 < x.natAbs * y.natAbs)) = decide (x * y < 0) := by
 refine ⟨Int.natAbs_mul x y, ?_⟩
 rw [← Int.natAbs_mul]
 by_cases hx : x < 0 <;> by_cases hy : y < 0
 ·have := Int.mul_pos_of_neg_of_neg hx hy
  simp [hx, hy]; omega
 ·rcases Int.lt_or_le 0 y with h | h
  ·have := Int.mul_neg_of_neg_of_pos hx h
   simp [hx, hy, this]; omega
  ·have : y = 0 := by omega
   subst this; simp
 ·rcases Int.lt_or_le 0 x with h | h
  ·have := Int.mul_neg_of_pos_of_neg h hy
   simp [hx, hy, this]; omega
  ·have : x = 0 := by omega
   subst this; simp
 ·have := Int.mul_nonneg (show 0 ≤ x by omega) (show 0 ≤ y by omega)
  simp [hx, hy]; omega
end Go.Proofs.YtkljafmdbajfeaaGreatDoor

/- Package big: times of any two numbers: the digits. -/
namespace Go.Proofs.YtkljafmdbajfeaaGreatDoor
open Go.RowKit
set_option linter.unusedVariables false
set_option linter.unusedSimpArgs false
theorem wval_set : ∀ (l : List Nat) (i d : Nat), i < l.length → val (l.set i d) + 4294967296 ^ i * nthd l i = val l + 4294967296 ^ i * d
 | [], _, _, h => by simp at h
 | x :: l, 0, d, _ => by simp [val, nthd]; omega
 | x :: l, i + 1, d, h => by
   have ih := wval_set l i d (by simpa using h)
   have e : nthd (x :: l) (i + 1) = nthd l i := rfl
   simp only [List.set_cons_succ, val, e, Nat.pow_succ]
   have e1 : 4294967296 ^ i * 4294967296 * nthd l i = 4294967296 * (4294967296 ^ i * nthd l i) := by rw [Nat.mul_comm (4294967296 ^ i), Nat.mul_assoc]
   have e2 : 4294967296 ^ i * 4294967296 * d = 4294967296 * (4294967296 ^ i * d) := by rw [Nat.mul_comm (4294967296 ^ i), Nat.mul_assoc]
   omega
theorem wdig_set {l : List Nat} (h : Dig l) (k : Nat) {d : Nat} (hd : d < 4294967296) : Dig (l.set k d) := fun x hx => by
 rcases List.mem_or_eq_of_mem_set hx with h1 | h1
 ·exact h x h1
 ·rw [h1]; exact hd
theorem wnthd_set (l : List Nat) (i j d : Nat) (h : i ≠ j) : nthd (l.set i d) j = nthd l j := by
 unfold nthd; rw [List.getD_eq_getElem?_getD, List.getD_eq_getElem?_getD, List.getElem?_set_ne h]
structure WRow (a b os : List Nat) (i : Nat) : Prop where
 len : os.length = a.length + b.length
 dig : Dig os
 value : val os = val (a.take i) * val b
 zero : ∀ j, i + b.length ≤ j → nthd os j = 0
structure WIn (a b os : List Nat) (i k c : Nat) : Prop where
 len : os.length = a.length + b.length
 dig : Dig os
 car : c < 4294967296
 value : val os + 4294967296 ^ (i + k) * c = val (a.take i) * val b + 4294967296 ^ i * nthd a i * val (b.take k)
 zero : ∀ j, i + b.length ≤ j → nthd os j = 0
theorem WRow.start (a b : List Nat) : WRow a b (List.replicate (a.length + b.length) 0) 0 := by
 have hz : ∀ n, val (List.replicate n 0) = 0 := fun n => by
  induction n with
  | zero => rfl
  | succ n ih => rw [List.replicate_succ]; simp only [val]; omega
 refine ⟨by simp, fun d hd => by rw [(List.mem_replicate.1 hd).2]; omega, by rw [hz]; simp [val], fun j _ => ?_⟩
 unfold nthd; rw [List.getD_eq_getElem?_getD, List.getElem?_replicate]; split <;> rfl
theorem WRow.enter {a b os : List Nat} {i : Nat} (h : WRow a b os i) : WIn a b os i 0 0 := ⟨h.len, h.dig, by omega, by rw [h.value]; simp [val], h.zero⟩
theorem wmul_digit {x y : Nat} (hx : x < 4294967296) (hy : y < 4294967296) : x * y ≤ 18446744065119617025 := by
 have := Nat.mul_le_mul (show x ≤ 4294967295 by omega) (show y ≤ 4294967295 by omega)
 omega
theorem WIn.step {a b os : List Nat} {i k c : Nat} (h : WIn a b os i k c) (ha : Dig a) (hb : Dig b) (hi : i < a.length) (hk : k < b.length) :
  WIn a b (os.set (i + k) ((nthd os (i + k) + nthd a i * nthd b k + c) % 4294967296)) i (k + 1) ((nthd os (i + k) + nthd a i * nthd b k + c) / 4294967296) := by
 have x : nthd a i < 4294967296 := ha.nth i
 have y : nthd b k < 4294967296 := hb.nth k
 have o : nthd os (i + k) < 4294967296 := h.dig.nth (i + k)
 have hc := h.car
 have hp := wmul_digit x y
 refine ⟨by rw [List.length_set]; exact h.len, wdig_set h.dig _ (Nat.mod_lt _ (by omega)), by omega, ?_, fun j hj => ?_⟩
 ·have hv := h.value
  have hs := wval_set os (i + k) ((nthd os (i + k) + nthd a i * nthd b k + c) % 4294967296) (by rw [h.len]; omega)
  rw [val_take_succ b k]
  have e0 : 4294967296 ^ (i + (k + 1)) = 4294967296 ^ (i + k) * 4294967296 := by rw [← Nat.add_assoc, Nat.pow_succ]
  rw [e0]
  have e1 : 4294967296 ^ i * nthd a i * (val (b.take k) + 4294967296 ^ k * nthd b k) = 4294967296 ^ i * nthd a i * val (b.take k) + 4294967296 ^ (i + k) * (nthd a i * nthd b k) := by
   rw [Nat.mul_add]; congr 1
   rw [Nat.pow_add, Nat.mul_assoc, Nat.mul_assoc]; congr 1
   rw [← Nat.mul_assoc, Nat.mul_comm (nthd a i), Nat.mul_assoc]
  rw [e1]
  generalize nthd a i * nthd b k = p at *
  generalize nthd os (i + k) = q at *
  generalize 4294967296 ^ (i + k) = P at *
  have e2 : (q + p + c) % 4294967296 + 4294967296 * ((q + p + c) / 4294967296) = q + p + c := by omega
  have e3 : P * ((q + p + c) % 4294967296) + P * 4294967296 * ((q + p + c) / 4294967296) = P * q + P * p + P * c := by
   rw [Nat.mul_assoc, ← Nat.mul_add, e2, Nat.mul_add, Nat.mul_add]
  omega
 ·rw [wnthd_set _ _ _ _ (by omega)]; exact h.zero j hj
theorem WIn.done {a b os : List Nat} {i c : Nat} (h : WIn a b os i b.length c) (hi : i < a.length) : WRow a b (os.set (i + b.length) c) (i + 1) := by
 refine ⟨by rw [List.length_set]; exact h.len, wdig_set h.dig _ h.car, ?_, fun j hj => ?_⟩
 ·have hv := h.value
  have hs := wval_set os (i + b.length) c (by rw [h.len]; omega)
  rw [h.zero _ (Nat.le_refl _), Nat.mul_zero, Nat.add_zero] at hs
  rw [hs, hv, val_take_succ a i, List.take_length, Nat.add_mul]
 ·rw [wnthd_set _ _ _ _ (by omega)]; exact h.zero j (by omega)
theorem WRow.done {a b os : List Nat} (h : WRow a b os a.length) : trimL os = digits (val a * val b) := by
 rw [trimL_digits h.dig, h.value, List.take_length]
end Go.Proofs.YtkljafmdbajfeaaGreatDoor
