/- The reference's whole numbers: cmpD, addD, subD. -/
import Derived.Test.YtkljafmdbajfeaaGreatDoorWeA10
namespace Go.Proofs.YtkljafmdbajfeaaGreatDoor
open Go.RowKit
set_option linter.unusedVariables false
set_option linter.unusedSimpArgs false
set_option maxHeartbeats 1000000 in
theorem rcmpD_calls (A B : Option Addr) (ca cb : Nat) (n m : Nat) (w : World) (hn : (T.digits n).length ≤ maxLen) (hm : (T.digits m).length ≤ maxLen) (hA : Rds w A (T.digits n)) (hB : Rds w B (T.digits m)) :
  Calls Tryz.prog 102 #[.slice A (T.digits n).length ca, .slice B (T.digits m).length cb] w fun e w' => e = .returned (.int .i64 (sgn n m)) ∧ ∃ k, w' = w.drewN k := by
 unfold maxLen at hn hm
 by_cases hl : (T.digits n).length < (T.digits m).length
 ·have hlt := T.digits_len_lt hl
  have d1 : decide ((T.digits n).length < (T.digits m).length) = true := decide_eq_true (by omega)
  go_enter Tryz.func102, Tryz.ntmps102
  go_wp2
  go_ret
  exact ⟨by rw [sgn_lt hlt]; rfl, 0, rfl⟩
 ·have d1 : decide ((T.digits n).length < (T.digits m).length) = false := decide_eq_false (by omega)
  by_cases hg : (T.digits m).length < (T.digits n).length
  ·have hlt := T.digits_len_lt hg
   have d2 : decide ((T.digits m).length < (T.digits n).length) = true := decide_eq_true (by omega)
   go_enter Tryz.func102, Tryz.ntmps102
   go_wp2
   go_ret
   exact ⟨by rw [sgn_gt hlt]; rfl, 0, rfl⟩
  ·have d2 : decide ((T.digits m).length < (T.digits n).length) = false := decide_eq_false (by omega)
   have he : (T.digits n).length = (T.digits m).length := by omega
   have HE := Lib.hid he; clear he hl hg
   go_enter Tryz.func102, Tryz.ntmps102
   go_wp2
   go_loopw [5] (fun i wr => ∃ j k : Nat, j ≤ (T.digits n).length ∧ i = .int .i64 ((j : Int) - 1) ∧ (T.digits n).drop j = (T.digits m).drop j ∧ wr = w.drewN k) (fun i _ => (intOf i + 1).toNat)
   case atStart => exact ⟨(T.digits n).length, 0, Nat.le_refl _, rfl, by rw [List.drop_length, HE.out, List.drop_length], rfl⟩
   case round =>
    obtain ⟨j, k, hj, rfl, hdr, rfl⟩ := hrel
    have HD := Lib.hid hdr; clear hdr
    cases j with
    | zero =>
      rw [show ((0 : Nat) : Int) - 1 = -1 from rfl]
      have hnm : n = m := by
       have := HD.out
       rw [List.drop_zero, List.drop_zero] at this
       rw [← T.val_digits n, this, T.val_digits]
      have HN := Lib.hid hnm; clear hnm
      go_wp2
      go_ret
      exact ⟨by rw [sgn_eq HN.out]; rfl, _, rfl⟩
    | succ j =>
      rw [show ((j + 1 : Nat) : Int) - 1 = j from by omega]
      obtain ⟨b1, o1, rfl, g1⟩ := hA j (by omega)
      obtain ⟨b2, o2, rfl, g2⟩ := hB j (by have := HE.out; omega)
      have hj0 : (0 : Int) ≤ j := by omega
      have hj1 : (j : Int) < (T.digits n).length := by omega
      have hj2 : (j : Int) < (T.digits m).length := by have := HE.out; omega
      have hdn : (T.digits n).drop j = nthd (T.digits n) j :: (T.digits n).drop (j + 1) := T.drop_nthd (by omega)
      have hdm : (T.digits m).drop j = nthd (T.digits m) j :: (T.digits m).drop (j + 1) := T.drop_nthd (by omega)
      have HDN := Lib.hid hdn; have HDM := Lib.hid hdm
      clear hdn hdm
      have hcase : (nthd (T.digits n) j < nthd (T.digits m) j ∧ sgn n m = -1) ∨ (nthd (T.digits m) j < nthd (T.digits n) j ∧ sgn n m = 1) ∨ (nthd (T.digits n) j = nthd (T.digits m) j ∧ (T.digits n).drop j = (T.digits m).drop j) := by
       rcases Nat.lt_trichotomy (nthd (T.digits n) j) (nthd (T.digits m) j) with h | h | h
       ·have := T.val_lt_of (T.digits_dig n) HE.out (by omega) HD.out h
        rw [T.val_digits, T.val_digits] at this
        exact .inl ⟨h, sgn_lt this⟩
       ·exact .inr (.inr ⟨h, by rw [HDN.out, HDM.out, h, HD.out]⟩)
       ·have := T.val_lt_of (T.digits_dig m) HE.out.symm (by have := HE.out; omega) HD.out.symm h
        rw [T.val_digits, T.val_digits] at this
        exact .inr (.inl ⟨h, sgn_gt this⟩)
      clear HDN HDM HD
      generalize nthd (T.digits n) j = x at *
      generalize nthd (T.digits m) j = y at *
      rcases hcase with ⟨h, hs⟩ | ⟨h, hs⟩ | ⟨rfl, hs⟩
      ·have q1 : decide (x < y) = true := decide_eq_true (by omega)
       have HS := Lib.hid hs; clear hs h
       go_wp2_with fail
       go_quiet (fail)
       go_wp2
       go_ret
       exact ⟨by rw [HS.out]; rfl, _, by first | rfl | exact drewN_add _ _ _ | rw [drewN_add, drewN_add]⟩
      ·have q1 : decide (x < y) = false := decide_eq_false (by omega)
       have q2 : decide (y < x) = true := decide_eq_true (by omega)
       have HS := Lib.hid hs; clear hs h
       go_wp2_with fail
       go_quiet (fail)
       go_wp2_with fail
       go_quiet (fail)
       go_wp2
       go_ret
       exact ⟨by rw [HS.out]; rfl, _, by first | rfl | exact drewN_add _ _ _ | rw [drewN_add, drewN_add]⟩
      ·have q1 : decide (x < x) = false := decide_eq_false (by omega)
       have HS := Lib.hid hs; clear hs
       go_wp2_with fail
       go_quiet (fail)
       go_wp2_with fail
       go_quiet (fail)
       go_wp2
       go_roundw
       case rel => exact ⟨j, _, by omega, rfl, HS.out, by first | rfl | exact drewN_add _ _ _ | rw [drewN_add, drewN_add]⟩
       case measure => simp [intOf]
theorem rval_take (l : List Nat) (k : Nat) : T.val (l.take (k + 1)) = T.val (l.take k) + 10000 ^ k * nthd l k := by
 by_cases h : k < l.length
 ·have e : l.take (k + 1) = l.take k ++ [nthd l k] := T.take_nthd h
  rw [e, T.val_append, List.length_take, Nat.min_eq_left (by omega)]; simp [T.val]
 ·have e : nthd l k = 0 := by unfold nthd; rw [List.getD_eq_getElem?_getD, List.getElem?_eq_none (by omega)]; rfl
  rw [e, List.take_of_length_le (by omega), List.take_of_length_le (by omega)]; simp
end Go.Proofs.YtkljafmdbajfeaaGreatDoor

/- The reference's whole numbers: subD. -/
namespace Go.Proofs.YtkljafmdbajfeaaGreatDoor
open Go.RowKit
set_option linter.unusedVariables false
set_option linter.unusedSimpArgs false
end Go.Proofs.YtkljafmdbajfeaaGreatDoor

/- The reference's whole numbers: mulD. -/
namespace Go.Proofs.YtkljafmdbajfeaaGreatDoor
open Go.RowKit
set_option linter.unusedVariables false
set_option linter.unusedSimpArgs false
def DBlk (w : World) (b : Nat) (ds : List Nat) : Prop := Blk w b (ds.map fun d => Value.int .i64 (d : Nat)) 3
theorem DBlk.cell {w : World} {b : Nat} {ds : List Nat} (h : DBlk w b ds) (i : Nat) (hi : i < ds.length) : w.cell? ⟨b, i, none⟩ = some (.int .i64 (nthd ds i : Nat)) := by
 rw [Blk.cell h i (by simpa using hi)]; simp [nthd_lt hi]
theorem DBlk.set {w : World} {b : Nat} {ds : List Nat} (h : DBlk w b ds) (i d : Nat) : DBlk (w.setCell ⟨b, i, none⟩ (.int .i64 (d : Nat))) b (ds.set i d) := by
 have := Blk.set h i (.int .i64 (d : Nat)); unfold DBlk; rw [List.map_set]; exact this
theorem DBlk.rds {w : World} {b : Nat} {ds : List Nat} (h : DBlk w b ds) : Rds w (some ⟨b, 0, none⟩) ds := fun i hi => ⟨b, 0, rfl, by rw [Nat.zero_add]; exact h.cell i hi⟩
theorem DBlk.drewN {w : World} {b : Nat} {ds : List Nat} (h : DBlk w b ds) (n : Nat) : DBlk (w.drewN n) b ds := h
theorem DBlk.made (w : World) (n b : Nat) (h : w.heap.size = b) : DBlk (w.alloc (.cells ((zeros n).map (Value.int .i64)).toArray 3 (0, 0))) b (List.replicate n 0) := by
 have e : (zeros n).map (Value.int .i64) = (List.replicate n 0).map fun d : Nat => Value.int .i64 (d : Nat) := by unfold zeros; simp [List.map_replicate]
 rw [e]; exact Blk.new' _ _ _ _ h
theorem rval_set : ∀ (l : List Nat) (i d : Nat), i < l.length → T.val (l.set i d) + 10000 ^ i * nthd l i = T.val l + 10000 ^ i * d
 | [], _, _, h => by simp at h
 | x :: l, 0, d, _ => by simp [T.val, nthd]; omega
 | x :: l, i + 1, d, h => by
   have ih := rval_set l i d (by simpa using h)
   have e : nthd (x :: l) (i + 1) = nthd l i := rfl
   simp only [List.set_cons_succ, T.val, e, Nat.pow_succ]
   have e1 : 10000 ^ i * 10000 * nthd l i = 10000 * (10000 ^ i * nthd l i) := by rw [Nat.mul_comm (10000 ^ i), Nat.mul_assoc]
   have e2 : 10000 ^ i * 10000 * d = 10000 * (10000 ^ i * d) := by rw [Nat.mul_comm (10000 ^ i), Nat.mul_assoc]
   omega
theorem rdig_set {l : List Nat} (h : T.Dig l) (k : Nat) {d : Nat} (hd : d < 10000) : T.Dig (l.set k d) := fun x hx => by
 rcases List.mem_or_eq_of_mem_set hx with h1 | h1
 ·exact h x h1
 ·rw [h1]; exact hd
theorem nthd_set (l : List Nat) (i j d : Nat) (h : i ≠ j) : nthd (l.set i d) j = nthd l j := by
 unfold nthd; rw [List.getD_eq_getElem?_getD, List.getD_eq_getElem?_getD, List.getElem?_set_ne h]
structure MulRow (a b os : List Nat) (i : Nat) : Prop where
 len : os.length = a.length + b.length
 dig : T.Dig os
 val : T.val os = T.val (a.take i) * T.val b
 zero : ∀ j, i + b.length ≤ j → nthd os j = 0
structure MulIn (a b os : List Nat) (i k c : Nat) : Prop where
 len : os.length = a.length + b.length
 dig : T.Dig os
 car : c < 10000
 val : T.val os + 10000 ^ (i + k) * c = T.val (a.take i) * T.val b + 10000 ^ i * nthd a i * T.val (b.take k)
 zero : ∀ j, i + b.length ≤ j → nthd os j = 0
theorem MulRow.start (a b : List Nat) : MulRow a b (List.replicate (a.length + b.length) 0) 0 := by
 have hz : ∀ n, T.val (List.replicate n 0) = 0 := fun n => by
  induction n with
  | zero => rfl
  | succ n ih => rw [List.replicate_succ]; simp only [T.val]; omega
 refine ⟨by simp, fun d hd => by rw [(List.mem_replicate.1 hd).2]; omega, by rw [hz]; simp [T.val], fun j _ => ?_⟩
 unfold nthd; rw [List.getD_eq_getElem?_getD, List.getElem?_replicate]; split <;> rfl
theorem MulRow.enter {a b os : List Nat} {i : Nat} (h : MulRow a b os i) : MulIn a b os i 0 0 := ⟨h.len, h.dig, by omega, by rw [h.val]; simp [T.val], h.zero⟩
theorem mul_digit {x y : Nat} (hx : x < 10000) (hy : y < 10000) : x * y ≤ 99980001 := by
 have := Nat.mul_le_mul (show x ≤ 9999 by omega) (show y ≤ 9999 by omega)
 omega
theorem MulIn.step {a b os : List Nat} {i k c : Nat} (h : MulIn a b os i k c) (ha : T.Dig a) (hb : T.Dig b) (hi : i < a.length) (hk : k < b.length) :
  MulIn a b (os.set (i + k) ((nthd os (i + k) + nthd a i * nthd b k + c) % 10000)) i (k + 1) ((nthd os (i + k) + nthd a i * nthd b k + c) / 10000) := by
 have x : nthd a i < 10000 := ha.nth i
 have y : nthd b k < 10000 := hb.nth k
 have o : nthd os (i + k) < 10000 := h.dig.nth (i + k)
 have hc := h.car
 have hp := mul_digit x y
 refine ⟨by rw [List.length_set]; exact h.len, rdig_set h.dig _ (Nat.mod_lt _ (by omega)), by omega, ?_, fun j hj => ?_⟩
 ·have hv := h.val
  have hs := rval_set os (i + k) ((nthd os (i + k) + nthd a i * nthd b k + c) % 10000) (by rw [h.len]; omega)
  rw [rval_take b k]
  have e0 : 10000 ^ (i + (k + 1)) = 10000 ^ (i + k) * 10000 := by rw [← Nat.add_assoc, Nat.pow_succ]
  rw [e0]
  have e1 : 10000 ^ i * nthd a i * (T.val (b.take k) + 10000 ^ k * nthd b k) = 10000 ^ i * nthd a i * T.val (b.take k) + 10000 ^ (i + k) * (nthd a i * nthd b k) := by
   rw [Nat.mul_add]; congr 1
   rw [Nat.pow_add, Nat.mul_assoc, Nat.mul_assoc]; congr 1
   rw [← Nat.mul_assoc, Nat.mul_comm (nthd a i), Nat.mul_assoc]
  rw [e1]
  generalize nthd a i * nthd b k = p at *
  generalize nthd os (i + k) = q at *
  generalize 10000 ^ (i + k) = P at *
  have e2 : (q + p + c) % 10000 + 10000 * ((q + p + c) / 10000) = q + p + c := by omega
  have e3 : P * ((q + p + c) % 10000) + P * 10000 * ((q + p + c) / 10000) = P * q + P * p + P * c := by
   rw [Nat.mul_assoc, ← Nat.mul_add, e2, Nat.mul_add, Nat.mul_add]
  omega
 ·rw [nthd_set _ _ _ _ (by omega)]; exact h.zero j hj
theorem MulIn.done {a b os : List Nat} {i c : Nat} (h : MulIn a b os i b.length c) (hi : i < a.length) : MulRow a b (os.set (i + b.length) c) (i + 1) := by
 refine ⟨by rw [List.length_set]; exact h.len, rdig_set h.dig _ h.car, ?_, fun j hj => ?_⟩
 ·have hv := h.val
  have hs := rval_set os (i + b.length) c (by rw [h.len]; omega)
  rw [h.zero _ (Nat.le_refl _), Nat.mul_zero, Nat.add_zero] at hs
  rw [hs, hv, rval_take a i, List.take_length, Nat.add_mul]
 ·rw [nthd_set _ _ _ _ (by omega)]; exact h.zero j (by omega)
theorem MulRow.done {a b os : List Nat} (h : MulRow a b os a.length) : T.trimL os = T.digits (T.val a * T.val b) := by
 rw [T.trimL_digits h.dig, h.val, List.take_length]
set_option maxRecDepth 100000 in
set_option maxHeartbeats 2000000 in
theorem rmulD_calls (A B : Option Addr) (ca cb : Nat) (a b : List Nat) (w : World) (ha : T.Dig a) (hb : T.Dig b) (hla : a.length ≤ 400000) (hlb : b.length ≤ 400000) (hA : Rds w A a) (hB : Rds w B b) :
  Calls Tryz.prog 104 #[.slice A a.length ca, .slice B b.length cb] w fun e w' => ∃ v, e = .returned v ∧ OwnD w' w.heap.size v (T.digits (T.val a * T.val b)) ∧ Below w.heap.size w w' := by
 have hmk := fun w => run_makeInts w (a.length + b.length) (by omega)
 have ec : ((a.length + b.length : Nat) : Int) = (a.length : Int) + b.length := by push_cast; rfl
 rw [ec] at hmk
 clear ec
 go_enter Tryz.func104, Tryz.ntmps104
 go_wp2_with fail
 clear hmk
 go_loopw [6, 7, 8, 9] (fun i _ _ _ wr => ∃ (n : Nat) (os : List Nat), n ≤ a.length ∧ i = .int .i64 n ∧ DBlk wr w.heap.size os ∧ MulRow a b os n ∧ Below w.heap.size w wr) (fun i _ _ _ _ => a.length - (intOf i).toNat)
 case atStart => exact ⟨0, _, Nat.zero_le _, rfl, DBlk.made _ _ _ rfl, MulRow.start a b, (Below.refl _ _).alloc (Nat.le_refl _) _⟩
 case round =>
  obtain ⟨n, os, hn, rfl, hos, hrow, hbe⟩ := hrel
  by_cases hlt : n < a.length
  ·have hin := Lib.hid hrow.enter
   obtain ⟨wo, rfl⟩ : ∃ wo : World, wo = wr := ⟨_, rfl⟩
   have hn1 : (n : Int) < a.length := by omega
   clear hrow
   go_wp2_with fail
   go_loopw [7, 8, 9] (fun c k _ wr => ∃ (m cn : Nat) (os : List Nat), m ≤ b.length ∧ k = .int .i64 m ∧ c = .int .i64 cn ∧ DBlk wr w.heap.size os ∧ Hid (MulIn a b os n m cn) ∧ Below w.heap.size w wr) (fun _ k _ _ => b.length - (intOf k).toNat)
   case atStart => exact ⟨0, 0, os, Nat.zero_le _, rfl, rfl, hos, hin, hbe⟩
   case round =>
    clear hos hin hbe
    obtain ⟨m, cn, os, hm, rfl, rfl, hos, hin, hbe⟩ := hrel
    have hcar := hin.out.car
    have hln : Hid (os.length = a.length + b.length) := Lib.hid hin.out.len
    have bl := Blk.lt hos
    by_cases hlm : m < b.length
    ·obtain ⟨b1, o1, rfl, g1⟩ := (hA.ext hbe) n hlt
     obtain ⟨b2, o2, rfl, g2⟩ := (hB.ext hbe) m hlm
     have g3 := hos.cell (n + m) (by rw [hln.out]; omega)
     have f3 := Blk.free hos (n + m)
     have x : nthd a n < 10000 := ha.nth n
     have y : nthd b m < 10000 := hb.nth m
     have o : nthd os (n + m) < 10000 := hin.out.dig.nth (n + m)
     have hp := mul_digit x y
     have hst := Lib.hid (hin.out.step ha hb hlt hlm)
     have hset := Lib.hid (fun wq : World => fun h : DBlk wq w.heap.size os => h.set (n + m) ((nthd os (n + m) + nthd a n * nthd b m + cn) % 10000))
     have HOS := Lib.hid hos; have HB := Lib.hid hbe
     have hpi : ((nthd a n * nthd b m : Nat) : Int) = (nthd a n : Int) * nthd b m := by push_cast; rfl
     have hp2 : 0 ≤ (nthd a n : Int) * nthd b m ∧ (nthd a n : Int) * nthd b m ≤ 99980001 := by omega
     have E1 : Hid ((((nthd os (n + m) + nthd a n * nthd b m + cn) % 10000 : Nat) : Int) = ((nthd os (n + m) : Int) + (nthd a n : Int) * nthd b m + cn) % 10000) := Lib.hid (by omega)
     have E2 : Hid ((((nthd os (n + m) + nthd a n * nthd b m + cn) / 10000 : Nat) : Int) = ((nthd os (n + m) : Int) + (nthd a n : Int) * nthd b m + cn) / 10000) := Lib.hid (by omega)
     have h1 : (m : Int) < b.length := by omega
     have h2 : (n : Int) + m < (a.length : Int) + b.length := by omega
     clear hpi hp hos hin hbe
     go_wp2_with fail
     go_quiet (fail)
     go_wp2_with fail
     go_roundw
     case rel => exact ⟨m + 1, _, _, by omega, by go_num, by rw [← E2.out], by rw [← E1.out]; exact hset.out _ (HOS.out.drewN nq), hst.out, (HB.out.trans ((drewN_below _ _).mono HB.out.size)).setCell (Nat.le_refl _) _⟩
     case measure => simp [intOf]; omega
    ·obtain rfl : m = b.length := by omega
     have g3 := hos.cell (n + b.length) (by rw [hln.out]; omega)
     have f3 := Blk.free hos (n + b.length)
     have h2 : (n : Int) + b.length < (a.length : Int) + b.length := by omega
     have hst := Lib.hid (hin.out.done hlt)
     have hset := Lib.hid (hos.set (n + b.length) cn)
     have HB := Lib.hid hbe
     clear hos hin hbe
     go_wp2_with fail
     go_roundw
     case rel => exact ⟨n + 1, _, by omega, by go_num, hset.out, hst.out, HB.out.setCell (Nat.le_refl _) _⟩
     case measure => simp [intOf]; omega
  ·obtain rfl : n = a.length := by omega
   have htr := rtrim_calls (some ⟨w.heap.size, 0, none⟩) (a.length + b.length) os wr (by rw [hrow.len]; omega) hos.rds
   rw [hrow.done, hrow.len] at htr
   have HT := Lib.hid htr; have HB := Lib.hid hbe
   have hs := hbe.size
   clear htr hrow hos hbe
   go_wp2_with fail
   refine HT.out.mono ?_; rintro e w1 ⟨v, rfl, ho, hb1⟩
   have HO := Lib.hid ho; have HB1 := Lib.hid (HB.out.trans (hb1.mono hs))
   clear ho hb1 HT
   go_wp2
   go_ret
   exact ⟨v, rfl, HO.out.mono hs, HB1.out⟩
end Go.Proofs.YtkljafmdbajfeaaGreatDoor

/- The reference's whole numbers: Neg, Plus, Minus, Times, Compare. -/
namespace Go.Proofs.YtkljafmdbajfeaaGreatDoor
open Go.RowKit
set_option linter.unusedVariables false
set_option linter.unusedSimpArgs false
def Few (x : Int) : Prop := (T.digits x.natAbs).length ≤ 100000
theorem digits_mul {m n k : Nat} (h1 : (T.digits m).length ≤ k) (h2 : (T.digits n).length ≤ k) : (T.digits (m * n)).length ≤ k + k := by
 refine T.digits_len ?_
 have e1 := T.val_lt (T.digits_dig m)
 have e2 := T.val_lt (T.digits_dig n)
 rw [T.val_digits] at e1 e2
 have e3 : 10000 ^ (T.digits m).length ≤ 10000 ^ k := Nat.pow_le_pow_right (by omega) h1
 have e4 : 10000 ^ (T.digits n).length ≤ 10000 ^ k := Nat.pow_le_pow_right (by omega) h2
 rw [Nat.pow_add]
 exact Nat.mul_lt_mul_of_lt_of_le (Nat.lt_of_lt_of_le e1 e3) (Nat.le_of_lt (Nat.lt_of_lt_of_le e2 e4)) (Nat.pow_pos (by omega))
theorem sgnd_mul (x y : Int) : sgnd (decide (x < 0) != decide (y < 0)) (x.natAbs * y.natAbs) = x * y := by
 by_cases h : x < 0
 ·obtain ⟨m, rfl⟩ : ∃ m : Nat, x = -(m : Int) := ⟨x.natAbs, by omega⟩
  by_cases h2 : y < 0
  ·obtain ⟨k, rfl⟩ : ∃ k : Nat, y = -(k : Int) := ⟨y.natAbs, by omega⟩
   rw [decide_eq_true h, decide_eq_true h2]; simp [sgnd]; rw [Int.neg_mul_neg]
  ·obtain ⟨k, rfl⟩ : ∃ k : Nat, y = k := ⟨y.toNat, by omega⟩
   rw [decide_eq_true h, decide_eq_false h2]; simp [sgnd]; rw [Int.neg_mul]
 ·obtain ⟨m, rfl⟩ : ∃ m : Nat, x = m := ⟨x.toNat, by omega⟩
  by_cases h2 : y < 0
  ·obtain ⟨k, rfl⟩ : ∃ k : Nat, y = -(k : Int) := ⟨y.natAbs, by omega⟩
   rw [decide_eq_false h, decide_eq_true h2]; simp [sgnd]; rw [Int.mul_neg]
  ·obtain ⟨k, rfl⟩ : ∃ k : Nat, y = k := ⟨y.toNat, by omega⟩
   rw [decide_eq_false h, decide_eq_false h2]; simp [sgnd]
theorem RB.form {w : World} {v : Value} {z : Int} (h : RB w v z) : ∃ A c, v = .agg #[.bool (decide (z < 0)), .slice A (T.digits z.natAbs).length c] ∧ Rds w A (T.digits z.natAbs) := by
 obtain ⟨sl, rfl, A, c, rfl, -, -, hR⟩ := h; exact ⟨A, c, rfl, hR⟩
set_option maxRecDepth 100000 in
set_option maxHeartbeats 2000000 in
theorem rTimes_calls (v1 v2 : Value) (x y : Int) (w : World) (h1 : RB w v1 x) (h2 : RB w v2 y) (l1 : Few x) (l2 : Few y) :
  Calls Tryz.prog 44 #[v1, v2] w fun e w' => ∃ v', e = .returned v' ∧ RBo w' w.heap.size v' (x * y) ∧ Below w.heap.size w w' := by
 obtain ⟨A, ca, rfl, hA⟩ := h1.form
 obtain ⟨B, cb, rfl, hB⟩ := h2.form
 obtain ⟨bx, hbx⟩ : ∃ b, decide (x < 0) = b := ⟨_, rfl⟩
 obtain ⟨bY, hby⟩ : ∃ b, decide (y < 0) = b := ⟨_, rfl⟩
 rw [hbx, hby]
 have HBX := Lib.hid hbx; have HBY := Lib.hid hby
 have hb0 : ∀ o o', Below w.heap.size w ((w.alloc o).alloc o') := fun o o' => ((Below.refl _ _).alloc (Nat.le_refl _) _).alloc (by simp) _
 have hbe : Below w.heap.size w (((w.alloc (.cells #[.bool bx, .slice A (T.digits x.natAbs).length ca] 61 (0, 0))).alloc (.cells #[.bool bY, .slice B (T.digits y.natAbs).length cb] 61 (0, 0))).alloc (.cells #[.bool false, .slice none 0 0] 61 (0, 0))) := (hb0 _ _).alloc (by simp; omega) _
 have B0 : Blk (((w.alloc (.cells #[.bool bx, .slice A (T.digits x.natAbs).length ca] 61 (0, 0))).alloc (.cells #[.bool bY, .slice B (T.digits y.natAbs).length cb] 61 (0, 0))).alloc (.cells #[.bool false, .slice none 0 0] 61 (0, 0))) w.heap.size [.bool bx, .slice A (T.digits x.natAbs).length ca] 61 := ((Blk.new w _ _).alloc _).alloc _
 have B1 : Blk (((w.alloc (.cells #[.bool bx, .slice A (T.digits x.natAbs).length ca] 61 (0, 0))).alloc (.cells #[.bool bY, .slice B (T.digits y.natAbs).length cb] 61 (0, 0))).alloc (.cells #[.bool false, .slice none 0 0] 61 (0, 0))) (w.heap.size + 1) [.bool bY, .slice B (T.digits y.natAbs).length cb] 61 := (Blk.new' _ [.bool bY, .slice B (T.digits y.natAbs).length cb] _ _ (by simp)).alloc _
 have B2 : Blk (((w.alloc (.cells #[.bool bx, .slice A (T.digits x.natAbs).length ca] 61 (0, 0))).alloc (.cells #[.bool bY, .slice B (T.digits y.natAbs).length cb] 61 (0, 0))).alloc (.cells #[.bool false, .slice none 0 0] 61 (0, 0))) (w.heap.size + 1 + 1) [.bool false, .slice none 0 0] 61 := Blk.new' _ [.bool false, .slice none 0 0] _ _ (by simp)
 have HM : Hid (∀ w2 : World, Below w.heap.size w w2 → Calls Tryz.prog 104 #[.slice A (T.digits x.natAbs).length ca, .slice B (T.digits y.natAbs).length cb] w2 fun e w' => ∃ v, e = .returned v ∧ OwnD w' w2.heap.size v (T.digits (x.natAbs * y.natAbs)) ∧ Below w2.heap.size w2 w') := Lib.hid (fun w2 hb => by
  have := rmulD_calls A B ca cb (T.digits x.natAbs) (T.digits y.natAbs) w2 (T.digits_dig _) (T.digits_dig _) (Nat.le_trans l1 (by omega)) (Nat.le_trans l2 (by omega)) (hA.ext hb) (hB.ext hb)
  rw [T.val_digits, T.val_digits] at this; exact this)
 have HWH : Hid (∀ (q : Bool), q = (bx != bY) → ∀ (A3 : Option Addr) (c3 : Nat) (w2 : World), Rds w2 A3 (T.digits (x.natAbs * y.natAbs)) → (T.digits (x.natAbs * y.natAbs)).length ≤ 1000000 → Calls Tryz.prog 103 #[.bool q, .slice A3 (T.digits (x.natAbs * y.natAbs)).length c3] w2 fun e w' => ∃ v, e = .returned v ∧ RBo w' w2.heap.size v (x * y) ∧ Below w2.heap.size w2 w') := Lib.hid (fun q hq A3 c3 w2 hR hl => by
  have := rwhole_calls q A3 c3 (T.digits (x.natAbs * y.natAbs)) w2 hl (T.digits_dig _) hR
  rw [T.val_digits, hq, ← HBX.out, ← HBY.out, sgnd_mul] at this
  rw [hq, ← HBX.out, ← HBY.out]; exact this)
 have HLN : Hid ((T.digits (x.natAbs * y.natAbs)).length ≤ 1000000) := Lib.hid (by
  have := digits_mul l1 l2
  omega)
 clear h1 h2 hA hB l1 l2 hbx hby
 have HBE := Lib.hid hbe
 go_enter Tryz.func44, Tryz.ntmps44
 go_wp2_with fail
 generalize (((w.alloc (.cells #[.bool bx, .slice A (T.digits x.natAbs).length ca] 61 (0, 0))).alloc (.cells #[.bool bY, .slice B (T.digits y.natAbs).length cb] 61 (0, 0))).alloc (.cells #[.bool false, .slice none 0 0] 61 (0, 0))) = W at *
 have a0 := B0.cell 0 (by simp); have a1 := B0.cell 1 (by simp); have b0 := B1.cell 0 (by simp); have b1 := B1.cell 1 (by simp); have c0 := B2.cell 0 (by simp); have c1 := B2.cell 1 (by simp); have f0 := B2.free 0; have f1 := B2.free 1; have bl := B2.lt
 simp only [List.getElem_cons_zero, List.getElem_cons_succ] at a0 a1 b0 b1 c0 c1
 have HB0 := Lib.hid B0; have HB1 := Lib.hid B1; have HB2 := Lib.hid B2
 clear B0 B1 B2 hbe hb0
 have ne1 : w.heap.size + 1 + 1 ≠ w.heap.size := by omega
 have ne2 : w.heap.size + 1 + 1 ≠ w.heap.size + 1 := by omega
 go_region_held3 (fun w' => w'.cell? ⟨w.heap.size, 0, none⟩ = some (.bool bx) ∧ w'.cell? ⟨w.heap.size, 1, none⟩ = some (.slice A (T.digits x.natAbs).length ca) ∧ w'.cell? ⟨w.heap.size + 1, 0, none⟩ = some (.bool bY) ∧ w'.cell? ⟨w.heap.size + 1, 1, none⟩ = some (.slice B (T.digits y.natAbs).length cb))
  (first | (go_keep; done))
  (first
    | (go_at_call 104; refine (HM.out W.drew (HBE.out.trans (((Below.refl _ W).drew).mono HBE.out.size))).mono ?_; rintro e w3 ⟨v, rfl, ho, hb3⟩; obtain ⟨A3, c3, rfl, -, -, hR⟩ := ho.rsl; have B0 := Blk.ext (w := W.drew) HB0.out hb3; have B1 := Blk.ext (w := W.drew) HB1.out hb3; have B2 := Blk.ext (w := W.drew) HB2.out hb3; have a0 := B0.cell 0 (by simp); have a1 := B0.cell 1 (by simp); have b0 := B1.cell 0 (by simp); have b1 := B1.cell 1 (by simp); have c0 := B2.cell 0 (by simp); have c1 := B2.cell 1 (by simp); have f0 := B2.free 0; have f1 := B2.free 1; have bl := B2.lt; simp only [List.getElem_cons_zero, List.getElem_cons_succ] at a0 a1 b0 b1 c0 c1; have hs3 := hb3.size; have HX3 := Lib.hid (ext_trans (HBE.out.trans (((Below.refl _ W).drew).mono HBE.out.size)) hb3); clear ho)
    | (go_at_call 103; refine (HWH.out _ (by cases bx <;> cases bY <;> rfl) A3 c3 _ hR HLN.out).mono ?_; rintro e w4 ⟨v4, rfl, ⟨sl, rfl, ho⟩, hb4⟩; have B0 := B0.ext hb4; have B1 := B1.ext hb4; have B2 := B2.ext hb4; have a0 := B0.cell 0 (by simp); have a1 := B0.cell 1 (by simp); have b0 := B1.cell 0 (by simp); have b1 := B1.cell 1 (by simp); have c0 := B2.cell 0 (by simp); have c1 := B2.cell 1 (by simp); have f0 := B2.free 0; have f1 := B2.free 1; have bl := B2.lt; simp only [List.getElem_cons_zero, List.getElem_cons_succ] at a0 a1 b0 b1 c0 c1; have hs4 := hb4.size; have HX := Lib.hid (ext_trans HX3.out hb4); obtain ⟨A2, k2, rfl, -, -, -⟩ := ho.rsl; obtain ⟨q2, hq2⟩ : ∃ q, decide (x * y < 0) = q := ⟨_, rfl⟩; obtain ⟨L2, hL2⟩ : ∃ L, (T.digits (x * y).natAbs).length = L := ⟨_, rfl⟩; have HQ := Lib.hid hq2; have HL := Lib.hid hL2; have HO := Lib.hid ho; rw [hq2, hL2]; clear hq2 hL2 ho))
 all_goals
  go_wp2_with fail
  try simp only [Exit.inBlock, Exit.then]
  refine bodyPost_ret (v := .agg #[.bool q2, .slice A2 L2 k2]) (by simp [results, Tryz.results44, go_sem, bl, c0, c1]) rfl ⟨_, rfl, ⟨.slice A2 L2 k2, by rw [HQ.out], ?_⟩, (HX.out.setCell (by dsimp only; omega) _).setCell (by dsimp only; omega) _⟩
  have ho := HO.out
  rw [HL.out] at ho
  exact ((ho.set _ _ (by dsimp only; omega)).set _ _ (by dsimp only; omega)).mono (by omega)
theorem sgn_of (x y : Int) (h : decide (x < 0) = decide (y < 0)) : (if x < 0 then -sgn x.natAbs y.natAbs else sgn x.natAbs y.natAbs) = sgnI x y := by
 by_cases h1 : x < 0
 ·have h2 : y < 0 := by simpa [h1] using h
  rw [if_pos h1]
  rcases Int.lt_trichotomy x y with h3 | h3 | h3
  ·rw [sgn_gt (by omega), sgnI_lt h3]
  ·rw [sgn_eq (by omega), sgnI_eq h3]; rfl
  ·rw [sgn_lt (by omega), sgnI_gt h3]; rfl
 ·have h2 : ¬ y < 0 := by simpa [h1] using h
  rw [if_neg h1]
  rcases Int.lt_trichotomy x y with h3 | h3 | h3
  ·rw [sgn_lt (by omega), sgnI_lt h3]
  ·rw [sgn_eq (by omega), sgnI_eq h3]
  ·rw [sgn_gt (by omega), sgnI_gt h3]
set_option maxRecDepth 100000 in
set_option maxHeartbeats 1000000 in
theorem rCompare_calls (v1 v2 : Value) (x y : Int) (w : World) (h1 : RB w v1 x) (h2 : RB w v2 y) (l1 : Few x) (l2 : Few y) :
  Calls Tryz.prog 43 #[v1, v2] w fun e w' => e = .returned (.int .i64 (sgnI x y)) ∧ Below w.heap.size w w' := by
 obtain ⟨A, ca, rfl, hA⟩ := h1.form
 obtain ⟨B, cb, rfl, hB⟩ := h2.form
 have hb0 : ∀ o o', Below w.heap.size w ((w.alloc o).alloc o') := fun o o' => ((Below.refl _ _).alloc (Nat.le_refl _) _).alloc (by simp) _
 have hm : ∀ n, n ≤ 100000 → n ≤ maxLen := fun n h => by unfold maxLen; omega
 have hcm := Lib.hid fun o o' => rcmpD_calls A B ca cb x.natAbs y.natAbs ((w.alloc o).alloc o') (hm _ l1) (hm _ l2) (hA.ext (hb0 o o')) (hB.ext (hb0 o o'))
 have HB0 := Lib.hid hb0
 clear hA hB h1 h2 hm
 have hsc : Hid (decide (x < 0) = decide (y < 0) → (if x < 0 then -sgn x.natAbs y.natAbs else sgn x.natAbs y.natAbs) = sgnI x y) := Lib.hid (sgn_of x y)
 have hs1 : sgn x.natAbs y.natAbs = -1 ∨ sgn x.natAbs y.natAbs = 0 ∨ sgn x.natAbs y.natAbs = 1 := by unfold sgn; split <;> (try split) <;> simp
 generalize sgn x.natAbs y.natAbs = S at *
 by_cases hx : x < 0
 ·have dx : decide (x < 0) = true := decide_eq_true hx
  by_cases hy : y < 0
  ·have dy : decide (y < 0) = true := decide_eq_true hy
   have HS : Hid (-S = sgnI x y) := Lib.hid (by have := hsc.out (by rw [dx, dy]); rw [if_pos hx] at this; exact this)
   rw [dx, dy]
   clear hx hy dx dy hsc hb0
   go_enter Tryz.func43, Tryz.ntmps43
   go_wp2_with fail
   refine (hcm.out _ _).mono ?_; rintro e w1 ⟨rfl, k, rfl⟩
   go_wp2_with fail
   go_ret
   exact ⟨by rw [← HS.out]; rfl, ext_trans (HB0.out _ _) (drewN_below _ k)⟩
  ·have dy : decide (y < 0) = false := decide_eq_false hy
   have HS : Hid (sgnI x y = -1) := Lib.hid (sgnI_lt (by omega))
   rw [dx, dy]
   clear hx hy dx dy hsc hb0 hs1
   go_enter Tryz.func43, Tryz.ntmps43
   go_wp2_with fail
   go_ret
   exact ⟨by rw [HS.out]; rfl, HB0.out _ _⟩
 ·have dx : decide (x < 0) = false := decide_eq_false hx
  by_cases hy : y < 0
  ·have dy : decide (y < 0) = true := decide_eq_true hy
   have HS : Hid (sgnI x y = 1) := Lib.hid (sgnI_gt (by omega))
   rw [dx, dy]
   clear hx hy dx dy hsc hb0 hs1
   go_enter Tryz.func43, Tryz.ntmps43
   go_wp2_with fail
   go_ret
   exact ⟨by rw [HS.out]; rfl, HB0.out _ _⟩
  ·have dy : decide (y < 0) = false := decide_eq_false hy
   have HS : Hid (S = sgnI x y) := Lib.hid (by have := hsc.out (by rw [dx, dy]); rw [if_neg hx] at this; exact this)
   rw [dx, dy]
   clear hx hy dx dy hsc hb0
   go_enter Tryz.func43, Tryz.ntmps43
   go_wp2_with fail
   refine (hcm.out _ _).mono ?_; rintro e w1 ⟨rfl, k, rfl⟩
   go_wp2_with fail
   go_ret
   exact ⟨by rw [← HS.out]; rfl, ext_trans (HB0.out _ _) (drewN_below _ k)⟩
end Go.Proofs.YtkljafmdbajfeaaGreatDoor
