/- The reference's whole numbers: mulD. -/
import Derived.Test.YtbdlfjhhgnhejaaRD
namespace Go.Proofs.Ytbdlfjhhgnhejaa
open Go.RowKit
set_option linter.unusedVariables false
set_option linter.unusedSimpArgs false

/-- Block b holds just these digits. -/
def DBlk (w : World) (b : Nat) (ds : List Nat) : Prop := Blk w b (ds.map fun d => Value.int .i64 (d : Nat)) 3
theorem DBlk.cell {w : World} {b : Nat} {ds : List Nat} (h : DBlk w b ds) (i : Nat) (hi : i < ds.length) : w.cell? ⟨b, i, none⟩ = some (.int .i64 (nthd ds i : Nat)) := by
  rw [Blk.cell h i (by simpa using hi)]; simp [nthd_lt hi]
theorem DBlk.set {w : World} {b : Nat} {ds : List Nat} (h : DBlk w b ds) (i d : Nat) : DBlk (w.setCell ⟨b, i, none⟩ (.int .i64 (d : Nat))) b (ds.set i d) := by
  have := Blk.set h i (.int .i64 (d : Nat)); unfold DBlk; rw [List.map_set]; exact this
theorem DBlk.rds {w : World} {b : Nat} {ds : List Nat} (h : DBlk w b ds) : Rds w (some ⟨b, 0, none⟩) ds := fun i hi => ⟨b, 0, rfl, by rw [Nat.zero_add]; exact h.cell i hi⟩
theorem DBlk.drewN {w : World} {b : Nat} {ds : List Nat} (h : DBlk w b ds) (n : Nat) : DBlk (w.drewN n) b ds := h
theorem DBlk.made (w : World) (n b : Nat) (h : w.heap.size = b) : DBlk (w.alloc (.cells ((zeros n).map (Value.int .i64)).toArray 3 (0, 0))) b (List.replicate n 0) := by
  have e : (zeros n).map (Value.int .i64) = (List.replicate n 0).map fun d : Nat => Value.int .i64 (d : Nat) := by unfold zeros; simp [List.map_replicate]
  rw [e]; exact Blk.new' _ _ _ _ h

theorem rval_set : ∀ (l : List Nat) (i d : Nat), i < l.length → T.val (l.set i d) + 10000 ^ i * nthd l i = T.val l + 10000 ^ i * d
  | [], _, _, h => by simp at h
  | x :: l, 0, d, _ => by simp [T.val, nthd]; omega
  | x :: l, i + 1, d, h => by
    have ih := rval_set l i d (by simpa using h)
    have e : nthd (x :: l) (i + 1) = nthd l i := rfl
    simp only [List.set_cons_succ, T.val, e, Nat.pow_succ]
    have e1 : 10000 ^ i * 10000 * nthd l i = 10000 * (10000 ^ i * nthd l i) := by rw [Nat.mul_comm (10000 ^ i), Nat.mul_assoc]
    have e2 : 10000 ^ i * 10000 * d = 10000 * (10000 ^ i * d) := by rw [Nat.mul_comm (10000 ^ i), Nat.mul_assoc]
    omega
theorem rdig_set {l : List Nat} (h : T.Dig l) (k : Nat) {d : Nat} (hd : d < 10000) : T.Dig (l.set k d) := fun x hx => by
  rcases List.mem_or_eq_of_mem_set hx with h1 | h1
  · exact h x h1
  · rw [h1]; exact hd
theorem nthd_set (l : List Nat) (i j d : Nat) (h : i ≠ j) : nthd (l.set i d) j = nthd l j := by
  unfold nthd; rw [List.getD_eq_getElem?_getD, List.getD_eq_getElem?_getD, List.getElem?_set_ne h]

/-- The product's digits behind i rows. -/
structure MulRow (a b os : List Nat) (i : Nat) : Prop where
  len : os.length = a.length + b.length
  dig : T.Dig os
  val : T.val os = T.val (a.take i) * T.val b
  zero : ∀ j, i + b.length ≤ j → nthd os j = 0
/-- The same within row i, behind k places, with a carry. -/
structure MulIn (a b os : List Nat) (i k c : Nat) : Prop where
  len : os.length = a.length + b.length
  dig : T.Dig os
  car : c < 10000
  val : T.val os + 10000 ^ (i + k) * c = T.val (a.take i) * T.val b + 10000 ^ i * nthd a i * T.val (b.take k)
  zero : ∀ j, i + b.length ≤ j → nthd os j = 0
theorem MulRow.start (a b : List Nat) : MulRow a b (List.replicate (a.length + b.length) 0) 0 := by
  have hz : ∀ n, T.val (List.replicate n 0) = 0 := fun n => by
    induction n with
    | zero => rfl
    | succ n ih => rw [List.replicate_succ]; simp only [T.val]; omega
  refine ⟨by simp, fun d hd => by rw [(List.mem_replicate.1 hd).2]; omega, by rw [hz]; simp [T.val], fun j _ => ?_⟩
  unfold nthd; rw [List.getD_eq_getElem?_getD, List.getElem?_replicate]; split <;> rfl
theorem MulRow.enter {a b os : List Nat} {i : Nat} (h : MulRow a b os i) : MulIn a b os i 0 0 := ⟨h.len, h.dig, by omega, by rw [h.val]; simp [T.val], h.zero⟩
theorem mul_digit {x y : Nat} (hx : x < 10000) (hy : y < 10000) : x * y ≤ 99980001 := by
  have := Nat.mul_le_mul (show x ≤ 9999 by omega) (show y ≤ 9999 by omega)
  omega
theorem MulIn.step {a b os : List Nat} {i k c : Nat} (h : MulIn a b os i k c) (ha : T.Dig a) (hb : T.Dig b) (hi : i < a.length) (hk : k < b.length) :
    MulIn a b (os.set (i + k) ((nthd os (i + k) + nthd a i * nthd b k + c) % 10000)) i (k + 1) ((nthd os (i + k) + nthd a i * nthd b k + c) / 10000) := by
  have x : nthd a i < 10000 := ha.nth i
  have y : nthd b k < 10000 := hb.nth k
  have o : nthd os (i + k) < 10000 := h.dig.nth (i + k)
  have hc := h.car
  have hp := mul_digit x y
  refine ⟨by rw [List.length_set]; exact h.len, rdig_set h.dig _ (Nat.mod_lt _ (by omega)), by omega, ?_, fun j hj => ?_⟩
  · have hv := h.val
    have hs := rval_set os (i + k) ((nthd os (i + k) + nthd a i * nthd b k + c) % 10000) (by rw [h.len]; omega)
    rw [rval_take b k]
    have e0 : 10000 ^ (i + (k + 1)) = 10000 ^ (i + k) * 10000 := by rw [← Nat.add_assoc, Nat.pow_succ]
    rw [e0]
    have e1 : 10000 ^ i * nthd a i * (T.val (b.take k) + 10000 ^ k * nthd b k) = 10000 ^ i * nthd a i * T.val (b.take k) + 10000 ^ (i + k) * (nthd a i * nthd b k) := by
      rw [Nat.mul_add]; congr 1
      rw [Nat.pow_add, Nat.mul_assoc, Nat.mul_assoc]; congr 1
      rw [← Nat.mul_assoc, Nat.mul_comm (nthd a i), Nat.mul_assoc]
    rw [e1]
    generalize nthd a i * nthd b k = p at *
    generalize nthd os (i + k) = q at *
    generalize 10000 ^ (i + k) = P at *
    have e2 : (q + p + c) % 10000 + 10000 * ((q + p + c) / 10000) = q + p + c := by omega
    have e3 : P * ((q + p + c) % 10000) + P * 10000 * ((q + p + c) / 10000) = P * q + P * p + P * c := by
      rw [Nat.mul_assoc, ← Nat.mul_add, e2, Nat.mul_add, Nat.mul_add]
    omega
  · rw [nthd_set _ _ _ _ (by omega)]; exact h.zero j hj
theorem MulIn.done {a b os : List Nat} {i c : Nat} (h : MulIn a b os i b.length c) (hi : i < a.length) : MulRow a b (os.set (i + b.length) c) (i + 1) := by
  refine ⟨by rw [List.length_set]; exact h.len, rdig_set h.dig _ h.car, ?_, fun j hj => ?_⟩
  · have hv := h.val
    have hs := rval_set os (i + b.length) c (by rw [h.len]; omega)
    rw [h.zero _ (Nat.le_refl _), Nat.mul_zero, Nat.add_zero] at hs
    rw [hs, hv, rval_take a i, List.take_length, Nat.add_mul]
  · rw [nthd_set _ _ _ _ (by omega)]; exact h.zero j (by omega)
theorem MulRow.done {a b os : List Nat} (h : MulRow a b os a.length) : T.trimL os = T.digits (T.val a * T.val b) := by
  rw [T.trimL_digits h.dig, h.val, List.take_length]

set_option maxRecDepth 100000 in
set_option maxHeartbeats 2000000 in
theorem rmulD_calls (A B : Option Addr) (ca cb : Nat) (a b : List Nat) (w : World) (ha : T.Dig a) (hb : T.Dig b) (hla : a.length ≤ 400000) (hlb : b.length ≤ 400000) (hA : Rds w A a) (hB : Rds w B b) :
    Calls Try.prog 73 #[.slice A a.length ca, .slice B b.length cb] w fun e w' => ∃ v, e = .returned v ∧ OwnD w' w.heap.size v (T.digits (T.val a * T.val b)) ∧ Below w.heap.size w w' := by
  have hmk := fun w => run_makeInts w (a.length + b.length) (by omega)
  have ec : ((a.length + b.length : Nat) : Int) = (a.length : Int) + b.length := by push_cast; rfl
  rw [ec] at hmk
  clear ec
  go_enter Try.func73, Try.ntmps73
  go_wp2_with fail
  clear hmk
  go_loopw [6, 7, 8, 9] (fun i _ _ _ wr => ∃ (n : Nat) (os : List Nat), n ≤ a.length ∧ i = .int .i64 n ∧ DBlk wr w.heap.size os ∧ MulRow a b os n ∧ Below w.heap.size w wr) (fun i _ _ _ _ => a.length - (intOf i).toNat)
  case atStart => exact ⟨0, _, Nat.zero_le _, rfl, DBlk.made _ _ _ rfl, MulRow.start a b, (Below.refl _ _).alloc (Nat.le_refl _) _⟩
  case round =>
    obtain ⟨n, os, hn, rfl, hos, hrow, hbe⟩ := hrel
    by_cases hlt : n < a.length
    · have hin := Lib.hid hrow.enter
      obtain ⟨wo, rfl⟩ : ∃ wo : World, wo = wr := ⟨_, rfl⟩
      have hn1 : (n : Int) < a.length := by omega
      clear hrow
      go_wp2_with fail
      go_loopw [7, 8, 9] (fun c k _ wr => ∃ (m cn : Nat) (os : List Nat), m ≤ b.length ∧ k = .int .i64 m ∧ c = .int .i64 cn ∧ DBlk wr w.heap.size os ∧ Hid (MulIn a b os n m cn) ∧ Below w.heap.size w wr) (fun _ k _ _ => b.length - (intOf k).toNat)
      case atStart => exact ⟨0, 0, os, Nat.zero_le _, rfl, rfl, hos, hin, hbe⟩
      case round =>
        clear hos hin hbe
        obtain ⟨m, cn, os, hm, rfl, rfl, hos, hin, hbe⟩ := hrel
        have hcar := hin.out.car
        have hln : Hid (os.length = a.length + b.length) := Lib.hid hin.out.len
        have bl := Blk.lt hos
        by_cases hlm : m < b.length
        · obtain ⟨b1, o1, rfl, g1⟩ := (hA.ext hbe) n hlt
          obtain ⟨b2, o2, rfl, g2⟩ := (hB.ext hbe) m hlm
          have g3 := hos.cell (n + m) (by rw [hln.out]; omega)
          have f3 := Blk.free hos (n + m)
          have x : nthd a n < 10000 := ha.nth n
          have y : nthd b m < 10000 := hb.nth m
          have o : nthd os (n + m) < 10000 := hin.out.dig.nth (n + m)
          have hp := mul_digit x y
          have hst := Lib.hid (hin.out.step ha hb hlt hlm)
          have hset := Lib.hid (fun wq : World => fun h : DBlk wq w.heap.size os => h.set (n + m) ((nthd os (n + m) + nthd a n * nthd b m + cn) % 10000))
          have HOS := Lib.hid hos; have HB := Lib.hid hbe
          have hpi : ((nthd a n * nthd b m : Nat) : Int) = (nthd a n : Int) * nthd b m := by push_cast; rfl
          have hp2 : 0 ≤ (nthd a n : Int) * nthd b m ∧ (nthd a n : Int) * nthd b m ≤ 99980001 := by omega
          have E1 : Hid ((((nthd os (n + m) + nthd a n * nthd b m + cn) % 10000 : Nat) : Int) = ((nthd os (n + m) : Int) + (nthd a n : Int) * nthd b m + cn) % 10000) := Lib.hid (by omega)
          have E2 : Hid ((((nthd os (n + m) + nthd a n * nthd b m + cn) / 10000 : Nat) : Int) = ((nthd os (n + m) : Int) + (nthd a n : Int) * nthd b m + cn) / 10000) := Lib.hid (by omega)
          have h1 : (m : Int) < b.length := by omega
          have h2 : (n : Int) + m < (a.length : Int) + b.length := by omega
          clear hpi hp hos hin hbe
          go_wp2_with fail
          go_quiet (fail)
          go_wp2_with fail
          go_roundw
          case rel => exact ⟨m + 1, _, _, by omega, by go_num, by rw [← E2.out], by rw [← E1.out]; exact hset.out _ (HOS.out.drewN nq), hst.out, (HB.out.trans ((drewN_below _ _).mono HB.out.size)).setCell (Nat.le_refl _) _⟩
          case measure => simp [intOf]; omega
        · obtain rfl : m = b.length := by omega
          have g3 := hos.cell (n + b.length) (by rw [hln.out]; omega)
          have f3 := Blk.free hos (n + b.length)
          have h2 : (n : Int) + b.length < (a.length : Int) + b.length := by omega
          have hst := Lib.hid (hin.out.done hlt)
          have hset := Lib.hid (hos.set (n + b.length) cn)
          have HB := Lib.hid hbe
          clear hos hin hbe
          go_wp2_with fail
          go_roundw
          case rel => exact ⟨n + 1, _, by omega, by go_num, hset.out, hst.out, HB.out.setCell (Nat.le_refl _) _⟩
          case measure => simp [intOf]; omega
    · obtain rfl : n = a.length := by omega
      have htr := rtrim_calls (some ⟨w.heap.size, 0, none⟩) (a.length + b.length) os wr (by rw [hrow.len]; omega) hos.rds
      rw [hrow.done, hrow.len] at htr
      have HT := Lib.hid htr; have HB := Lib.hid hbe
      have hs := hbe.size
      clear htr hrow hos hbe
      go_wp2_with fail
      refine HT.out.mono ?_; rintro e w1 ⟨v, rfl, ho, hb1⟩
      have HO := Lib.hid ho; have HB1 := Lib.hid (HB.out.trans (hb1.mono hs))
      clear ho hb1 HT
      go_wp2
      go_ret
      exact ⟨v, rfl, HO.out.mono hs, HB1.out⟩
end Go.Proofs.Ytbdlfjhhgnhejaa
