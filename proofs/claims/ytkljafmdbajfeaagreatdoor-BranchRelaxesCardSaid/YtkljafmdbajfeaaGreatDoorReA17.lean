/- branch.prover.bound: the bound of a leaf. -/
import Derived.Test.YtkljafmdbajfeaaGreatDoorReA13
import Derived.Test.YtkljafmdbajfeaaGreatDoorReA14
namespace Go.Proofs.YtkljafmdbajfeaaGreatDoor
open Go.RowKit
def restN (a : List (List Int)) (ys : List Int) (k0 : Int) (j : Nat) : Nat → Int
 | 0 => k0
 | i + 1 => restN a ys k0 j i - nth ys i * nth (nrow a i) j
def restJ (a : List (List Int)) (c ys : List Int) (d f : Int) (j : Nat) : Int := restN a ys (f * nth c j * d) j a.length
def boundN (a : List (List Int)) (b c ys : List Int) (d f : Int) (lo hi : List Int) : Nat → Int
 | 0 => dotZ ys b
 | j + 1 => boundN a b c ys d f lo hi j + min (restJ a c ys d f j * nth lo j) (restJ a c ys d f j * nth hi j)
def leafOk (n : Nat) (ys : List Int) (d : Int) : Bool := decide (ys.length = n) && decide (1 ≤ d) && decide (d ≤ 1099511627776) && ys.all fun y => decide (0 ≤ y) && decide (y ≤ 1099511627776)
theorem leafOk_parts {n : Nat} {ys : List Int} {d : Int} (h : leafOk n ys d = true) : ys.length = n ∧ 1 ≤ d ∧ d ≤ 1099511627776 ∧ (∀ y ∈ ys, 0 ≤ y ∧ y ≤ 1099511627776) := by
 unfold leafOk at h; simp at h; obtain ⟨⟨⟨h1, h2⟩, h3⟩, h4⟩ := h; exact ⟨h1, h2, h3, h4⟩
def EndsOk (l : List Int) : Prop := l.length = 5 ∧ ∀ x ∈ l, 0 ≤ x ∧ x ≤ 7
theorem EndsOk.nth {l : List Int} (h : EndsOk l) (j : Nat) : 0 ≤ nth l j ∧ Go.Proofs.YtkljafmdbajfeaaGreatDoor.nth l j ≤ 7 := by
 by_cases hj : j < l.length
 ·exact h.2 _ (nth_mem hj)
 ·unfold Go.Proofs.YtkljafmdbajfeaaGreatDoor.nth; rw [List.getD_eq_getElem?_getD, List.getElem?_eq_none (by omega)]; simp
structure LeafFit (a : List (List Int)) (b c ys : List Int) (d f : Int) (lo hi : List Int) : Prop where
 ok : progOk a b c = true
 c5 : c.length ≤ 5
 leaf : leafOk a.length ys d = true
 ff : 0 ≤ f ∧ f ≤ 1
 lo : EndsOk lo
 hi : EndsOk hi
theorem bd_mul {x y m n : Int} (h1 : -m ≤ x ∧ x ≤ m) (h2 : 0 ≤ y ∧ y ≤ n) : -(m * n) ≤ x * y ∧ x * y ≤ m * n := by
 have hm : 0 ≤ m := by omega
 have e1 : -m * y ≤ x * y := Int.mul_le_mul_of_nonneg_right h1.1 h2.1
 have e2 : x * y ≤ m * y := Int.mul_le_mul_of_nonneg_right h1.2 h2.1
 have e3 : m * y ≤ m * n := Int.mul_le_mul_of_nonneg_left h2.2 hm
 rw [Int.neg_mul] at e1
 omega
theorem ite_min (x y : Int) : (if y < x then y else x) = min x y := by omega
variable {a : List (List Int)} {b c ys : List Int} {d f : Int} {lo hi : List Int}
theorem LeafFit.cost (h : LeafFit a b c ys d f lo hi) {j : Nat} (hj : j < c.length) : (-1000 ≤ f * nth c j ∧ f * nth c j ≤ 1000) ∧ -1099511627776000 ≤ f * nth c j * d ∧ f * nth c j * d ≤ 1099511627776000 := by
 obtain ⟨_, _, _, _, _, hc⟩ := progOk_parts h.ok
 obtain ⟨_, d1, d2, _⟩ := leafOk_parts h.leaf
 have h1 := listOk_nth hc hj
 have h2 := bd_mul h1 h.ff
 rw [Int.mul_comm (nth c j) f] at h2
 have h3 := bd_mul (x := f * nth c j) (m := 1000) (y := d) (n := 1099511627776) (by omega) (by omega)
 omega
theorem LeafFit.prod (h : LeafFit a b c ys d f lo hi) {i j : Nat} (hi : i < a.length) (hj : j < c.length) : -32985348833280 ≤ nth ys i * nth (nrow a i) j ∧ nth ys i * nth (nrow a i) j ≤ 32985348833280 := by
 obtain ⟨_, _, hr, _, _, _⟩ := progOk_parts h.ok
 obtain ⟨hl, _, _, hy⟩ := leafOk_parts h.leaf
 obtain ⟨r1, r2⟩ := hr _ (nrow_mem hi)
 have h1 := listOk_nth r2 (i := j) (by omega)
 have h2 := bd_mul h1 (hy _ (nth_mem (i := i) (by omega)))
 rw [Int.mul_comm (nth ys i)]
 omega
theorem LeafFit.rest (h : LeafFit a b c ys d f lo hi) {j : Nat} (hj : j < c.length) : ∀ i, i ≤ a.length → -1099511627776000 - 32985348833280 * i ≤ restN a ys (f * nth c j * d) j i ∧ restN a ys (f * nth c j * d) j i ≤ 1099511627776000 + 32985348833280 * i
 | 0, _ => by have := h.cost hj; simp only [restN]; omega
 | i + 1, hi => by
   have h1 := h.rest hj i (by omega)
   have h2 := h.prod (i := i) (j := j) (by omega) hj
   simp only [restN]; push_cast; omega
theorem LeafFit.restJ (h : LeafFit a b c ys d f lo hi) {j : Nat} (hj : j < c.length) : -1297423720775680 ≤ restJ a c ys d f j ∧ Go.Proofs.YtkljafmdbajfeaaGreatDoor.restJ a c ys d f j ≤ 1297423720775680 := by
 have h1 := h.rest hj a.length (Nat.le_refl _)
 obtain ⟨_, h2, _⟩ := progOk_parts h.ok
 unfold Go.Proofs.YtkljafmdbajfeaaGreatDoor.restJ; omega
theorem LeafFit.ends (h : LeafFit a b c ys d f lo hi) {j : Nat} (hj : j < c.length) : (-9081966045429760 ≤ Go.Proofs.YtkljafmdbajfeaaGreatDoor.restJ a c ys d f j * nth lo j ∧ Go.Proofs.YtkljafmdbajfeaaGreatDoor.restJ a c ys d f j * nth lo j ≤ 9081966045429760) ∧ -9081966045429760 ≤ Go.Proofs.YtkljafmdbajfeaaGreatDoor.restJ a c ys d f j * nth hi j ∧ Go.Proofs.YtkljafmdbajfeaaGreatDoor.restJ a c ys d f j * nth hi j ≤ 9081966045429760 :=
 ⟨bd_mul (h.restJ hj) (h.lo.nth j), bd_mul (h.restJ hj) (h.hi.nth j)⟩
theorem LeafFit.small (h : LeafFit a b c ys d f lo hi) : ys.length = b.length ∧ Small ys b ∧ -6597069766656000 ≤ dotZ ys b ∧ dotZ ys b ≤ 6597069766656000 := by
 obtain ⟨_, h2, _, h4, h5, _⟩ := progOk_parts h.ok
 obtain ⟨hl, _, _, hy⟩ := leafOk_parts h.leaf
 have hb : ∀ i, i < ys.length → -1099511627776000 ≤ nth ys i * nth b i ∧ nth ys i * nth b i ≤ 1099511627776000 := fun i hi => by
  have h2 := bd_mul (listOk_nth h5 (i := i) (by omega)) (hy _ (nth_mem (i := i) hi))
  rw [Int.mul_comm (nth ys i)]
  omega
 have h3 := dotN_bound hb ys.length (Nat.le_refl _)
 refine ⟨by omega, ⟨1099511627776000, by omega, hb⟩, ?_⟩
 unfold dotZ; omega
theorem LeafFit.bound (h : LeafFit a b c ys d f lo hi) : ∀ j, j ≤ c.length → -6597069766656000 - 9081966045429760 * j ≤ boundN a b c ys d f lo hi j ∧ boundN a b c ys d f lo hi j ≤ 6597069766656000 + 9081966045429760 * j
 | 0, _ => by have := h.small; simp only [boundN]; omega
 | j + 1, hj => by
   have h1 := h.bound j (by omega)
   have h2 := h.ends (j := j) (by omega)
   simp only [boundN]; push_cast; omega
structure PrAt (w : World) (r : Nat) (A B C U : Option Addr) (ca cb cc cu : Nat) (a : List (List Int)) (b c u : List Int) (cost : Int) (none : Bool) : Prop where
 k0 : w.cell? ⟨r, 0, .none⟩ = some (.slice A a.length ca)
 k1 : w.cell? ⟨r, 1, .none⟩ = some (.slice B b.length cb)
 k2 : w.cell? ⟨r, 2, .none⟩ = some (.slice C c.length cc)
 k3 : w.cell? ⟨r, 3, .none⟩ = some (.slice U u.length cu)
 k4 : w.cell? ⟨r, 4, .none⟩ = some (.int .i64 c.length)
 k5 : w.cell? ⟨r, 5, .none⟩ = some (.int .i64 cost)
 k6 : w.cell? ⟨r, 6, .none⟩ = some (.bool none)
theorem PrAt.lt {w : World} {r : Nat} {A B C U : Option Addr} {ca cb cc cu : Nat} {a : List (List Int)} {b c u : List Int} {cost : Int} {none : Bool} (h : PrAt w r A B C U ca cb cc cu a b c u cost none) : r < w.heap.size := cell_lt h.k0
theorem PrAt.ext {w w' : World} {r : Nat} {A B C U : Option Addr} {ca cb cc cu : Nat} {a : List (List Int)} {b c u : List Int} {cost : Int} {none : Bool} (h : PrAt w r A B C U ca cb cc cu a b c u cost none) (hb : Below w.heap.size w w') : PrAt w' r A B C U ca cb cc cu a b c u cost none := by
 have hc := (bcell hb).1
 have hl := h.lt
 exact ⟨(hc _ _ hl).trans h.k0, (hc _ _ hl).trans h.k1, (hc _ _ hl).trans h.k2, (hc _ _ hl).trans h.k3, (hc _ _ hl).trans h.k4, (hc _ _ hl).trans h.k5, (hc _ _ hl).trans h.k6⟩
set_option maxRecDepth 100000 in
set_option maxHeartbeats 4000000 in
theorem bound_calls (r : Nat) (A B C U Y : Option Addr) (ca cb cc cu cy : Nat) (a : List (List Int)) (b c u ys : List Int) (cost d f va at' : Int) (none : Bool) (l0 l1 l2 l3 l4 h0 h1 h2 h3 h4 : Int) (w : World)
  (hp : PrAt w r A B C U ca cb cc cu a b c u cost none) (hw : Who w A B C U a b c u) (hY : Ints w Y ys) (hy : ys.length ≤ maxLen) (h : LeafFit a b c ys d f [l0, l1, l2, l3, l4] [h0, h1, h2, h3, h4]) :
  Calls Tryz.prog 226 #[.pointer (some ⟨r, 0, .none⟩), .agg #[.int .i64 va, .int .i64 at', .slice Y ys.length cy, .int .i64 d], .agg #[.int .i64 l0, .int .i64 l1, .int .i64 l2, .int .i64 l3, .int .i64 l4, .int .i64 h0, .int .i64 h1, .int .i64 h2, .int .i64 h3, .int .i64 h4], .int .i64 f] w fun e w' =>
   e = .returned (.int .i64 (boundN a b c ys d f [l0, l1, l2, l3, l4] [h0, h1, h2, h3, h4] c.length)) ∧ Below w.heap.size w w' := by
 obtain ⟨k0, k1, k2, k3, k4, k5, k6⟩ := id hp
 obtain ⟨e1, e2, e3, e4⟩ := h.small
 have rl := hp.lt
 have hxl := hy
 unfold maxLen at hy
 have hbe : Below w.heap.size w ((w.alloc (.cells #[.int .i64 va, .int .i64 at', .slice Y ys.length cy, .int .i64 d] 128 (0, 0))).alloc (.cells #[.int .i64 l0, .int .i64 l1, .int .i64 l2, .int .i64 l3, .int .i64 l4, .int .i64 h0, .int .i64 h1, .int .i64 h2, .int .i64 h3, .int .i64 h4] 186 (0, 0))) := ((Below.refl _ _).alloc (Nat.le_refl _) _).alloc (by simp) _
 have hd : ∀ n, _ := fun n => brDot_at Y B ys.length b.length cy cb ys b ((w.alloc (.cells #[.int .i64 va, .int .i64 at', .slice Y ys.length cy, .int .i64 d] 128 (0, 0))).alloc (.cells #[.int .i64 l0, .int .i64 l1, .int .i64 l2, .int .i64 l3, .int .i64 l4, .int .i64 h0, .int .i64 h1, .int .i64 h2, .int .i64 h3, .int .i64 h4] 186 (0, 0))) n rfl rfl (by omega) hxl (hY.ext hbe) (hw.p.gb.ext hbe) e2
 have B0 : Blk ((w.alloc (.cells #[.int .i64 va, .int .i64 at', .slice Y ys.length cy, .int .i64 d] 128 (0, 0))).alloc (.cells #[.int .i64 l0, .int .i64 l1, .int .i64 l2, .int .i64 l3, .int .i64 l4, .int .i64 h0, .int .i64 h1, .int .i64 h2, .int .i64 h3, .int .i64 h4] 186 (0, 0))) w.heap.size [.int .i64 va, .int .i64 at', .slice Y ys.length cy, .int .i64 d] 128 := (Blk.new w _ _).alloc _
 have B1 : Blk ((w.alloc (.cells #[.int .i64 va, .int .i64 at', .slice Y ys.length cy, .int .i64 d] 128 (0, 0))).alloc (.cells #[.int .i64 l0, .int .i64 l1, .int .i64 l2, .int .i64 l3, .int .i64 l4, .int .i64 h0, .int .i64 h1, .int .i64 h2, .int .i64 h3, .int .i64 h4] 186 (0, 0))) (w.heap.size + 1) (([l0, l1, l2, l3, l4] ++ [h0, h1, h2, h3, h4]).map (Value.int .i64)) 186 := Blk.new' _ _ _ _ (by simp)
 have HD := Lib.hid hd; have HP := Lib.hid hp; have HY := Lib.hid hy
 clear hd e1 e2 hxl
 go_enter Tryz.func226, Tryz.ntmps226
 go_wp2_with fail
 go_quiet ((go_at_call 193; exact HD.out _))
 go_wp2_with fail
 have hp2 := hp.ext hbe
 have hw2 := hw.ext hbe
 have hY2 := hY.ext hbe
 clear HD hp hw hY k0 k1 k2 k3 k4 k5 k6
 generalize ((w.alloc (.cells #[.int .i64 va, .int .i64 at', .slice Y ys.length cy, .int .i64 d] 128 (0, 0))).alloc (.cells #[.int .i64 l0, .int .i64 l1, .int .i64 l2, .int .i64 l3, .int .i64 l4, .int .i64 h0, .int .i64 h1, .int .i64 h2, .int .i64 h3, .int .i64 h4] 186 (0, 0))) = W at *
 obtain ⟨k0, k1, k2, k3, k4, k5, k6⟩ := id hp2
 have n2 : W.cell? ⟨w.heap.size, 2, .none⟩ = some (.slice Y ys.length cy) := B0.cell 2 (by simp)
 have n3 : W.cell? ⟨w.heap.size, 3, .none⟩ = some (.int .i64 d) := B0.cell 3 (by simp)
 have hlo : ∀ j, j < 5 → W.cell? ⟨w.heap.size + 1, j, .none⟩ = some (.int .i64 (nth [l0, l1, l2, l3, l4] j)) := fun j hj => by
  rw [B1.cell j (by simp; omega)]
  rcases j with _ | _ | _ | _ | _ | j <;> first | rfl | omega
 have hhi : ∀ j, j < 5 → W.cell? ⟨w.heap.size + 1, 5 + j, .none⟩ = some (.int .i64 (nth [h0, h1, h2, h3, h4] j)) := fun j hj => by
  rw [B1.cell (5 + j) (by simp; omega)]
  rcases j with _ | _ | _ | _ | _ | j <;> first | rfl | omega
 have HLO := Lib.hid hlo; have HHI := Lib.hid hhi
 clear hlo hhi B0 B1
 obtain ⟨_, hla, hrow, _⟩ := progOk_parts h.ok
 obtain ⟨hyl, _⟩ := leafOk_parts h.leaf
 have hc5 := h.c5
 have HR := Lib.hid hrow; have HYL := Lib.hid hyl
 clear hrow hyl
 generalize hLO : [l0, l1, l2, l3, l4] = lo at *
 generalize hHI : [h0, h1, h2, h3, h4] = hi at *
 have HLE := Lib.hid hLO; have HHE := Lib.hid hHI
 clear hLO hHI
 go_loopw [9, 28] (fun s i wr => ∃ (j n : Nat), j ≤ c.length ∧ i = .int .i64 j ∧ s = .int .i64 (boundN a b c ys d f lo hi j) ∧ wr = W.drewN n) (fun _ i _ => c.length - (intOf i).toNat)
 case atStart => exact ⟨0, nq, Nat.zero_le _, rfl, rfl, rfl⟩
 case round =>
  obtain ⟨j, n, hj, rfl, rfl, rfl⟩ := hrel
  by_cases hlt : j < c.length
  ·obtain ⟨bC, oC, rfl, gC⟩ := hw2.p.gc j hlt
   obtain ⟨⟨c1, c2⟩, c3, c4⟩ := h.cost hlt
   have g1 := HLO.out j (by omega)
   have g2 := HHI.out j (by omega)
   obtain ⟨⟨t1, t2⟩, t3, t4⟩ := h.ends hlt
   have hbn := h.bound (j + 1) hlt
   simp only [boundN] at hbn
   have HBN := Lib.hid hbn
   clear hbn
   go_wp2_with fail
   go_quiet (fail)
   go_wp2_with fail
   go_loopw [11, 52] (fun s i wr => ∃ (k n : Nat), k ≤ a.length ∧ i = .int .i64 k ∧ s = .int .i64 (restN a ys (f * nth c j * d) j k) ∧ wr = W.drewN n) (fun _ i _ => a.length - (intOf i).toNat)
   case atStart => exact ⟨0, _, Nat.zero_le _, rfl, rfl, rfl⟩
   case round =>
    obtain ⟨k, m, hk, rfl, rfl, rfl⟩ := hrel
    by_cases hlk : k < a.length
    ·obtain ⟨bA, oA, R, cr, rfl, gA, hcr, gR⟩ := hw2.p.ga k hlk
     have hrl := (HR.out _ (nrow_mem hlk)).1
     obtain ⟨bR, oR, rfl, gRj⟩ := gR j (by omega)
     obtain ⟨bY, oY, rfl, gY⟩ := hY2 k (by have := HYL.out; omega)
     obtain ⟨p1, p2⟩ := h.prod (i := k) (j := j) hlk hlt
     obtain ⟨p3, p4⟩ := h.rest hlt (k + 1) hlk
     simp only [restN] at p3 p4
     push_cast at p3 p4
     have hky : k < ys.length := by have := HYL.out; omega
     have hjr : j < (nrow a k).length := by omega
     clear hrl
     go_wp2_with fail
     go_quiet (fail)
     go_wp2_with fail
     go_roundw
     case rel => exact ⟨k + 1, _, by omega, by go_num, rfl, rfl⟩
     case measure => simp [intOf]; omega
    ·obtain rfl : k = a.length := by omega
     have hbn := HBN.out
     have hbj := h.bound j hj
     push_cast at hbn hbj
     unfold restJ at t1 t2 t3 t4 hbn
     obtain ⟨hbn1, hbn2⟩ := hbn
     obtain ⟨hbj1, hbj2⟩ := hbj
     obtain ⟨X, hX⟩ : ∃ X, Hid (restN a ys (f * nth c j * d) j a.length = X) := ⟨_, rfl⟩
     have HE : Hid (boundN a b c ys d f lo hi (j + 1) = boundN a b c ys d f lo hi j + min (X * nth lo j) (X * nth hi j)) := by
      rw [← hX.out]; exact rfl
     rw [hX.out] at t1 t2 t3 t4 hbn1 hbn2 ⊢
     go_wp2_with fail
     go_quiet (fail)
     go_wp2_with fail
     go_roundw
     case rel => exact ⟨j + 1, _, by omega, by go_num, by rw [HE.out, ite_min], rfl⟩
     case measure => simp [intOf]; omega
  ·obtain rfl : j = c.length := by omega
   go_wp2
   go_ret
   exact ⟨by rw [HLE.out, HHE.out]; rfl, ext_trans hbe (drewN_below _ _)⟩
end Go.Proofs.YtkljafmdbajfeaaGreatDoor
