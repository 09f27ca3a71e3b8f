/- tinplateref02: shaped, bound, good, with. -/
import Derived.Test.YtbdlfjhhgnhejaaLeaf
import Derived.Test.YtbdlfjhhgnhejaaRef
import Derived.Test.YtbdlfjhhgnhejaaRF
import Derived.Test.YtbdlfjhhgnhejaaGood
import Derived.Test.YtbdlfjhhgnhejaaLater
import Derived.Deep.AppendLies
namespace Go.Proofs.Ytbdlfjhhgnhejaa
open Go.RowKit
set_option linter.unusedVariables false
set_option linter.unusedSimpArgs false

theorem leafOk_len {n : Nat} {ys : List Int} {d : Int} (h : ys.length ≠ n) : leafOk n ys d = false := by unfold leafOk; rw [decide_eq_false h]; rfl
theorem leafOk_d1 {n : Nat} {ys : List Int} {d : Int} (h : ¬ 1 ≤ d) : leafOk n ys d = false := by unfold leafOk; rw [decide_eq_false h]; simp
theorem leafOk_d2 {n : Nat} {ys : List Int} {d : Int} (h : ¬ d ≤ 1099511627776) : leafOk n ys d = false := by unfold leafOk; rw [decide_eq_false h]; simp
theorem leafOk_y {n : Nat} {ys : List Int} {d : Int} {k : Nat} (hk : k < ys.length) (h : ¬ (0 ≤ nth ys k ∧ nth ys k ≤ 1099511627776)) : leafOk n ys d = false := by
  unfold leafOk
  rw [all_take_false hk (p := fun y => decide (0 ≤ y) && decide (y ≤ 1099511627776)) (by simpa using h), Bool.and_false]
theorem leafOk_all {n : Nat} {ys : List Int} {d : Int} (h1 : ys.length = n) (h2 : 1 ≤ d) (h3 : d ≤ 1099511627776) (h : ∀ k, k < ys.length → 0 ≤ nth ys k ∧ nth ys k ≤ 1099511627776) : leafOk n ys d = true := by
  unfold leafOk
  rw [decide_eq_true h1, decide_eq_true h2, decide_eq_true h3, all_of_nth fun i hi => by simpa using h i hi]; rfl

set_option maxRecDepth 100000 in
set_option maxHeartbeats 2000000 in
theorem shaped_calls (A B C U Y : Option Addr) (ca cb cc cu cy : Nat) (a : List (List Int)) (b c u ys : List Int) (va at' d : Int) (w : World) (hw : Who w A B C U a b c u) (hY : Ints w Y ys) (hy : ys.length ≤ maxLen) :
    Calls Try.prog 55 #[.agg #[.slice A a.length ca, .slice B b.length cb, .slice C c.length cc, .slice U u.length cu], .agg #[.int .i64 va, .int .i64 at', .slice Y ys.length cy, .int .i64 d]] w fun e w' => e = .returned (.bool (leafOk a.length ys d)) ∧ Below w.heap.size w w' := by
  have hla := hw.p.la
  have hbe : ∀ o o', Below w.heap.size w ((w.alloc o).alloc o') := fun o o' => ((Below.refl _ _).alloc (Nat.le_refl _) _).alloc (by simp) _
  have hY2 := fun o o' => hY.ext (hbe o o')
  have HBE := Lib.hid hbe
  unfold maxLen at hla hy
  clear hw hY hbe
  by_cases e1 : ys.length = a.length
  · have d1 : ((ys.length : Int) != (a.length : Int)) = false := by simp [e1]
    have E1 := Lib.hid e1; clear e1
    by_cases e2 : 1 ≤ d
    · have d2 : decide (d < 1) = false := decide_eq_false (by omega)
      by_cases e3 : d ≤ 1099511627776
      · have d3 : decide (1099511627776 < d) = false := decide_eq_false (by omega)
        go_enter Try.func55, Try.ntmps55
        go_wp2
        go_loop [5] (fun i => ∃ k : Nat, k ≤ ys.length ∧ i = .int .i64 k ∧ ∀ j, j < k → 0 ≤ nth ys j ∧ nth ys j ≤ 1099511627776) (fun i => ys.length - (intOf i).toNat)
        case atStart => exact ⟨0, Nat.zero_le _, rfl, fun j hj => by omega⟩
        case round =>
          obtain ⟨k, hk, rfl, hs⟩ := hrel
          have HS := Lib.hid hs; clear hs
          by_cases hlt : k < ys.length
          · obtain ⟨b1, o1, rfl, g1⟩ := hY2 (.cells #[.slice A a.length ca, .slice B b.length cb, .slice C c.length cc, .slice U u.length cu] 25 (0, 0)) (.cells #[.int .i64 va, .int .i64 at', .slice Y ys.length cy, .int .i64 d] 34 (0, 0)) k hlt
            clear hY2
            by_cases q1 : nth ys k < 0
            · have p1 : decide (nth ys k < 0) = true := decide_eq_true q1
              go_wp2
              go_ret
              exact ⟨by rw [leafOk_y hlt (by omega)]; rfl, HBE.out _ _⟩
            · have p1 : decide (nth ys k < 0) = false := decide_eq_false q1
              by_cases q2 : 1099511627776 < nth ys k
              · have p2 : decide (1099511627776 < nth ys k) = true := decide_eq_true q2
                go_wp2
                go_ret
                exact ⟨by rw [leafOk_y hlt (by omega)]; rfl, HBE.out _ _⟩
              · have p2 : decide (1099511627776 < nth ys k) = false := decide_eq_false q2
                have HN : Hid (∀ j, j < k + 1 → 0 ≤ nth ys j ∧ nth ys j ≤ 1099511627776) := Lib.hid fun j hj => by
                  rcases Nat.lt_or_ge j k with e | e
                  · exact HS.out j e
                  · obtain rfl : j = k := by omega
                    omega
                clear q1 q2
                go_wp2
                go_round
                case rel => exact ⟨k + 1, by omega, by go_num, HN.out⟩
                case measure => simp [intOf]; omega
          · obtain rfl : k = ys.length := by omega
            clear hY2
            go_wp2
            go_ret
            exact ⟨by rw [leafOk_all E1.out e2 e3 HS.out]; rfl, HBE.out _ _⟩
      · have d3 : decide (1099511627776 < d) = true := decide_eq_true (by omega)
        clear hY2
        go_enter Try.func55, Try.ntmps55
        go_wp2
        go_ret
        exact ⟨by rw [leafOk_d2 (by omega)]; rfl, HBE.out _ _⟩
    · have d2 : decide (d < 1) = true := decide_eq_true (by omega)
      clear hY2
      go_enter Try.func55, Try.ntmps55
      go_wp2
      go_ret
      exact ⟨by rw [leafOk_d1 (by omega)]; rfl, HBE.out _ _⟩
  · have d1 : ((ys.length : Int) != (a.length : Int)) = true := by simp; omega
    have E1 := Lib.hid e1
    clear hY2 e1
    go_enter Try.func55, Try.ntmps55
    go_wp2
    go_ret
    exact ⟨by rw [leafOk_len E1.out]; rfl, HBE.out _ _⟩

/-- What the rows take of one column. -/
def yaN (a : List (List Int)) (ys : List Int) (j : Nat) : Nat → Int
  | 0 => 0
  | i + 1 => yaN a ys j i + nth ys i * nth (nrow a i) j
theorem restN_ya (a : List (List Int)) (ys : List Int) (k0 : Int) (j : Nat) : ∀ i, restN a ys k0 j i = k0 - yaN a ys j i
  | 0 => by simp [restN, yaN]
  | i + 1 => by simp only [restN, yaN, restN_ya a ys k0 j i]; omega

set_option maxRecDepth 100000 in
set_option maxHeartbeats 4000000 in
theorem refBound_calls (A B C U Y S LO HI : Option Addr) (ca cb cc cu cy cs cl ch : Nat) (a : List (List Int)) (b c u ys ks lo hi lo5 hi5 : List Int) (va at' d f : Int) (w : World)
    (hw : Who w A B C U a b c u) (hY : Ints w Y ys) (hy : ys.length ≤ maxLen) (hS : Ints w S ks) (hLO : Ints w LO lo) (hHI : Ints w HI hi) (h : LeafFit a b c ys d f lo5 hi5)
    (hks : ks.length = c.length ∧ ∀ j, j < c.length → nth ks j = f * nth c j) (hlo : lo.length = c.length ∧ ∀ j, j < c.length → nth lo j = nth lo5 j) (hhi : hi.length = c.length ∧ ∀ j, j < c.length → nth hi j = nth hi5 j) :
    Calls Try.prog 56 #[.agg #[.slice A a.length ca, .slice B b.length cb, .slice C c.length cc, .slice U u.length cu], .agg #[.int .i64 va, .int .i64 at', .slice Y ys.length cy, .int .i64 d], .slice S ks.length cs, .slice LO lo.length cl, .slice HI hi.length ch] w fun e w' =>
      e = .returned (.int .i64 (boundN a b c ys d f lo5 hi5 c.length)) ∧ Below w.heap.size w w' := by
  obtain ⟨e1, e2, e3, e4⟩ := h.small
  have hbe : Below w.heap.size w ((w.alloc (.cells #[.slice A a.length ca, .slice B b.length cb, .slice C c.length cc, .slice U u.length cu] 25 (0, 0))).alloc (.cells #[.int .i64 va, .int .i64 at', .slice Y ys.length cy, .int .i64 d] 34 (0, 0))) := ((Below.refl _ _).alloc (Nat.le_refl _) _).alloc (by simp) _
  have B0 : Blk ((w.alloc (.cells #[.slice A a.length ca, .slice B b.length cb, .slice C c.length cc, .slice U u.length cu] 25 (0, 0))).alloc (.cells #[.int .i64 va, .int .i64 at', .slice Y ys.length cy, .int .i64 d] 34 (0, 0))) w.heap.size [.slice A a.length ca, .slice B b.length cb, .slice C c.length cc, .slice U u.length cu] 25 := (Blk.new w _ _).alloc _
  have B1 : Blk ((w.alloc (.cells #[.slice A a.length ca, .slice B b.length cb, .slice C c.length cc, .slice U u.length cu] 25 (0, 0))).alloc (.cells #[.int .i64 va, .int .i64 at', .slice Y ys.length cy, .int .i64 d] 34 (0, 0))) (w.heap.size + 1) [.int .i64 va, .int .i64 at', .slice Y ys.length cy, .int .i64 d] 34 := Blk.new' _ [.int .i64 va, .int .i64 at', .slice Y ys.length cy, .int .i64 d] _ _ (by simp)
  have hdot := refDot_calls Y B cy cb ys b _ (by omega) hy (hY.ext hbe) (hw.p.gb.ext hbe) e2
  have hA2 := hw.p.ga.ext hbe
  have hC2 := hw.p.gc.ext hbe
  have hY2 := hY.ext hbe
  have hS2 := hS.ext hbe; have hLO2 := hLO.ext hbe; have hHI2 := hHI.ext hbe
  have HBE := Lib.hid hbe; have HD := Lib.hid hdot; have HKS := Lib.hid hks; have HLO := Lib.hid hlo; have HHI := Lib.hid hhi
  obtain ⟨-, hla, hrow, -⟩ := progOk_parts h.ok
  obtain ⟨hyl, -⟩ := leafOk_parts h.leaf
  have hc5 := h.c5
  have HR := Lib.hid hrow; have HYL := Lib.hid hyl
  have hxl := hy
  unfold maxLen at hy
  clear hrow hyl hdot hbe hw hY hS hLO hHI hks hlo hhi hxl e1 e2
  go_enter Try.func56, Try.ntmps56
  go_wp2_with fail
  refine HD.out.mono ?_; rintro e w1 ⟨rfl, n0, rfl⟩
  clear HD
  generalize ((w.alloc (.cells #[.slice A a.length ca, .slice B b.length cb, .slice C c.length cc, .slice U u.length cu] 25 (0, 0))).alloc (.cells #[.int .i64 va, .int .i64 at', .slice Y ys.length cy, .int .i64 d] 34 (0, 0))) = W at *
  have k0 : W.cell? ⟨w.heap.size, 0, none⟩ = some (.slice A a.length ca) := B0.cell 0 (by simp)
  have n2 : W.cell? ⟨w.heap.size + 1, 2, none⟩ = some (.slice Y ys.length cy) := B1.cell 2 (by simp)
  have n3 : W.cell? ⟨w.heap.size + 1, 3, none⟩ = some (.int .i64 d) := B1.cell 3 (by simp)
  have hksl : (ks.length : Int) = c.length := by have := HKS.out.1; omega
  have HKL := Lib.hid hksl
  clear B0 B1 hksl
  go_wp2_with fail
  go_loopw [11, 12, 13, 14, 15] (fun s i _ _ _ wr => ∃ (j n : Nat), j ≤ c.length ∧ i = .int .i64 j ∧ s = .int .i64 (boundN a b c ys d f lo5 hi5 j) ∧ wr = W.drewN n) (fun _ i _ _ _ _ => c.length - (intOf i).toNat)
  case atStart => exact ⟨0, n0, Nat.zero_le _, rfl, rfl, rfl⟩
  case round =>
    obtain ⟨j, n, hj, rfl, rfl, rfl⟩ := hrel
    by_cases hlt : j < c.length
    · have hjk : j < ks.length := by have := HKS.out.1; omega
      have hjl : j < lo.length := by have := HLO.out.1; omega
      have hjh : j < hi.length := by have := HHI.out.1; omega
      obtain ⟨bC, oC, rfl, gC⟩ := hS2 j hjk
      obtain ⟨bL, oL, rfl, gL⟩ := hLO2 j hjl
      obtain ⟨bH, oH, rfl, gH⟩ := hHI2 j hjh
      rw [HKS.out.2 j hlt] at gC
      rw [HLO.out.2 j hlt] at gL
      rw [HHI.out.2 j hlt] at gH
      obtain ⟨⟨c1, c2⟩, c3, c4⟩ := h.cost hlt
      obtain ⟨⟨t1, t2⟩, t3, t4⟩ := h.ends hlt
      have hbn := h.bound (j + 1) hlt
      simp only [boundN] at hbn
      have HBN := Lib.hid hbn
      clear hbn
      go_wp2_with fail
      go_loopw [13, 14] (fun s i wr => ∃ (k n : Nat), k ≤ a.length ∧ i = .int .i64 k ∧ s = .int .i64 (yaN a ys j k) ∧ wr = W.drewN n) (fun _ i _ => a.length - (intOf i).toNat)
      case atStart => exact ⟨0, _, Nat.zero_le _, rfl, rfl, rfl⟩
      case round =>
        obtain ⟨k, m, hk, rfl, rfl, rfl⟩ := hrel
        by_cases hlk : k < a.length
        · obtain ⟨bA, oA, R, cr, rfl, gA, hcr, gR⟩ := hA2 k hlk
          have hrl := (HR.out _ (nrow_mem hlk)).1
          obtain ⟨bR, oR, rfl, gRj⟩ := gR j (by omega)
          obtain ⟨bY, oY, rfl, gY⟩ := hY2 k (by have := HYL.out; omega)
          obtain ⟨p1, p2⟩ := h.prod (i := k) (j := j) hlk hlt
          obtain ⟨p3, p4⟩ := h.rest hlt (k + 1) hlk
          rw [restN_ya] at p3 p4
          simp only [yaN] at p3 p4
          push_cast at p3 p4
          have hky : k < ys.length := by have := HYL.out; omega
          have hjr : j < (nrow a k).length := by omega
          clear hrl
          go_wp2_with fail
          go_quiet (fail)
          go_wp2_with fail
          go_roundw
          case rel => exact ⟨k + 1, _, by omega, by go_num, rfl, rfl⟩
          case measure => simp [intOf]; omega
        · obtain rfl : k = a.length := by omega
          have hbn := HBN.out
          have hbj := h.bound j hj
          push_cast at hbn hbj
          unfold restJ at t1 t2 t3 t4 hbn
          rw [restN_ya] at t1 t2 t3 t4 hbn
          obtain ⟨hbn1, hbn2⟩ := hbn
          obtain ⟨hbj1, hbj2⟩ := hbj
          obtain ⟨q1, q2⟩ := h.rest hlt a.length (Nat.le_refl _)
          rw [restN_ya] at q1 q2
          have HE : Hid (boundN a b c ys d f lo5 hi5 (j + 1) = boundN a b c ys d f lo5 hi5 j + min ((f * nth c j * d - yaN a ys j a.length) * nth lo5 j) ((f * nth c j * d - yaN a ys j a.length) * nth hi5 j)) := by
            rw [← restN_ya]; exact rfl
          obtain ⟨Z, hZ⟩ : ∃ Z, Hid (yaN a ys j a.length = Z) := ⟨_, rfl⟩
          rw [hZ.out] at t1 t2 t3 t4 hbn1 hbn2 HE q1 q2 ⊢
          go_wp2_with fail
          go_quiet (fail)
          go_wp2_with fail
          generalize f * nth c j * d - Z = X at *
          rw [Int.mul_comm X (nth lo5 j)] at t1 t2 hbn1 hbn2 HE
          rw [Int.mul_comm X (nth hi5 j)] at t3 t4 hbn1 hbn2 HE
          go_quiet (fail)
          go_wp2_with fail
          go_roundw
          case rel => exact ⟨j + 1, _, by omega, by go_num, by rw [HE.out, ite_min], rfl⟩
          case measure => simp [intOf]; omega
    · obtain rfl : j = c.length := by omega
      have hjk : ¬ c.length < ks.length := by have := HKS.out.1; omega
      go_wp2
      go_ret
      exact ⟨rfl, ext_trans HBE.out (drewN_below _ _)⟩

theorem few_small {x : Int} (h : x.natAbs < 100000000000000000000000000000000000000000000000000) : Few x := by
  unfold Few
  exact Nat.le_trans (T.digits_len (k := 20) (Nat.lt_trans h (by decide))) (by decide)

/-- What the boxes hold. -/
structure GoodAt (w : World) (r : Nat) (A B C U Y : Option Addr) (ca cb cc cu cy : Nat) (a : List (List Int)) (b c u ys : List Int) (va at' d : Int) : Prop where
  b0 : Blk w r [.slice A a.length ca, .slice B b.length cb, .slice C c.length cc, .slice U u.length cu] 25
  b1 : Blk w (r + 1) [.int .i64 va, .int .i64 at', .slice Y ys.length cy, .int .i64 d] 34
theorem GoodAt.ext {w w' : World} {r : Nat} {A B C U Y : Option Addr} {ca cb cc cu cy : Nat} {a : List (List Int)} {b c u ys : List Int} {va at' d : Int} (h : GoodAt w r A B C U Y ca cb cc cu cy a b c u ys va at' d) (hb : Below w.heap.size w w') : GoodAt w' r A B C U Y ca cb cc cu cy a b c u ys va at' d := ⟨h.b0.ext hb, h.b1.ext hb⟩

theorem goodB_leaf {a : List (List Int)} {b c : List Int} {cost : Int} {none : Bool} {ys : List Int} {d : Int} {lo hi : List Int} (h : leafOk a.length ys d = false) : goodB a b c cost none ys d lo hi = false := by unfold goodB; rw [h]; rfl
theorem goodB_zero {a : List (List Int)} {b c : List Int} {cost : Int} {none : Bool} {ys : List Int} {d : Int} {lo hi : List Int} (h : leafOk a.length ys d = true) (h2 : 0 < boundN a b c ys d 0 lo hi c.length) : goodB a b c cost none ys d lo hi = true := by unfold goodB; rw [h, decide_eq_true h2]; rfl
theorem goodB_none {a : List (List Int)} {b c : List Int} {cost : Int} {ys : List Int} {d : Int} {lo hi : List Int} (h2 : ¬ 0 < boundN a b c ys d 0 lo hi c.length) : goodB a b c cost true ys d lo hi = false := by unfold goodB; rw [decide_eq_false h2]; simp
theorem goodB_one {a : List (List Int)} {b c : List Int} {cost : Int} {ys : List Int} {d : Int} {lo hi : List Int} (h : leafOk a.length ys d = true) (h2 : ¬ 0 < boundN a b c ys d 0 lo hi c.length) : goodB a b c cost false ys d lo hi = decide ((cost - 1) * d < boundN a b c ys d 1 lo hi c.length) := by unfold goodB; rw [h, decide_eq_false h2]; rfl
theorem infoBig : (Try.prog.info? 101).map (fun i => (i.zero, i.size, i.bytes)) = some (some (.agg #[.bool false, .slice none 0 0]), 2, 32) := by kernel_rfl
theorem boundN_fit {a : List (List Int)} {b c ys : List Int} {d f : Int} {lo hi : List Int} (h : LeafFit a b c ys d f lo hi) : (boundN a b c ys d f lo hi c.length).natAbs < 100000000000000000000000000000000000000000000000000 ∧ -9223372036854775808 ≤ boundN a b c ys d f lo hi c.length ∧ boundN a b c ys d f lo hi c.length ≤ 9223372036854775807 := by
  have := h.bound c.length (Nat.le_refl _); have := h.c5; omega

theorem cost_few {x d : Int} (hc : -9223372036854775808 ≤ x ∧ x ≤ 9223372036854775807) (h1 : 1 ≤ d) (h2 : d ≤ 1099511627776) : Few x ∧ Few (x - 1) ∧ Few d ∧ Few ((x - 1) * d) := by
  refine ⟨few_small (by omega), few_small (by omega), few_small (by omega), few_small ?_⟩
  have := bd_mul (x := x - 1) (m := 9223372036854775809) (y := d) (n := 1099511627776) (by omega) (by omega)
  omega

theorem cell_in {w : World} {b : Nat} {vs : List Value} {T : TypeId} (h : Blk w b vs T) {i : Nat} {x : Value} (hx : w.cell? ⟨b, i, none⟩ = some x) : x ∈ vs := by
  unfold Blk at h
  simp only [World.cell?, h] at hx
  by_cases hi : i < vs.length
  · simp [hi] at hx; rw [← hx]; exact List.getElem_mem hi
  · simp [hi] at hx
theorem cell_set_other (w : World) (a b : Nat) (i j : Nat) (x : Value) (h : b ≠ a) : (w.setCell ⟨a, i, none⟩ x).cell? ⟨b, j, none⟩ = w.cell? ⟨b, j, none⟩ := by
  simp only [World.cell?]; rw [Below.heap_setCell _ _ _ _ h]
/-- A number stays where a block without ints changes. -/
theorem RB.put {w : World} {v : Value} {z : Int} (h : RB w v z) {p : Nat} {vs : List Value} {T : TypeId} (hb : Blk w p vs T) (hv : ∀ k n, Value.int k n ∉ vs) (i : Nat) (x : Value) : RB (w.setCell ⟨p, i, none⟩ x) v z := by
  obtain ⟨sl, h1, A, c, h2, h3, h4, hR⟩ := h
  refine ⟨sl, h1, A, c, h2, h3, h4, fun j hj => ?_⟩
  obtain ⟨b, off, e, hc⟩ := hR j hj
  have hne : b ≠ p := fun e2 => by subst e2; exact hv _ _ (cell_in hb hc)
  exact ⟨b, off, e, by rw [cell_set_other _ _ _ _ _ _ hne]; exact hc⟩

set_option maxRecDepth 100000 in
set_option maxHeartbeats 4000000 in
theorem refGood_calls (A B C U Y LO HI : Option Addr) (ca cb cc cu cy cl ch : Nat) (a : List (List Int)) (b c u ys lo hi lo5 hi5 : List Int) (va at' d cost : Int) (feas : Bool) (w : World)
    (hw : Who w A B C U a b c u) (hY : Ints w Y ys) (hy : ys.length ≤ maxLen) (hLO : Ints w LO lo) (hHI : Ints w HI hi) (hok : progOk a b c = true) (hc5 : c.length ≤ 5) (hlo5 : EndsOk lo5) (hhi5 : EndsOk hi5)
    (hlo : lo.length = c.length ∧ ∀ j, j < c.length → nth lo j = nth lo5 j) (hhi : hi.length = c.length ∧ ∀ j, j < c.length → nth hi j = nth hi5 j) (hcost : -9223372036854775808 ≤ cost ∧ cost ≤ 9223372036854775807) :
    Calls Try.prog 36 #[.agg #[.slice A a.length ca, .slice B b.length cb, .slice C c.length cc, .slice U u.length cu], .agg #[.int .i64 va, .int .i64 at', .slice Y ys.length cy, .int .i64 d], .slice LO lo.length cl, .slice HI hi.length ch, .bool feas, .int .i64 cost] w fun e w' =>
      e = .returned (.bool (goodB a b c cost (!feas) ys d lo5 hi5)) ∧ Below w.heap.size w w' := by
  have hbe : Below w.heap.size w ((w.alloc (.cells #[.slice A a.length ca, .slice B b.length cb, .slice C c.length cc, .slice U u.length cu] 25 (0, 0))).alloc (.cells #[.int .i64 va, .int .i64 at', .slice Y ys.length cy, .int .i64 d] 34 (0, 0))) := ((Below.refl _ _).alloc (Nat.le_refl _) _).alloc (by simp) _
  have B0 : GoodAt ((w.alloc (.cells #[.slice A a.length ca, .slice B b.length cb, .slice C c.length cc, .slice U u.length cu] 25 (0, 0))).alloc (.cells #[.int .i64 va, .int .i64 at', .slice Y ys.length cy, .int .i64 d] 34 (0, 0))) w.heap.size A B C U Y ca cb cc cu cy a b c u ys va at' d := ⟨(Blk.new w _ _).alloc _, Blk.new' _ [.int .i64 va, .int .i64 at', .slice Y ys.length cy, .int .i64 d] _ _ (by simp)⟩
  have HW := Lib.hid (hw.ext hbe); have HY := Lib.hid (hY.ext hbe); have HYL := Lib.hid hy; have HLO := Lib.hid (hLO.ext hbe); have HHI := Lib.hid (hHI.ext hbe); have HOK := Lib.hid hok; have HL5 := Lib.hid hlo5; have HH5 := Lib.hid hhi5; have HL := Lib.hid hlo; have HH := Lib.hid hhi; have HBE := Lib.hid hbe
  clear hw hY hy hLO hHI hok hlo5 hhi5 hlo hhi hbe
  go_enter Try.func36, Try.ntmps36
  go_wp2_with fail
  generalize ((w.alloc (.cells #[.slice A a.length ca, .slice B b.length cb, .slice C c.length cc, .slice U u.length cu] 25 (0, 0))).alloc (.cells #[.int .i64 va, .int .i64 at', .slice Y ys.length cy, .int .i64 d] 34 (0, 0))) = W at *
  refine (shaped_calls A B C U Y ca cb cc cu cy a b c u ys va at' d W HW.out HY.out HYL.out).mono ?_
  rintro e w1 ⟨rfl, hb1⟩
  have B1 := B0.ext hb1
  have HX1 := Lib.hid (ext_trans HBE.out hb1)
  have HW1 := Lib.hid (HW.out.ext hb1); have HY1 := Lib.hid (HY.out.ext hb1); have HLO1 := Lib.hid (HLO.out.ext hb1); have HHI1 := Lib.hid (HHI.out.ext hb1)
  clear B0 HW HY HLO HHI HBE hb1
  cases hlf : leafOk a.length ys d
  · have HLF := Lib.hid hlf
    go_wp2_with fail
    go_ret
    exact ⟨by rw [goodB_leaf HLF.out]; rfl, HX1.out⟩
  · have hlf2 := leafOk_parts hlf
    obtain ⟨hyl, hd1, hd2, hya⟩ := hlf2
    have fit : ∀ f, 0 ≤ f ∧ f ≤ 1 → LeafFit a b c ys d f lo5 hi5 := fun f hf => ⟨HOK.out, hc5, hlf, hf, HL5.out, HH5.out⟩
    have HF0 := Lib.hid (fit 0 (by omega)); have HF1 := Lib.hid (fit 1 (by omega)); have HLF := Lib.hid hlf
    have HFEW := Lib.hid (cost_few hcost hd1 hd2)
    have HD := Lib.hid (show -9223372036854775808 ≤ d ∧ d ≤ 9223372036854775807 by omega)
    clear fit hlf hya hyl hd1 hd2
    obtain ⟨Z0, hZ0⟩ : ∃ Z, Hid (boundN a b c ys d 0 lo5 hi5 c.length = Z) := ⟨_, rfl⟩
    obtain ⟨Z1, hZ1⟩ : ∃ Z, Hid (boundN a b c ys d 1 lo5 hi5 c.length = Z) := ⟨_, rfl⟩
    obtain ⟨f0, hf0⟩ : ∃ q : Bool, decide (0 < Z0) = q := ⟨_, rfl⟩
    have HQ := Lib.hid hf0
    have k2 : w1.cell? ⟨w.heap.size, 2, none⟩ = some (.slice C c.length cc) := B1.b0.cell 2 (by simp)
    have k0 : w1.cell? ⟨w.heap.size, 0, none⟩ = some (.slice A a.length ca) := B1.b0.cell 0 (by simp)
    have k1 : w1.cell? ⟨w.heap.size, 1, none⟩ = some (.slice B b.length cb) := B1.b0.cell 1 (by simp)
    have k3 : w1.cell? ⟨w.heap.size, 3, none⟩ = some (.slice U u.length cu) := B1.b0.cell 3 (by simp)
    have n0 : w1.cell? ⟨w.heap.size + 1, 0, none⟩ = some (.int .i64 va) := B1.b1.cell 0 (by simp)
    have n1 : w1.cell? ⟨w.heap.size + 1, 1, none⟩ = some (.int .i64 at') := B1.b1.cell 1 (by simp)
    have n2 : w1.cell? ⟨w.heap.size + 1, 2, none⟩ = some (.slice Y ys.length cy) := B1.b1.cell 2 (by simp)
    have n3 : w1.cell? ⟨w.heap.size + 1, 3, none⟩ = some (.int .i64 d) := B1.b1.cell 3 (by simp)
    have HB1 := Lib.hid B1
    clear B1
    have hmk := fun w2 : World => run_makeInts w2 c.length (by omega)
    go_wp2_with fail
    refine wp_region_later (w0 := w1) 10 [18, 19, 20, 21, 22, 23, 24, 25, 26, 27]
      [leafS 18 (.agg #[.slice A a.length ca, .slice B b.length cb, .slice C c.length cc, .slice U u.length cu]), leafS 19 (.agg #[.int .i64 va, .int .i64 at', .slice Y ys.length cy, .int .i64 d]), leafS 20 (.pointer (some ⟨w.heap.size, 2, none⟩)), leafS 21 (.slice C c.length cc), leafS 22 (.int .i64 c.length), leaf1 23 (fun x w => ∃ p, x = .slice (some ⟨p, 0, none⟩) (zeros c.length).length c.length ∧ IBlk w p (zeros c.length)), leafS 24 (.slice LO lo.length cl), leafS 25 (.slice HI hi.length ch), leafS 26 (.int .i64 Z0), leafS 27 (.bool f0)]
      (fun w w' => Below w.heap.size w w') (by kernel_rfl) (by kernel_rfl) rfl (F := ?cF3) ?r3c1 (fun _ _ _ => ext_trans) (Below.refl _ _).drew ?r3c2 ?r3c3 ?r3c4
    case r3c1 =>
      intro x
      simp only [fullF, Act.put, List.setIfInBounds_toArray, List.set_cons_zero, List.set_cons_succ]
      rfl
    case r3c2 =>
      refine AllStay.mem ⟨stays_const _ _ _, stays_const _ _ _, stays_const _ _ _, stays_const _ _ _, stays_const _ _ _, stays_of _ (by rintro x w2 w3 ⟨p, h1, h2⟩ hb; exact ⟨p, h1, h2.ext hb⟩), stays_const _ _ _, stays_const _ _ _, stays_const _ _ _, stays_const _ _ _, trivial⟩
    case r3c3 =>
      refine ⟨?_, ?_, ?_, ?_, ?_, ?_, ?_, ?_, ?_, ?_, trivial⟩
      all_goals
        intro x w0 hE hd K hK
        have hc := (bcell hE).1
        have k0' := (hc _ _ (cell_lt k0)).trans k0
        have k1' := (hc _ _ (cell_lt k1)).trans k1
        have k2' := (hc _ _ (cell_lt k2)).trans k2
        have k3' := (hc _ _ (cell_lt k3)).trans k3
        have n0' := (hc _ _ (cell_lt n0)).trans n0
        have n1' := (hc _ _ (cell_lt n1)).trans n1
        have n2' := (hc _ _ (cell_lt n2)).trans n2
        have n3' := (hc _ _ (cell_lt n3)).trans n3
        try have e0 : x 18 = _ := hd 0 _ (by decide) rfl
        try have e1 : x 19 = _ := hd 1 _ (by decide) rfl
        try have e2 : x 20 = _ := hd 2 _ (by decide) rfl
        try have e3 : x 21 = _ := hd 3 _ (by decide) rfl
        try have e4 : x 22 = _ := hd 4 _ (by decide) rfl
        try have e5 := hd 5 _ (by decide) rfl
        try have e6 : x 24 = _ := hd 6 _ (by decide) rfl
        try have e7 : x 25 = _ := hd 7 _ (by decide) rfl
        try have e8 : x 26 = _ := hd 8 _ (by decide) rfl
        try have e9 : x 27 = _ := hd 9 _ (by decide) rfl
        have HC := Lib.hid hc; have HE := Lib.hid hE
        clear hd hc hE
        go_simp
        try exact hK _ _ _ (Below.refl _ _) (upd_self _ _ _) (by dsimp only [Act.put]; first | rfl | (simp [*]; done))
      · exact hK _ _ _ ((Below.refl _ _).alloc (Nat.le_refl _) _) (by rw [leaf1_at, upd_self]; exact ⟨w0.heap.size, by rw [zeros_len], IBlk.made _ _⟩) (by dsimp only [Act.put]; first | rfl | (simp [*]; done))
      · obtain ⟨p, e5, hp⟩ := e5
        rw [e5]
        refine (refBound_calls A B C U Y (some ⟨p, 0, none⟩) LO HI ca cb cc cu cy c.length cl ch a b c u ys (zeros c.length) lo hi lo5 hi5 va at' d 0 w0 (HW1.out.ext HE.out) (HY1.out.ext HE.out) HYL.out hp.ints (HLO1.out.ext HE.out) (HHI1.out.ext HE.out) HF0.out ⟨zeros_len _, fun j _ => by rw [nth_zeros, Int.zero_mul]⟩ HL.out HH.out).mono ?_
        rintro e w2 ⟨rfl, hb2⟩
        rw [hZ0.out]
        exact hK _ _ _ hb2 (upd_self _ _ _) (by dsimp only [Act.put]; first | rfl | (simp [*]; done))
    case r3c4 =>
      intro x w3 hE hG
      have e0 : x 18 = _ := hG 0 _ rfl
      have e1 : x 19 = _ := hG 1 _ rfl
      have e2 : x 20 = _ := hG 2 _ rfl
      have e3 : x 21 = _ := hG 3 _ rfl
      have e4 : x 22 = _ := hG 4 _ rfl
      have e5 := hG 5 _ rfl
      have e6 : x 24 = _ := hG 6 _ rfl
      have e7 : x 25 = _ := hG 7 _ rfl
      have e8 : x 26 = _ := hG 8 _ rfl
      have e9 : x 27 = _ := hG 9 _ rfl
      clear e5
      have HX2 := Lib.hid (ext_trans HX1.out hE)
      have HB2 := Lib.hid (HB1.out.ext hE)
      have HW2 := Lib.hid (HW1.out.ext hE); have HY2 := Lib.hid (HY1.out.ext hE); have HLO2 := Lib.hid (HLO1.out.ext hE); have HHI2 := Lib.hid (HHI1.out.ext hE)
      clear hG hE k0 k1 k2 k3 n0 n1 n2 n3 HW1 HY1 HLO1 HHI1 HB1 HX1 hmk
      refine wpAny_done (by kernel_rfl) ?_ _
      try simp only [Exit.inBlock, Exit.then]
      rw [e0, e1, e2, e3, e4, e6, e7, e8, e9]
      generalize x 23 = V23
      clear e0 e1 e2 e3 e4 e6 e7 e8 e9
      cases f0
      case' true =>
        go_wp2_with fail
        go_ret
        exact ⟨by rw [goodB_zero HLF.out (by rw [hZ0.out]; exact of_decide_eq_true HQ.out)]; rfl, HX2.out⟩
      cases feas
      · go_wp2_with fail
        go_ret
        exact ⟨by rw [show (!false) = true from rfl, goodB_none (by rw [hZ0.out]; exact of_decide_eq_false HQ.out)]; rfl, HX2.out⟩
      · have n3 : w3.cell? ⟨w.heap.size + 1, 3, none⟩ = some (.int .i64 d) := HB2.out.b1.cell 3 (by simp)
        go_wp2_with fail
        refine wp_region_later (w0 := w3) 9 [30, 31, 32, 33, 34, 35, 36, 37, 13]
          [leafS 30 (.int .i64 cost), leaf1 31 (fun v w => RB w v cost), leaf1 32 (fun v w => RB w v 1), leaf1 33 (fun v w => RB w v (cost - 1)), leafS 34 (.pointer (some ⟨w.heap.size + 1, 3, none⟩)), leafS 35 (.int .i64 d), leaf1 36 (fun v w => RB w v d), leaf1 37 (fun v w => RB w v ((cost - 1) * d)), leaf1 13 (fun x w => ∃ p, x = .pointer (some ⟨p, 0, none⟩) ∧ Blk w p [.bool false, .slice none 0 0] 101 ∧ w3.heap.size ≤ p)]
          (fun w w' => Below w.heap.size w w') (by kernel_rfl) (by kernel_rfl) rfl (F := ?cF7) ?r7c1 (fun _ _ _ => ext_trans) (Below.refl _ _).drew ?r7c2 ?r7c3 ?r7c4
        case r7c1 =>
          intro x
          simp only [fullF, Act.put, List.setIfInBounds_toArray, List.set_cons_zero, List.set_cons_succ]
          rfl
        case r7c2 =>
          refine AllStay.mem ⟨stays_const _ _ _, stays_of _ (fun _ _ _ h hb => h.ext hb), stays_of _ (fun _ _ _ h hb => h.ext hb), stays_of _ (fun _ _ _ h hb => h.ext hb), stays_const _ _ _, stays_const _ _ _, stays_of _ (fun _ _ _ h hb => h.ext hb), stays_of _ (fun _ _ _ h hb => h.ext hb), stays_of _ (by rintro x w5 w6 ⟨p, h1, h2, h3⟩ hb; exact ⟨p, h1, h2.ext hb, h3⟩), trivial⟩
        case r7c3 =>
          refine ⟨?_, ?_, ?_, ?_, ?_, ?_, ?_, ?_, ?_, trivial⟩
          all_goals
            intro x w0 hE hd K hK
            have hc := (bcell hE).1
            have n3' := (hc _ _ (cell_lt n3)).trans n3
            try have e0 : x 30 = _ := hd 0 _ (by decide) rfl
            try have e1 := hd 1 _ (by decide) rfl
            try have e2 := hd 2 _ (by decide) rfl
            try have e3 := hd 3 _ (by decide) rfl
            try have e4 : x 34 = _ := hd 4 _ (by decide) rfl
            try have e5 : x 35 = _ := hd 5 _ (by decide) rfl
            try have e6 := hd 6 _ (by decide) rfl
            try have e7 := hd 7 _ (by decide) rfl
            try have e8 := hd 8 _ (by decide) rfl
            have HC := Lib.hid hc; have HE := Lib.hid hE
            clear hd hc hE
            go_simp
            try exact hK _ _ _ (Below.refl _ _) (upd_self _ _ _) (by dsimp only [Act.put]; first | rfl | (simp [*]; done))
          · refine (rOf_calls cost w0 hcost).mono ?_
            rintro e w5 ⟨v, rfl, ho, hb5⟩
            exact hK _ _ _ hb5 (by rw [leaf1_at, upd_self]; exact ho.rb) (by dsimp only [Act.put]; first | rfl | (simp [*]; done))
          · refine (rOf_calls 1 w0 ⟨by omega, by omega⟩).mono ?_
            rintro e w5 ⟨v, rfl, ho, hb5⟩
            exact hK _ _ _ hb5 (by rw [leaf1_at, upd_self]; exact ho.rb) (by dsimp only [Act.put]; first | rfl | (simp [*]; done))
          · refine (rMinus_calls _ _ cost 1 w0 e1 e2 HFEW.out.1 (few_small (by decide))).mono ?_
            rintro e w5 ⟨v, rfl, ho, hb5⟩
            exact hK _ _ _ hb5 (by rw [leaf1_at, upd_self]; exact ho.rb) (by dsimp only [Act.put]; first | rfl | (simp [*]; done))
          · refine (rOf_calls d w0 HD.out).mono ?_
            rintro e w5 ⟨v, rfl, ho, hb5⟩
            exact hK _ _ _ hb5 (by rw [leaf1_at, upd_self]; exact ho.rb) (by dsimp only [Act.put]; first | rfl | (simp [*]; done))
          · refine (rTimes_calls _ _ (cost - 1) d w0 e3 e6 HFEW.out.2.1 HFEW.out.2.2.1).mono ?_
            rintro e w5 ⟨v, rfl, ho, hb5⟩
            exact hK _ _ _ hb5 (by rw [leaf1_at, upd_self]; exact ho.rb) (by dsimp only [Act.put]; first | rfl | (simp [*]; done))
          · exact hK _ _ _ ((Below.refl _ _).alloc (Nat.le_refl _) _) (by rw [leaf1_at, upd_self]; exact ⟨w0.heap.size, rfl, Blk.new _ [.bool false, .slice none 0 0] _, HE.out.size⟩) (by dsimp only [Act.put]; first | rfl | (simp [*]; done))
        case r7c4 =>
          intro x w4 hE hG
          have e0 : x 30 = _ := hG 0 _ rfl
          have e1 := hG 1 _ rfl
          have e2 := hG 2 _ rfl
          have e3 := hG 3 _ rfl
          have e4 : x 34 = _ := hG 4 _ rfl
          have e5 : x 35 = _ := hG 5 _ rfl
          have e6 := hG 6 _ rfl
          have e7 := hG 7 _ rfl
          have e8 := hG 8 _ rfl
          obtain ⟨p, e8, hp, hpl⟩ := e8
          obtain ⟨P, cp, e7f, hP⟩ := RB.form e7
          obtain ⟨q, hq⟩ : ∃ q, decide ((cost - 1) * d < 0) = q := ⟨_, rfl⟩
          obtain ⟨L7, hL7⟩ : ∃ L, (T.digits ((cost - 1) * d).natAbs).length = L := ⟨_, rfl⟩
          rw [hq, hL7] at e7f
          have R1 := RB.put e7 hp (by simp) 0 (.bool q)
          have R2 := R1.put (hp.set 0 (.bool q)) (by simp) 1 (.slice P L7 cp)
          rw [e7f] at R2
          have HX4 := Lib.hid (ext_trans HX2.out hE)
          have hws : w.heap.size ≤ w3.heap.size := HX2.out.size
          have hw34 := Lib.hid ((hE.setCell (show w3.heap.size ≤ (⟨p, 0, none⟩ : Addr).block from hpl) (.bool q)).setCell (show w3.heap.size ≤ (⟨p, 1, none⟩ : Addr).block from hpl) (.slice P L7 cp))
          have HX5 := Lib.hid (ext_trans HX2.out hw34.out)
          have HB5 := Lib.hid (HB2.out.ext hw34.out)
          have HW5 := Lib.hid (HW2.out.ext hw34.out); have HY5 := Lib.hid (HY2.out.ext hw34.out); have HLO5 := Lib.hid (HLO2.out.ext hw34.out); have HHI5 := Lib.hid (HHI2.out.ext hw34.out)
          have HR5 := Lib.hid R2
          have hp5 := (hp.set 0 (.bool q)).set 1 (.slice P L7 cp)
          have HP5 := Lib.hid hp5
          have f0 := hp.free 0; have f1 := hp.free 1; have bl := hp.lt; have c0 := hp.cell 0 (by simp); have c1 := hp.cell 1 (by simp)
          simp only [List.getElem_cons_zero, List.getElem_cons_succ] at c0 c1
          have HQ7 := Lib.hid hq; have HL7 := Lib.hid hL7
          clear hG hE e1 e2 e3 e6 hq hL7 R1 R2 hP hp hp5 hpl e7 n3 HB2 HW2 HY2 HLO2 HHI2 HX2 HX4
          refine tail_one (i := 9) (by kernel_rfl) rfl ?_
          intro K hK
          go_simp
          refine hK _ _ ?_
          clear hK K f0 f1 c0 c1
          refine wpAny_done (by kernel_rfl) ?_ _
          try simp only [Exit.inBlock, Exit.then]
          generalize x 31 = V31; generalize x 32 = V32; generalize x 33 = V33; generalize x 36 = V36
          clear e0 e4 e5 e7f e8
          generalize ((w4.setCell ⟨p, 0, none⟩ (.bool q)).setCell ⟨p, 1, none⟩ (.slice P L7 cp)) = W5 at *
          have q0 : W5.cell? ⟨p, 0, none⟩ = some (.bool q) := HP5.out.cell 0 (by simp)
          have q1 : W5.cell? ⟨p, 1, none⟩ = some (.slice P L7 cp) := HP5.out.cell 1 (by simp)
          have k2 : W5.cell? ⟨w.heap.size, 2, none⟩ = some (.slice C c.length cc) := HB5.out.b0.cell 2 (by simp)
          have k0 : W5.cell? ⟨w.heap.size, 0, none⟩ = some (.slice A a.length ca) := HB5.out.b0.cell 0 (by simp)
          have k1 : W5.cell? ⟨w.heap.size, 1, none⟩ = some (.slice B b.length cb) := HB5.out.b0.cell 1 (by simp)
          have k3 : W5.cell? ⟨w.heap.size, 3, none⟩ = some (.slice U u.length cu) := HB5.out.b0.cell 3 (by simp)
          have n0 : W5.cell? ⟨w.heap.size + 1, 0, none⟩ = some (.int .i64 va) := HB5.out.b1.cell 0 (by simp)
          have n1 : W5.cell? ⟨w.heap.size + 1, 1, none⟩ = some (.int .i64 at') := HB5.out.b1.cell 1 (by simp)
          have n2 : W5.cell? ⟨w.heap.size + 1, 2, none⟩ = some (.slice Y ys.length cy) := HB5.out.b1.cell 2 (by simp)
          have n3 : W5.cell? ⟨w.heap.size + 1, 3, none⟩ = some (.int .i64 d) := HB5.out.b1.cell 3 (by simp)
          obtain ⟨S7, hS7⟩ : ∃ S, sgnI Z1 ((cost - 1) * d) = S := ⟨_, rfl⟩
          have HS7 := Lib.hid hS7
          obtain ⟨q8, hq8⟩ : ∃ q : Bool, decide (0 < S7) = q := ⟨_, rfl⟩
          have HZ1 := Lib.hid (boundN_fit HF1.out)
          rw [hZ1.out] at HZ1
          have HG : Hid (goodB a b c cost (!true) ys d lo5 hi5 = q8) := Lib.hid (by rw [show (!true) = false from rfl, goodB_one HLF.out (by rw [hZ0.out]; exact of_decide_eq_false HQ.out), hZ1.out, ← sgn_pos, hS7, hq8])
          clear hS7
          clear bl
          go_wp2_with fail
          refine wp_region_later (w0 := W5) 12 [38, 39, 40, 41, 42, 43, 44, 45, 46, 47, 48, 12]
            [leafS 38 (.agg #[.slice A a.length ca, .slice B b.length cb, .slice C c.length cc, .slice U u.length cu]), leafS 39 (.agg #[.int .i64 va, .int .i64 at', .slice Y ys.length cy, .int .i64 d]), leafS 40 (.pointer (some ⟨w.heap.size, 2, none⟩)), leafS 41 (.slice C c.length cc), leafS 42 (.slice LO lo.length cl), leafS 43 (.slice HI hi.length ch), leafS 44 (.int .i64 Z1), leaf1 45 (fun v w => RB w v Z1), leafS 46 (.agg #[.bool q, .slice P L7 cp]), leafS 47 (.int .i64 S7), leafS 48 (.bool q8), leafS 12 (.bool q8)]
            (fun w w' => Below w.heap.size w w') (by kernel_rfl) (by kernel_rfl) rfl (F := ?cF8) ?r8c1 (fun _ _ _ => ext_trans) (Below.refl _ _).drew ?r8c2 ?r8c3 ?r8c4
          case r8c1 =>
            intro x
            simp only [fullF, Act.put, List.setIfInBounds_toArray, List.set_cons_zero, List.set_cons_succ]
            rfl
          case r8c2 =>
            refine AllStay.mem ⟨stays_const _ _ _, stays_const _ _ _, stays_const _ _ _, stays_const _ _ _, stays_const _ _ _, stays_const _ _ _, stays_const _ _ _, stays_of _ (fun _ _ _ h hb => h.ext hb), stays_const _ _ _, stays_const _ _ _, stays_const _ _ _, stays_const _ _ _, trivial⟩
          case r8c3 =>
            refine ⟨?_, ?_, ?_, ?_, ?_, ?_, ?_, ?_, ?_, ?_, ?_, ?_, trivial⟩
            all_goals
              intro x w0 hE hd K hK
              have hc := (bcell hE).1
              have k0' := (hc _ _ (cell_lt k0)).trans k0
              have k1' := (hc _ _ (cell_lt k1)).trans k1
              have k2' := (hc _ _ (cell_lt k2)).trans k2
              have k3' := (hc _ _ (cell_lt k3)).trans k3
              have n0' := (hc _ _ (cell_lt n0)).trans n0
              have n1' := (hc _ _ (cell_lt n1)).trans n1
              have n2' := (hc _ _ (cell_lt n2)).trans n2
              have n3' := (hc _ _ (cell_lt n3)).trans n3
              have q0' := (hc _ _ (cell_lt q0)).trans q0
              have q1' := (hc _ _ (cell_lt q1)).trans q1
              try have e0 : x 38 = _ := hd 0 _ (by decide) rfl
              try have e1 : x 39 = _ := hd 1 _ (by decide) rfl
              try have e2 : x 40 = _ := hd 2 _ (by decide) rfl
              try have e3 : x 41 = _ := hd 3 _ (by decide) rfl
              try have e4 : x 42 = _ := hd 4 _ (by decide) rfl
              try have e5 : x 43 = _ := hd 5 _ (by decide) rfl
              try have e6 : x 44 = _ := hd 6 _ (by decide) rfl
              try have e7 := hd 7 _ (by decide) rfl
              try have e8 : x 46 = _ := hd 8 _ (by decide) rfl
              try have e9 : x 47 = _ := hd 9 _ (by decide) rfl
              try have e10 : x 48 = _ := hd 10 _ (by decide) rfl
              try have e11 : x 12 = _ := hd 11 _ (by decide) rfl
              have HC := Lib.hid hc; have HE := Lib.hid hE
              clear hd hc hE
              go_simp
              try exact hK _ _ _ (Below.refl _ _) (upd_self _ _ _) (by dsimp only [Act.put]; first | rfl | (simp [*]; done))
            · refine (refBound_calls A B C U Y C LO HI ca cb cc cu cy cc cl ch a b c u ys c lo hi lo5 hi5 va at' d 1 w0 (HW5.out.ext HE.out) (HY5.out.ext HE.out) HYL.out (HW5.out.ext HE.out).p.gc (HLO5.out.ext HE.out) (HHI5.out.ext HE.out) HF1.out ⟨rfl, fun j _ => (Int.one_mul _).symm⟩ HL.out HH.out).mono ?_
              rintro e w6 ⟨rfl, hb2⟩
              rw [hZ1.out]
              exact hK _ _ _ hb2 (upd_self _ _ _) (by dsimp only [Act.put]; first | rfl | (simp [*]; done))
            · refine (rOf_calls Z1 w0 HZ1.out.2).mono ?_
              rintro e w5 ⟨v, rfl, ho, hb5⟩
              exact hK _ _ _ hb5 (by rw [leaf1_at, upd_self]; exact ho.rb) (by dsimp only [Act.put]; first | rfl | (simp [*]; done))
            · refine (rCompare_calls _ _ Z1 ((cost - 1) * d) w0 e7 (HR5.out.ext HE.out) (few_small HZ1.out.1) HFEW.out.2.2.2).mono ?_
              rintro e w6 ⟨rfl, hb2⟩
              rw [HS7.out]
              exact hK _ _ _ hb2 (upd_self _ _ _) (by dsimp only [Act.put]; first | rfl | (simp [*]; done))
          case r8c4 =>
            intro x w6 hE hG
            have e0 : x 38 = _ := hG 0 _ rfl
            have e1 : x 39 = _ := hG 1 _ rfl
            have e2 : x 40 = _ := hG 2 _ rfl
            have e3 : x 41 = _ := hG 3 _ rfl
            have e4 : x 42 = _ := hG 4 _ rfl
            have e5 : x 43 = _ := hG 5 _ rfl
            have e6 : x 44 = _ := hG 6 _ rfl
            have e7 := hG 7 _ rfl
            have e8 : x 46 = _ := hG 8 _ rfl
            have e9 : x 47 = _ := hG 9 _ rfl
            have e10 : x 48 = _ := hG 10 _ rfl
            have e11 : x 12 = _ := hG 11 _ rfl
            have HX6 := Lib.hid (ext_trans HX5.out hE)
            clear hG hE k0 k1 k2 k3 n0 n1 n2 n3 q0 q1 e7
            refine wpAny_done (by kernel_rfl) ?_ _
            try simp only [Exit.inBlock, Exit.then]
            rw [e0, e1, e2, e3, e4, e5, e6, e8, e9, e10, e11]
            generalize x 45 = V45
            clear e0 e1 e2 e3 e4 e5 e6 e8 e9 e10 e11
            go_wp2_with fail
            go_ret
            exact ⟨by rw [HG.out]; rfl, HX6.out⟩

/-- A row of the call's own holds what it holds. -/
theorem own_blk {w : World} {base g cap : Nat} {xs : List Int} (h : w.ownsRow base 3 1 (.slice (some ⟨g, 0, none⟩) xs.length cap) xs.length (xs.map (Value.int .i64))) :
    ∃ cur : List Value, Blk w g cur 3 ∧ base ≤ g ∧ xs.length ≤ cur.length ∧ cur.take xs.length = xs.map (Value.int .i64) := by
  rcases h.2 with ⟨h0, _⟩ | ⟨g', cap', cur, e, hb, hg, h1, h2, h3, h4⟩
  · cases h0
  · injection e with e1 e2 e3; injection e1 with e1; injection e1 with e1; subst e1
    refine ⟨cur.toList, by unfold Blk; simpa using hg, hb, by simp; omega, by simpa using h4⟩
theorem blk_ints {w : World} {g : Nat} {xs : List Int} {cur : List Value} (h : Blk w g cur 3) (ht : cur.take xs.length = xs.map (Value.int .i64)) : Ints w (some ⟨g, 0, none⟩) xs := fun i hi => by
  refine ⟨g, 0, rfl, ?_⟩
  have hc : (cur.take xs.length)[i]? = some (.int .i64 (nth xs i)) := by rw [ht]; simp [hi, nth_lt hi]
  rw [List.getElem?_take] at hc
  rw [if_pos hi] at hc
  obtain ⟨hl, e⟩ := List.getElem?_eq_some_iff.1 hc
  rw [Nat.zero_add, h.cell i hl, e]
theorem blk_ints_set {w : World} {g : Nat} {xs : List Int} {cur : List Value} (h : Blk w g cur 3) (ht : cur.take xs.length = xs.map (Value.int .i64)) (k : Nat) (x : Int) :
    Ints (w.setCell ⟨g, k, none⟩ (.int .i64 x)) (some ⟨g, 0, none⟩) (xs.set k x) := by
  refine blk_ints (h.set k (.int .i64 x)) ?_
  rw [List.length_set, List.take_set, ht, List.map_set]
theorem ints_cells {w : World} {b o : Nat} {xs : List Int} (h : Ints w (some ⟨b, o, none⟩) xs) : ∀ j u, (xs.map (Value.int .i64))[j]? = some u → w.cell? ((⟨b, o, none⟩ : Addr).add j) = some u := fun j u hu => by
  have hadd : (⟨b, o, none⟩ : Addr).add j = ⟨b, o + j, none⟩ := by unfold Addr.add; split <;> simp_all
  rw [hadd]
  by_cases hj : j < xs.length
  · obtain ⟨b', o', e, hc⟩ := h j hj
    injection e with e; injection e with e1 e2; subst e1; subst e2
    rw [hc, ← hu]; simp [hj, nth_lt hj]
  · simp [hj] at hu

set_option maxRecDepth 100000 in
set_option maxHeartbeats 1000000 in
theorem with_calls (LO : Option Addr) (cl : Nat) (lo : List Int) (k : Nat) (x : Int) (w : World) (h : Ints w LO lo) (hl : lo.length ≤ 1000) (hk : k < lo.length) :
    Calls Try.prog 37 #[.slice LO lo.length cl, .int .i64 k, .int .i64 x] w fun e w' => ∃ g cap, e = .returned (.slice (some ⟨g, 0, none⟩) lo.length cap) ∧ Ints w' (some ⟨g, 0, none⟩) (lo.set k x) ∧ Below w.heap.size w w' := by
  obtain ⟨b, o, rfl, _⟩ := h k hk
  obtain ⟨i0, hi, hz0, hz1, hz2⟩ := info_parts infoInt
  have HI := Lib.hid h
  have hcl := Lib.hid (ints_cells h)
  have hz : (k : Int) < lo.length := by omega
  clear h
  go_enter Try.func37, Try.ntmps37
  go_wp2_with (at_builtin; refine wpList_append_lies _ rfl (.tmp 8) (.tmp 9) 23 rfl w.heap.size 3 i0 (.int .i64 0) 1 8 Try.underlying23 hi hz0 hz1 hz2 rfl (by decide) (.slice none 0 0) 0 [] rfl (World.ownsRow_nil _ _ _ _) ⟨b, o, none⟩ lo.length cl (lo.map (Value.int .i64)) rfl (by simp) hcl.out (by simp [Value.oneCell']) (by omega) (by unfold maxLen; omega) (by omega) (Nat.le_refl _) w.heap.size rfl ?_)
  intro g cap w1 hown hgrow hg hgl
  have hgw : w.heap.size ≤ g := by
    rcases hg with e | e
    · cases e
    · omega
  obtain ⟨cur, hblk, _, hcl2, hct⟩ := own_blk hown
  have HB : Hid (Below w.heap.size w w1) := Lib.hid ((Below.refl w.heap.size w).grown hgrow (Nat.le_refl _) (fun q hq => by cases hq))
  have HS := Lib.hid (blk_ints_set hblk hct k x)
  have hf := hblk.free k
  have hcell := hblk.cell k (by omega)
  clear hown hgrow hg hblk hct HI hcl
  go_wp2
  go_ret
  exact ⟨g, cap, rfl, HS.out, HB.out.setCell hgw _⟩
end Go.Proofs.Ytbdlfjhhgnhejaa
