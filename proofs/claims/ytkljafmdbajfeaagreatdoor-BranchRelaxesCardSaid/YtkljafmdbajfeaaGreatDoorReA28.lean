/- branch.prover.good: is a leaf good? -/
import Derived.Test.YtkljafmdbajfeaaGreatDoorReA17
import Derived.Test.YtkljafmdbajfeaaGreatDoorReA21
import Derived.Test.YtkljafmdbajfeaaGreatDoorReA23
namespace Go.Proofs.YtkljafmdbajfeaaGreatDoor
open Go.RowKit
set_option linter.unusedVariables false
set_option linter.unusedSimpArgs false
def goodB (a : List (List Int)) (b c : List Int) (cost : Int) (none : Bool) (ys : List Int) (d : Int) (lo hi : List Int) : Bool :=
 leafOk a.length ys d && (decide (0 < boundN a b c ys d 0 lo hi c.length) || (!none && decide ((cost - 1) * d < boundN a b c ys d 1 lo hi c.length)))
set_option maxHeartbeats 400000 in
theorem good1_calls (x : Int) (w : World) : Calls Tryz.prog 225 #[.int .i64 x] w fun e w' => e = .returned (.bool (!(decide (0 ≤ x) && decide (x ≤ 1099511627776)))) ∧ w' = w := by
 by_cases h : x < 0
 ·have hd : decide (x < 0) = true := decide_eq_true h
  go_enter Tryz.func225, Tryz.ntmps225
  go_wp2
  go_ret
  exact ⟨by simp [show ¬ (0 ≤ x) by omega], rfl⟩
 ·have hd : decide (x < 0) = false := decide_eq_false h
  go_enter Tryz.func225, Tryz.ntmps225
  go_wp2
  go_ret
  exact ⟨by by_cases h7 : x ≤ 1099511627776 <;> simp [show (0 ≤ x) by omega, h7] <;> omega, rfl⟩
theorem good1_tells (w : World) (xs : List Int) : Tells 225 #[] (fun x => !(decide (0 ≤ x) && decide (x ≤ 1099511627776))) w xs :=
 ⟨fun _ _ => by kernel_rfl, fun x _ w1 _ => (good1_calls x w1).mono fun e w2 ⟨he, hw⟩ => ⟨he, by rw [hw]; exact Below.refl _ _⟩⟩
theorem proof_any (u : List Int) : (u.any fun x => !(decide (0 ≤ x) && decide (x ≤ 1099511627776))) = !(u.all fun y => decide (0 ≤ y) && decide (y ≤ 1099511627776)) := by
 rw [List.not_all_eq_any_not]
theorem sgn_pos (x y : Int) : decide (0 < sgnI x y) = decide (y < x) := by
 unfold sgnI; split <;> (try split) <;> first | (rw [decide_eq_false (show ¬ y < x by omega)]; rfl) | (rw [decide_eq_true (show y < x by omega)]; rfl)
theorem wide_smallG {z : Int} (h : z.natAbs < 18446744073709551616) : Wide z := by
 unfold Wide; have := digits_small.2 h; omega
theorem intFresh (w : World) : IntBlk (w.alloc (.cells #[.bool false, .slice none 0 0] 196 (0, 0))) w.heap.size := .of (Blk.new w [.bool false, .slice none 0 0] _)
set_option maxRecDepth 100000 in
set_option maxHeartbeats 4000000 in
theorem good_calls (r : Nat) (A B C U Y : Option Addr) (ca cb cc cu cy : Nat) (a : List (List Int)) (b c u ys : List Int) (cost d va at' : Int) (none : Bool) (l0 l1 l2 l3 l4 h0 h1 h2 h3 h4 : Int) (w : World)
  (hp : PrAt w r A B C U ca cb cc cu a b c u cost none) (hw : Who w A B C U a b c u) (hY : Ints w Y ys) (hy : ys.length ≤ maxLen) (hok : progOk a b c = true) (hc5 : c.length ≤ 5) (hlo : EndsOk [l0, l1, l2, l3, l4]) (hhi : EndsOk [h0, h1, h2, h3, h4])
  (hcost : -9223372036854775808 ≤ cost ∧ cost ≤ 9223372036854775807) :
  Calls Tryz.prog 191 #[.pointer (some ⟨r, 0, .none⟩), .agg #[.int .i64 va, .int .i64 at', .slice Y ys.length cy, .int .i64 d], .agg #[.int .i64 l0, .int .i64 l1, .int .i64 l2, .int .i64 l3, .int .i64 l4, .int .i64 h0, .int .i64 h1, .int .i64 h2, .int .i64 h3, .int .i64 h4]] w fun e w' =>
   e = .returned (.bool (goodB a b c cost none ys d [l0, l1, l2, l3, l4] [h0, h1, h2, h3, h4])) ∧ Below w.heap.size w w' := by
 obtain ⟨k0, k1, k2, k3, k4, k5, k6⟩ := id hp
 have rl := hp.lt
 have hxl := hy
 have hla := hw.p.la
 unfold maxLen at hy hla
 have hbe : Below w.heap.size w ((w.alloc (.cells #[.int .i64 va, .int .i64 at', .slice Y ys.length cy, .int .i64 d] 128 (0, 0))).alloc (.cells #[.int .i64 l0, .int .i64 l1, .int .i64 l2, .int .i64 l3, .int .i64 l4, .int .i64 h0, .int .i64 h1, .int .i64 h2, .int .i64 h3, .int .i64 h4] 186 (0, 0))) := ((Below.refl _ _).alloc (Nat.le_refl _) _).alloc (by simp) _
 obtain ⟨G, hG⟩ : ∃ G, Hid (goodB a b c cost none ys d [l0, l1, l2, l3, l4] [h0, h1, h2, h3, h4] = G) := ⟨_, rfl⟩
 rw [hG.out]
 have hlf : Hid (leafOk a.length ys d = (decide (ys.length = a.length) && decide (1 ≤ d) && decide (d ≤ 1099511627776) && ys.all fun y => decide (0 ≤ y) && decide (y ≤ 1099511627776))) := Lib.hid rfl
 have B0 : Blk ((w.alloc (.cells #[.int .i64 va, .int .i64 at', .slice Y ys.length cy, .int .i64 d] 128 (0, 0))).alloc (.cells #[.int .i64 l0, .int .i64 l1, .int .i64 l2, .int .i64 l3, .int .i64 l4, .int .i64 h0, .int .i64 h1, .int .i64 h2, .int .i64 h3, .int .i64 h4] 186 (0, 0))) w.heap.size [.int .i64 va, .int .i64 at', .slice Y ys.length cy, .int .i64 d] 128 := (Blk.new w _ _).alloc _
 have B1 : Blk ((w.alloc (.cells #[.int .i64 va, .int .i64 at', .slice Y ys.length cy, .int .i64 d] 128 (0, 0))).alloc (.cells #[.int .i64 l0, .int .i64 l1, .int .i64 l2, .int .i64 l3, .int .i64 l4, .int .i64 h0, .int .i64 h1, .int .i64 h2, .int .i64 h3, .int .i64 h4] 186 (0, 0))) (w.heap.size + 1) [.int .i64 l0, .int .i64 l1, .int .i64 l2, .int .i64 l3, .int .i64 l4, .int .i64 h0, .int .i64 h1, .int .i64 h2, .int .i64 h3, .int .i64 h4] 186 := Blk.new' _ _ _ _ (by simp)
 have HP := Lib.hid hp
 by_cases e1 : ys.length = a.length
 ·have d1 : ((ys.length : Int) != (a.length : Int)) = false := by simp [e1]
  have E1 := Lib.hid e1; clear e1
  by_cases e2 : d < 1
  ·have d2 : decide (d < 1) = true := decide_eq_true e2
   go_enter Tryz.func191, Tryz.ntmps191
   go_wp2_with fail
   go_quiet (fail)
   go_wp2_with fail
   go_ret
   exact ⟨by rw [← hG.out]; unfold goodB; rw [hlf.out, decide_eq_false (show ¬ (1 ≤ d) by omega)]; simp, ext_trans hbe (drewN_below _ _)⟩
  ·have d2 : decide (d < 1) = false := decide_eq_false e2
   by_cases e3 : 1099511627776 < d
   ·have d3 : decide (1099511627776 < d) = true := decide_eq_true e3
    go_enter Tryz.func191, Tryz.ntmps191
    go_wp2_with fail
    go_quiet (fail)
    go_wp2_with fail
    go_ret
    exact ⟨by rw [← hG.out]; unfold goodB; rw [hlf.out, decide_eq_false (show ¬ (d ≤ 1099511627776) by omega)]; simp, ext_trans hbe (drewN_below _ _)⟩
   ·have d3 : decide (1099511627776 < d) = false := decide_eq_false e3
    go_enter Tryz.func191, Tryz.ntmps191
    go_wp2_with fail
    have hp2 := hp.ext hbe
    clear k0 k1 k2 k3 k4 k5 k6 hp
    generalize ((w.alloc (.cells #[.int .i64 va, .int .i64 at', .slice Y ys.length cy, .int .i64 d] 128 (0, 0))).alloc (.cells #[.int .i64 l0, .int .i64 l1, .int .i64 l2, .int .i64 l3, .int .i64 l4, .int .i64 h0, .int .i64 h1, .int .i64 h2, .int .i64 h3, .int .i64 h4] 186 (0, 0))) = W at *
    obtain ⟨k0, k1, k2, k3, k4, k5, k6⟩ := id hp2
    have n0 : W.cell? ⟨w.heap.size, 0, .none⟩ = some (.int .i64 va) := B0.cell 0 (by simp)
    have n1 : W.cell? ⟨w.heap.size, 1, .none⟩ = some (.int .i64 at') := B0.cell 1 (by simp)
    have n2 : W.cell? ⟨w.heap.size, 2, .none⟩ = some (.slice Y ys.length cy) := B0.cell 2 (by simp)
    have n3 : W.cell? ⟨w.heap.size, 3, .none⟩ = some (.int .i64 d) := B0.cell 3 (by simp)
    go_still_tail 24, (by kernel_rfl)
    change wpList _ _ _ _ _ W.drew
    go_wp2_with fail
    refine (containsFunc_int _ _ _ _ _ ys _ hxl (hY.ext (ext_trans hbe (Below.refl _ _).drew)) (good1_tells _ ys)).mono ?_
    rw [proof_any]
    rintro e w1 ⟨rfl, hb1⟩
    have hx1 : Below W.heap.size W w1 := ext_trans (Below.refl _ _).drew hb1
    cases hall : (ys.all fun y => decide (0 ≤ y) && decide (y ≤ 1099511627776))
    ·go_wp2_with fail
     go_ret
     exact ⟨by rw [← hG.out]; unfold goodB; rw [hlf.out, hall]; simp, ext_trans hbe hx1⟩
    ·have hok2 : leafOk a.length ys d = true := by
      rw [hlf.out, hall, decide_eq_true E1.out, decide_eq_true (show 1 ≤ d by omega), decide_eq_true (show d ≤ 1099511627776 by omega)]; rfl
     have hf0 : LeafFit a b c ys d 0 [l0, l1, l2, l3, l4] [h0, h1, h2, h3, h4] := ⟨hok, hc5, hok2, by omega, hlo, hhi⟩
     have hf1 : LeafFit a b c ys d 1 [l0, l1, l2, l3, l4] [h0, h1, h2, h3, h4] := ⟨hok, hc5, hok2, by omega, hlo, hhi⟩
     have hgb := hG.out
     unfold goodB at hgb
     rw [hok2, Bool.true_and] at hgb
     have hbd := fun w hp hw hY => bound_calls r A B C U Y ca cb cc cu cy a b c u ys cost d 0 va at' none l0 l1 l2 l3 l4 h0 h1 h2 h3 h4 w hp hw hY hxl hf0
     have hbd1 := fun w hp hw hY => bound_calls r A B C U Y ca cb cc cu cy a b c u ys cost d 1 va at' none l0 l1 l2 l3 l4 h0 h1 h2 h3 h4 w hp hw hY hxl hf1
     have hs0 := hf0.bound c.length (Nat.le_refl _)
     have hs1 := hf1.bound c.length (Nat.le_refl _)
     generalize boundN a b c ys d 0 [l0, l1, l2, l3, l4] [h0, h1, h2, h3, h4] c.length = S0 at *
     generalize boundN a b c ys d 1 [l0, l1, l2, l3, l4] [h0, h1, h2, h3, h4] c.length = S1 at *
     have HC5 := Lib.hid hc5
     have HBD := Lib.hid hbd; have HBD1 := Lib.hid hbd1; have HGB := Lib.hid hgb
     have hx0 := ext_trans hbe hx1
     have hp1 := hp2.ext hx1
     have hw1 := hw.ext hx0
     have hY1 := hY.ext hx0
     have C0 := B0.ext hx1
     have C1 := B1.ext hx1
     clear hbd hbd1 hgb hp2 B0 B1 k0 k1 k2 k3 k4 k5 k6 n0 n1 n2 n3 hbe hx1 hb1 hw hY hok hc5 hlo hhi hf0 hf1 hall d1 d2 d3
     have n0 : w1.cell? ⟨w.heap.size, 0, .none⟩ = some (.int .i64 va) := C0.cell 0 (by simp)
     have n1 : w1.cell? ⟨w.heap.size, 1, .none⟩ = some (.int .i64 at') := C0.cell 1 (by simp)
     have n2 : w1.cell? ⟨w.heap.size, 2, .none⟩ = some (.slice Y ys.length cy) := C0.cell 2 (by simp)
     have n3 : w1.cell? ⟨w.heap.size, 3, .none⟩ = some (.int .i64 d) := C0.cell 3 (by simp)
     have b0 : w1.cell? ⟨w.heap.size + 1, 0, .none⟩ = some (.int .i64 l0) := C1.cell 0 (by simp)
     have b1 : w1.cell? ⟨w.heap.size + 1, 1, .none⟩ = some (.int .i64 l1) := C1.cell 1 (by simp)
     have b2 : w1.cell? ⟨w.heap.size + 1, 2, .none⟩ = some (.int .i64 l2) := C1.cell 2 (by simp)
     have b3 : w1.cell? ⟨w.heap.size + 1, 3, .none⟩ = some (.int .i64 l3) := C1.cell 3 (by simp)
     have b4 : w1.cell? ⟨w.heap.size + 1, 4, .none⟩ = some (.int .i64 l4) := C1.cell 4 (by simp)
     have b5 : w1.cell? ⟨w.heap.size + 1, 5, .none⟩ = some (.int .i64 h0) := C1.cell 5 (by simp)
     have b6 : w1.cell? ⟨w.heap.size + 1, 6, .none⟩ = some (.int .i64 h1) := C1.cell 6 (by simp)
     have b7 : w1.cell? ⟨w.heap.size + 1, 7, .none⟩ = some (.int .i64 h2) := C1.cell 7 (by simp)
     have b8 : w1.cell? ⟨w.heap.size + 1, 8, .none⟩ = some (.int .i64 h3) := C1.cell 8 (by simp)
     have b9 : w1.cell? ⟨w.heap.size + 1, 9, .none⟩ = some (.int .i64 h4) := C1.cell 9 (by simp)
     have nl := C0.lt
     have bl := C1.lt
     have rl1 := hp1.lt
     obtain ⟨k0, k1, k2, k3, k4, k5, k6⟩ := id hp1
     go_wp2_with fail
     refine (HBD.out _ hp1 hw1 hY1).mono ?_; rintro e w2 ⟨rfl, hb2⟩
     have hx2 := ext_trans hx0 hb2
     have hp2 := hp1.ext hb2
     have hw2 := hw1.ext hb2
     have hY2 := hY1.ext hb2
     have D0 := C0.ext hb2
     have D1 := C1.ext hb2
     clear n0 n1 n2 n3 b0 b1 b2 b3 b4 b5 b6 b7 b8 b9 k0 k1 k2 k3 k4 k5 k6 hb2 C0 C1 hp1 hw1 hY1 nl bl rl1 hx0
     cases hz : decide (0 < S0)
     ·rw [hz, Bool.false_or] at HGB
      have HZ := Lib.hid hz
      clear hz
      have n0 : w2.cell? ⟨w.heap.size, 0, .none⟩ = some (.int .i64 va) := D0.cell 0 (by simp)
      have n1 : w2.cell? ⟨w.heap.size, 1, .none⟩ = some (.int .i64 at') := D0.cell 1 (by simp)
      have n2 : w2.cell? ⟨w.heap.size, 2, .none⟩ = some (.slice Y ys.length cy) := D0.cell 2 (by simp)
      have n3 : w2.cell? ⟨w.heap.size, 3, .none⟩ = some (.int .i64 d) := D0.cell 3 (by simp)
      have b0 : w2.cell? ⟨w.heap.size + 1, 0, .none⟩ = some (.int .i64 l0) := D1.cell 0 (by simp)
      have b1 : w2.cell? ⟨w.heap.size + 1, 1, .none⟩ = some (.int .i64 l1) := D1.cell 1 (by simp)
      have b2 : w2.cell? ⟨w.heap.size + 1, 2, .none⟩ = some (.int .i64 l2) := D1.cell 2 (by simp)
      have b3 : w2.cell? ⟨w.heap.size + 1, 3, .none⟩ = some (.int .i64 l3) := D1.cell 3 (by simp)
      have b4 : w2.cell? ⟨w.heap.size + 1, 4, .none⟩ = some (.int .i64 l4) := D1.cell 4 (by simp)
      have b5 : w2.cell? ⟨w.heap.size + 1, 5, .none⟩ = some (.int .i64 h0) := D1.cell 5 (by simp)
      have b6 : w2.cell? ⟨w.heap.size + 1, 6, .none⟩ = some (.int .i64 h1) := D1.cell 6 (by simp)
      have b7 : w2.cell? ⟨w.heap.size + 1, 7, .none⟩ = some (.int .i64 h2) := D1.cell 7 (by simp)
      have b8 : w2.cell? ⟨w.heap.size + 1, 8, .none⟩ = some (.int .i64 h3) := D1.cell 8 (by simp)
      have b9 : w2.cell? ⟨w.heap.size + 1, 9, .none⟩ = some (.int .i64 h4) := D1.cell 9 (by simp)
      have nl := D0.lt
      have bl := D1.lt
      have rl2 := hp2.lt
      obtain ⟨k0, k1, k2, k3, k4, k5, k6⟩ := id hp2
      have hz2 : decide (0 < S0) = false := HZ.out
      go_upto_region 5 with (fail)
      cases none
      ·have hwc : Wide cost := wide_smallG (by omega)
       have hw1c : Wide 1 := wide_smallG (by omega)
       have hl5 : (c.length : Int) ≤ 5 := by have := HC5.out; omega
       go_cut [6] (fun s wx => s = .bool G ∧ Below w2.heap.size w2 wx)
       case first =>
        obtain ⟨Q, hQ⟩ : ∃ Q, Hid (sgnI S1 ((cost - 1) * d) = Q) := ⟨_, rfl⟩
        have hcm : Hid (∀ p q w, BigP w p S1 → BigP w q ((cost - 1) * d) → Calls Tryz.prog 227 #[.pointer (some ⟨p, 0, .none⟩), .pointer (some ⟨q, 0, .none⟩)] w fun e w' => e = .returned (.int .i64 Q) ∧ ∃ k, w' = w.drewN k) := Lib.hid fun p q w h1 h2 => by rw [← hQ.out]; exact cmp_calls p q _ _ w h1 h2
        have hdq : decide (0 < Q) = G := by rw [← hQ.out, sgn_pos, ← HGB.out]; rfl
        have HDQ := Lib.hid hdq
        have N1 := Lib.hid (fun W => newInt_calls S1 W (by omega) (by omega)); have N2 := Lib.hid (fun W => newInt_calls cost W (by omega) (by omega)); have N3 := Lib.hid (fun W => newInt_calls 1 W (by omega) (by omega)); have N4 := Lib.hid (fun W => newInt_calls d W (by omega) (by omega))
        have HSB := Lib.hid (fun p q r W (hp : IntBlk W p) (hx : BigP W q cost) (hy : BigP W r 1) => sub_t p q r cost 1 W hp hx hy hwc hw1c)
        have HML := Lib.hid (fun p q r W (hp : IntBlk W p) (hx : BigP W q (cost - 1)) (hy : BigP W r d) => mul_t p q r (cost - 1) d W hp hx hy (wide_smallG (by omega)) (wide_smallG (by omega)))
        clear hdq hwc hw1c
        refine wp_region_keys (w0 := w2) 27 [38, 39, 40, 41, 42, 43, 44, 45, 46, 47, 48, 49, 50, 51, 52, 53, 54, 55, 56, 57, 58, 59, 60, 61, 62, 63, 64]
         [leafS 38 (.pointer (some ⟨r, 0, none⟩)), leafS 39 (.pointer (some ⟨r, 0, none⟩)), leafS 40 (.pointer (some ⟨r, 6, none⟩)), leafS 41 (.bool false), leafS 42 (.bool true), leafS 43 (.bool true), leafS 44 (.pointer (some ⟨r, 0, none⟩)), leafS 45 (.agg #[.int .i64 va, .int .i64 at', .slice Y ys.length cy, .int .i64 d]), leafS 46 (.agg #[.int .i64 l0, .int .i64 l1, .int .i64 l2, .int .i64 l3, .int .i64 l4, .int .i64 h0, .int .i64 h1, .int .i64 h2, .int .i64 h3, .int .i64 h4]), leafS 47 (.int .i64 S1), leafV 48 (fun p w => BigP w p S1) w2.heap.size, leafA IntBlk 49 w2.heap.size, leafA IntBlk 50 w2.heap.size, leafS 51 (.pointer (some ⟨r, 0, none⟩)), leafS 52 (.pointer (some ⟨r, 0, none⟩)), leafS 53 (.pointer (some ⟨r, 5, none⟩)), leafS 54 (.int .i64 cost), leafV 55 (fun p w => BigP w p cost) w2.heap.size, leafV 56 (fun p w => BigP w p 1) w2.heap.size, leafR 50 57 (fun p w => BigP w p (cost - 1)) w2.heap.size, leafS 58 (.pointer (some ⟨w.heap.size, 3, none⟩)), leafS 59 (.int .i64 d), leafV 60 (fun p w => BigP w p d) w2.heap.size, leafR 49 61 (fun p w => BigP w p ((cost - 1) * d)) w2.heap.size, leafS 62 (.int .i64 Q), leafS 63 (.bool (decide (0 < Q))), leafS 64 (.bool (decide (0 < Q)))]
         [48, 49, 50, 55, 56, 60] [none, none, none, none, none, none, none, none, none, none, none, none, none, none, none, none, none, none, none, some 50, none, none, none, some 49, none, none, none] IntBlk (by kernel_rfl) (by kernel_rfl) (by kernel_rfl) rfl (F := ?cFg5) ?g5c1 ?g5c2 ?g5c3 ?g5c4
        case g5c1 =>
         intro x
         simp only [fullF, Act.put, List.setIfInBounds_toArray, List.set_cons_zero, List.set_cons_succ]
         rfl
        case g5c2 =>
         exact ⟨keeps_const _ _ _ _ _ _ _, keeps_const _ _ _ _ _ _ _, keeps_const _ _ _ _ _ _ _, keeps_const _ _ _ _ _ _ _, keeps_const _ _ _ _ _ _ _, keeps_const _ _ _ _ _ _ _, keeps_const _ _ _ _ _ _ _, keeps_const _ _ _ _ _ _ _, keeps_const _ _ _ _ _ _ _, keeps_const _ _ _ _ _ _ _, keeps_key (calm_big _) _ _ _ _ _ rfl rfl, keeps_alloc intBlk_ext intBlk_other _ _ _ _ _, keeps_alloc intBlk_ext intBlk_other _ _ _ _ _, keeps_const _ _ _ _ _ _ _, keeps_const _ _ _ _ _ _ _, keeps_const _ _ _ _ _ _ _, keeps_const _ _ _ _ _ _ _, keeps_key (calm_big _) _ _ _ _ _ rfl rfl, keeps_key (calm_big _) _ _ _ _ _ rfl rfl, keeps_res (calm_big _) _ _ _ _ _ rfl (by decide), keeps_const _ _ _ _ _ _ _, keeps_const _ _ _ _ _ _ _, keeps_key (calm_big _) _ _ _ _ _ rfl rfl, keeps_res (calm_big _) _ _ _ _ _ rfl (by decide), keeps_const _ _ _ _ _ _ _, keeps_const _ _ _ _ _ _ _, keeps_const _ _ _ _ _ _ _, trivial⟩
        case g5c3 =>
         refine ⟨?_, ?_, ?_, ?_, ?_, ?_, ?_, ?_, ?_, ?_, ?_, ?_, ?_, ?_, ?_, ?_, ?_, ?_, ?_, ?_, ?_, ?_, ?_, ?_, ?_, ?_, ?_, trivial⟩
         all_goals
          intro xx wq HE hd K hK
          have hc := (bcell HE).1
          have n0' := (hc _ _ (cell_lt n0)).trans n0
          have n1' := (hc _ _ (cell_lt n1)).trans n1
          have n2' := (hc _ _ (cell_lt n2)).trans n2
          have n3' := (hc _ _ (cell_lt n3)).trans n3
          have b0' := (hc _ _ (cell_lt b0)).trans b0
          have b1' := (hc _ _ (cell_lt b1)).trans b1
          have b2' := (hc _ _ (cell_lt b2)).trans b2
          have b3' := (hc _ _ (cell_lt b3)).trans b3
          have b4' := (hc _ _ (cell_lt b4)).trans b4
          have b5' := (hc _ _ (cell_lt b5)).trans b5
          have b6' := (hc _ _ (cell_lt b6)).trans b6
          have b7' := (hc _ _ (cell_lt b7)).trans b7
          have b8' := (hc _ _ (cell_lt b8)).trans b8
          have b9' := (hc _ _ (cell_lt b9)).trans b9
          have k5' := (hc _ _ (cell_lt k5)).trans k5
          have k6' := (hc _ _ (cell_lt k6)).trans k6
          try have e0 : xx 38 = _ := hd 0 _ (by decide) rfl
          try have e1 : xx 39 = _ := hd 1 _ (by decide) rfl
          try have e2 : xx 40 = _ := hd 2 _ (by decide) rfl
          try have e3 : xx 41 = _ := hd 3 _ (by decide) rfl
          try have e4 : xx 42 = _ := hd 4 _ (by decide) rfl
          try have e5 : xx 43 = _ := hd 5 _ (by decide) rfl
          try have e6 : xx 44 = _ := hd 6 _ (by decide) rfl
          try have e7 : xx 45 = _ := hd 7 _ (by decide) rfl
          try have e8 : xx 46 = _ := hd 8 _ (by decide) rfl
          try have e9 : xx 47 = _ := hd 9 _ (by decide) rfl
          try have g10 := hd 10 _ (by decide) rfl
          try have g11 := hd 11 _ (by decide) rfl
          try have g12 := hd 12 _ (by decide) rfl
          try have e13 : xx 51 = _ := hd 13 _ (by decide) rfl
          try have e14 : xx 52 = _ := hd 14 _ (by decide) rfl
          try have e15 : xx 53 = _ := hd 15 _ (by decide) rfl
          try have e16 : xx 54 = _ := hd 16 _ (by decide) rfl
          try have g17 := hd 17 _ (by decide) rfl
          try have g18 := hd 18 _ (by decide) rfl
          try have g19 := hd 19 _ (by decide) rfl
          try have e20 : xx 58 = _ := hd 20 _ (by decide) rfl
          try have e21 : xx 59 = _ := hd 21 _ (by decide) rfl
          try have g22 := hd 22 _ (by decide) rfl
          try have g23 := hd 23 _ (by decide) rfl
          try have e24 : xx 62 = _ := hd 24 _ (by decide) rfl
          try have e25 : xx 63 = _ := hd 25 _ (by decide) rfl
          try have e26 : xx 64 = _ := hd 26 _ (by decide) rfl
          have HE := Lib.hid HE
          have HC := Lib.hid hc
          clear hd hc
          all_goals go_simp
          try (refine hK _ _ _ (mv_const _ rfl) ?_; dsimp only [Act.put]; first | done | rfl | (simp [*]; done))
         ·refine (HBD1.out wq (hp2.ext HE.out) (hw2.ext HE.out) (hY2.ext HE.out)).mono ?_
          rintro e w3 ⟨rfl, hb3⟩
          exact hK _ _ _ (mv_plain hb3 rfl rfl) (by first | (dsimp only [Act.put]; done) | (dsimp only [Act.put]; first | rfl | (simp [*]; done) | (simp [*, ptr]; done)))
         ·refine (N1.out wq).mono ?_
          rintro e w3 ⟨p, rfl, hk1, hk2, hb2⟩
          exact hK _ _ _ (mv_new hb2 HE.out.size hk1 hk2.lt hk2) (by first | (dsimp only [Act.put]; done) | (dsimp only [Act.put]; first | rfl | (simp [*]; done) | (simp [*, ptr]; done)))
         ·refine hK _ _ _ (mv_alloc _ HE.out.size (intFresh _)) ?_
          dsimp only [Act.put]
          first | rfl | (simp [*]; done) | (simp [*, ptr]; done)
         ·refine hK _ _ _ (mv_alloc _ HE.out.size (intFresh _)) ?_
          dsimp only [Act.put]
          first | rfl | (simp [*]; done) | (simp [*, ptr]; done)
         ·refine (N2.out wq).mono ?_
          rintro e w3 ⟨p, rfl, hk1, hk2, hb2⟩
          exact hK _ _ _ (mv_new hb2 HE.out.size hk1 hk2.lt hk2) (by first | (dsimp only [Act.put]; done) | (dsimp only [Act.put]; first | rfl | (simp [*]; done) | (simp [*, ptr]; done)))
         ·refine (N3.out wq).mono ?_
          rintro e w3 ⟨p, rfl, hk1, hk2, hb2⟩
          exact hK _ _ _ (mv_new hb2 HE.out.size hk1 hk2.lt hk2) (by first | (dsimp only [Act.put]; done) | (dsimp only [Act.put]; first | rfl | (simp [*]; done) | (simp [*, ptr]; done)))
         ·obtain ⟨p0, h50, hk1, hk2⟩ := g12
          obtain ⟨p1, h55, hc1, hc2⟩ := g17
          obtain ⟨p2, h56, hd1, hd2⟩ := g18
          rw [h50, h55, h56]
          refine (HSB.out p0 p1 p2 wq hk2 hc2 hd2).mono ?_
          rintro e w3 ⟨rfl, hz3, hb3, -⟩
          exact hK _ _ _ (mv_set h50 hk1 hk2 hz3.blk hb3 hz3 (by decide) rfl) (by first | (dsimp only [Act.put]; done) | (dsimp only [Act.put]; first | rfl | (simp [*]; done) | (simp [*, ptr]; done)))
         ·refine (N4.out wq).mono ?_
          rintro e w3 ⟨p, rfl, hk1, hk2, hb2⟩
          exact hK _ _ _ (mv_new hb2 HE.out.size hk1 hk2.lt hk2) (by first | (dsimp only [Act.put]; done) | (dsimp only [Act.put]; first | rfl | (simp [*]; done) | (simp [*, ptr]; done)))
         ·obtain ⟨p0, h49, hk1, hk2⟩ := g11
          obtain ⟨p1, h50, h57, hc1, hc2⟩ := g19
          obtain ⟨p2, h60, hd1, hd2⟩ := g22
          rw [h49, h57, h60]
          refine (HML.out p0 p1 p2 wq hk2 hc2 hd2).mono ?_
          rintro e w3 ⟨rfl, hz3, hb3, -⟩
          exact hK _ _ _ (mv_set h49 hk1 hk2 hz3.blk hb3 hz3 (by decide) rfl) (by first | (dsimp only [Act.put]; done) | (dsimp only [Act.put]; first | rfl | (simp [*]; done) | (simp [*, ptr]; done)))
         ·obtain ⟨p1, h48, hp1, hq1⟩ := g10
          obtain ⟨p2, h49, h61, hp2', hq2⟩ := g23
          rw [h48, h61]
          refine (hcm.out p1 p2 wq hq1 hq2).mono ?_
          rintro e w3 ⟨rfl, k3, rfl⟩
          exact hK _ _ _ (mv_plain (drewN_below _ _) rfl rfl) (by first | (dsimp only [Act.put]; done) | (dsimp only [Act.put]; first | rfl | (simp [*]; done) | (simp [*, ptr]; done)))
        case g5c4 =>
         intro xx wz hE hG hA
         have e0 : xx 38 = _ := hG 0 _ rfl
         have e1 : xx 39 = _ := hG 1 _ rfl
         have e2 : xx 40 = _ := hG 2 _ rfl
         have e3 : xx 41 = _ := hG 3 _ rfl
         have e4 : xx 42 = _ := hG 4 _ rfl
         have e5 : xx 43 = _ := hG 5 _ rfl
         have e6 : xx 44 = _ := hG 6 _ rfl
         have e7 : xx 45 = _ := hG 7 _ rfl
         have e8 : xx 46 = _ := hG 8 _ rfl
         have e9 : xx 47 = _ := hG 9 _ rfl
         have g10 := hG 10 _ rfl
         have g11 := hG 11 _ rfl
         have g12 := hG 12 _ rfl
         have e13 : xx 51 = _ := hG 13 _ rfl
         have e14 : xx 52 = _ := hG 14 _ rfl
         have e15 : xx 53 = _ := hG 15 _ rfl
         have e16 : xx 54 = _ := hG 16 _ rfl
         have g17 := hG 17 _ rfl
         have g18 := hG 18 _ rfl
         have g19 := hG 19 _ rfl
         have e20 : xx 58 = _ := hG 20 _ rfl
         have e21 : xx 59 = _ := hG 21 _ rfl
         have g22 := hG 22 _ rfl
         have g23 := hG 23 _ rfl
         have e24 : xx 62 = _ := hG 24 _ rfl
         have e25 : xx 63 = _ := hG 25 _ rfl
         have e26 : xx 64 = _ := hG 26 _ rfl
         have HEz := Lib.hid hE
         clear hG hA hE
         (refine tail_one (i := 27) (by kernel_rfl) rfl ?_; intro K hK; go_simp; refine hK _ _ ?_; clear hK)
         refine wpAny_done (by kernel_rfl) ?_ _
         go_wp2_with fail
         go_meet
         exact ⟨by rw [HDQ.out], HEz.out⟩
       case rest =>
        obtain ⟨rfl, hxx⟩ := hcut
        go_wp2_with fail
        go_ret
        exact ⟨rfl, ext_trans hx2 hxx⟩
      ·go_quiet (fail)
       go_wp2_with fail
       go_ret
       exact ⟨by rw [← HGB.out]; rfl, ext_trans hx2 (drewN_below _ _)⟩
     ·go_wp2_with fail
      go_ret
      exact ⟨by rw [← HGB.out, hz]; rfl, hx2⟩
 ·have d1 : ((ys.length : Int) != (a.length : Int)) = true := by simp; omega
  have E1 := Lib.hid e1; clear e1
  go_enter Tryz.func191, Tryz.ntmps191
  go_wp2_with fail
  go_quiet (fail)
  go_wp2_with fail
  go_ret
  exact ⟨by rw [← hG.out]; unfold goodB; rw [hlf.out, decide_eq_false E1.out]; simp, ext_trans hbe (drewN_below _ _)⟩
end Go.Proofs.YtkljafmdbajfeaaGreatDoor
